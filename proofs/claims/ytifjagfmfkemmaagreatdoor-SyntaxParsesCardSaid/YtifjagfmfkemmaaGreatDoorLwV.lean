import Derived.Test.YtifjagfmfkemmaaGreatDoorLwU
set_option linter.unusedVariables false
set_option linter.unusedSimpArgs false
set_option maxHeartbeats 4000000
namespace Go.Proofs.YtifjagfmfkemmaaGreatDoor
open Eng Go
section
variable {K:Nat} {l:List Tk}
theorem Fo {α β γ:Type} (Φ:Option γ→Prop) {ts:List Tk} (h:Sx l ts) {d:Nat} {x:Rs α} {f:α→List Tk→Rs β} {r:Except (List Tk) (β×List Tk)} {o:Option (Int ⊕ (α×Ab))} {g:Int ⊕ (α×Ab)→Option γ}
  (hr:bnd x f=some r) (hx:∀ r,x=some r→Ate d ts r) (hq:∀ r,x=some r→o=some (cR l r))
  (hok:∀ a ts',Sx l ts'→Eat d ts ts'→f a ts'=some r→Φ (g (.inr (a,st l ts')))) (hbad:∀ e,r=.error e→Φ (g (.inl (atE e)))):Φ (Option.bind o g):=by
 rcases Fd (γ:=β) h hx hr with ⟨e,hx',he⟩ |⟨a,ts',hx',h3,h4,hr⟩
 ·rw [hq _ hx']; exact hbad e he
 ·rw [hq _ hx']; exact hok a ts' h3 h4 hr
theorem U0 {α β γ:Type} (Φ:Option γ→Prop) {ts:List Tk} (h:Sx l ts) {d:Nat} {x:Rs α} {f:α→List Tk→Rs β} {r:Except (List Tk) (β×List Tk)} {o:Option ((α×Ab) ⊕ Int)} {g:(α×Ab) ⊕ Int→Option γ}
  (hr:bnd x f=some r) (hx:∀ r,x=some r→Ate d ts r) (hq:∀ r,x=some r→o=some (cL l r))
  (hok:∀ a ts',Sx l ts'→Eat d ts ts'→f a ts'=some r→Φ (g (.inl (a,st l ts')))) (hbad:∀ e,r=.error e→Φ (g (.inr (atE e)))):Φ (Option.bind o g):=by
 rcases Fd (γ:=β) h hx hr with ⟨e,hx',he⟩ |⟨a,ts',hx',h3,h4,hr⟩
 ·rw [hq _ hx']; exact hbad e he
 ·rw [hq _ hx']; exact hok a ts' h3 h4 hr
theorem G8 {β γ:Type} (Φ:Option γ→Prop) {ts:List Tk} (h:Sx l ts) {s:List UInt8} {f:Unit→List Tk→Rs β} {r:Except (List Tk) (β×List Tk)} {g:Ab ⊕ Int→Option γ}
  (hr:bnd (Ee s ts) f=some r) (hok:Sx l ts.tail→f () ts.tail=some r→Φ (g (.inl (st l ts.tail)))) (hbad:∀ e,r=.error e→Φ (g (.inr (atE e)))):Φ (Option.bind (Au K s (st l ts)) g):=by
 unfold Ee at hr;by_cases h1:isS s ts=true
 ·rw [if_pos h1] at hr;rw [Jv h h1];exact hok (h.is h1) hr
 ·rw [if_neg h1] at hr;rw [Jz h h1];cases hr;exact hbad ts rfl
theorem Hd {β γ:Type} (Φ:Option γ→Prop) {ts:List Tk} (h:Sx l ts) {s:List UInt8} {x y:Rs β} {r:Except (List Tk) (β×List Tk)} {g:Bool×Ab→Option γ}
  (hr:(if isS s ts=true then x else y)=some r) (ht:isS s ts=true→Sx l ts.tail→x=some r→Φ (g (true,st l ts.tail))) (hf:y=some r→Φ (g (false,st l ts))):Φ (Option.bind (Ap K s (st l ts)) g):=by
 by_cases h1:isS s ts=true
 ·rw [if_pos h1] at hr;rw [H8 h h1];exact ht h1 (h.is h1) hr
 ·rw [if_neg h1] at hr;rw [Hv h h1];exact hf hr
abbrev Is {α:Type} (l:List Tk) (r:Except (List Tk) (α×List Tk)):Option (Int ⊕ (α×Ab))→Prop:=fun o=>o=some (cR l r)
theorem G3 {α:Type} {a:α} {ts:List Tk} {r:Except (List Tk) (α×List Tk)} (hr:pok a ts=some r):some (Sum.inr (a,st l ts))=some (cR l r):=by cases hr; rfl
theorem Gd {α:Type} {e:List Tk} {r:Except (List Tk) (α×List Tk)} (hr:r=.error e):some (Sum.inl (atE e))=some (cR l r):=by subst hr; rfl
theorem Mx {ts:List Tk} (h:Sx l ts) {d:Nat} {p:List Tk→Rs Nd} {q:Ab→Option (Int ⊕ (Nd×Ab))} (hq:F1 l p q) {r:Except (List Tk) (Nd×List Tk)} (hr:p ts=some r) :
  Option.bind (q (st l ts)) (fun a1=>match a1 with |(Sum.inl a1)=>some (Sum.inl a1) |(Sum.inr (a,b))=>some (Sum.inr (a,b)))=some (cR l r):=by
 rw [hq ts h r hr]; exact L4 r
def jx (l:List Tk) (i:Int):Int:=if IntKind.i64.wrap ((l.length:Int) - 1) < IntKind.i64.wrap (i+1) then IntKind.i64.wrap ((l.length:Int) - 1) else IntKind.i64.wrap (i+1)
theorem Rv {ts:List Tk} (h:Sx l ts):((0:Int)≤jx l (pos l ts)∧jx l (pos l ts) <(l.length:Int))∧∃ u r,(ts=[u]∨∃ t,ts=t :: u :: r)∧l.getD (Int.toNat (jx l (pos l ts))) Dp=u:=by
 have h1:=h.len; have h2:=h.hl;unfold jx;rw [h.succ,w64 (by omega) (by omega)];obtain ⟨t,r,rfl⟩:=h.gd.head
 match r,h,h1,h2 with
 | [],h,h1,h2 =>
  have h3:=M0 h;rw [if_pos (by simp only [pos,List.tail_cons,List.length_nil]; omega)];have e:(l.length:Int) - 1=pos l [t]:=by simp only [pos,List.length_cons,List.length_nil] at *; omega
  rw [e];exact ⟨⟨h3.1,h3.2.1⟩,t,[],.inl rfl,h3.2.2⟩
 | u :: r,h,h1,h2 =>
  have h4:Sx l (u :: r):=⟨(List.suffix_cons t _).trans h.sf,h.gd,h.hl⟩
  have h3:=M0 h4;have h5:=h4.len;rw [List.tail_cons,if_neg (by have:=h3.2.1; omega)];exact ⟨⟨h3.1,h3.2.1⟩,u,r,.inr ⟨t,rfl⟩,h3.2.2⟩
theorem Rt {ts:List Tk} (h:Sx l ts):Option.bind (Bx K (st l ts)) (fun a1=>if a1.Kind=1 then (if (l.getD (Int.toNat (jx l (pos l ts))) Dp).Kind=5 then some (decide ((l.getD (Int.toNat (jx l (pos l ts))) Dp).Text=[61])) else some false) else some false)=some (Kc ts):=by
 obtain ⟨-,u,r,hc,e⟩:=Rv h;rw [e];rcases hc with rfl |⟨t,rfl⟩
 ·rw [Hb h,Option.bind_some,if_neg (by rw [show u.Kind=0 from h.gd]; decide)]; rfl
 ·rw [Hb h,Option.bind_some];unfold Kc;by_cases h1:t.Kind=1
  ·by_cases h2:u.Kind=5
   ·simp [h1,h2]
   ·simp [h1,h2]
  ·simp [h1]
theorem J2 {ts:List Tk} (h:Kc ts=true):∃ t u r,ts=t :: u :: r∧Gg ts=some (.ok (t.Text,u :: r))∧isS [61] (u :: r)=true:=by
 unfold Kc at h;split at h
 ·rename_i t u r;simp at h;exact ⟨t,u,r,rfl,by simp [Gg,Gm,h.1,bnd],by simp [isS,h.2]⟩
 ·cases h
section
variable {E:SP} (hE:Hm E) (sE:F1 l E.ex (Av K))
include hE sE
theorem Oc:F1 l (J6 E) (Cf K):=fun ts h r hr=>by
 unfold Cf;refine Fo (Is l r) h hr (fun r=>hE.ex _ h.gd r) (fun r hx=>sE _ h _ hx) (fun a ts' h3 h4 hr=>?_) fun e he=>Gd he
 exact G8 (Is l r) h3 hr (fun h5 hr=>G3 hr) fun e he=>Gd he
theorem p_asn:F1 l (N2 E) (C6 K):=fun ts h r hr=>by
 unfold C6;have h1:=Rv h;have h2:=Rt (K:=K) h;show (if (0:Int)≤jx l (pos l ts)∧jx l (pos l ts) <(l.length:Int) then (Option.bind (Option.bind (Bx K (st l ts)) (fun a1=>if a1.Kind=1 then (if (l.getD (Int.toNat (jx l (pos l ts))) Dp).Kind=5 then some (decide ((l.getD (Int.toNat (jx l (pos l ts))) Dp).Text=[61])) else some false) else some false)) _) else none)=_;rw [if_pos h1.1,h2,Option.bind_some];unfold N2 ia at hr;by_cases ha:Kc ts=true
 ·rw [if_pos ha] at hr ⊢;obtain ⟨t,u,v,e,hn,he⟩:=J2 ha;have h3:Sx l (u :: v):=h.eat (d:=1) (D0 _ h.gd _ hn);have h4:=h3.is he;rw [G2 h hn,Option.bind_some];replace hr:bnd (Gg ts) (M7 E 41)=some r:=hr;rw [hn] at hr;replace hr:bnd (Ee [61] (u :: v)) (fun _=>sq (J6 E) fun a=>pok ⟨41,t.Text,0,[],[a]⟩)=some r:=hr;unfold Ee at hr;rw [if_pos he] at hr;replace hr:bnd (J6 E v) (fun a=>pok ⟨41,t.Text,0,[],[a]⟩)=some r:=hr;show Option.bind (Cf K ⟨l,IntKind.i64.wrap (pos l (u :: v)+1)⟩) _=_;rw [h3.succ];refine Fo (Is l r) h4 hr (fun r=>G6 hE _ h4.gd r) (fun r hx=>Oc hE sE _ h4 _ hx) (fun a ts' h3 h4 hr=>?_) fun e he=>Gd he
  dsimp only;rw [Ed];exact G3 hr
 ·rw [if_neg ha] at hr ⊢;refine Fo (Is l r) h hr (fun r=>G6 hE _ h.gd r) (fun r hx=>Oc hE sE _ h _ hx) (fun a ts' h3 h4 hr=>?_) fun e he=>Gd he
  dsimp only;rw [Ed];exact G3 hr
end
abbrev GB:=Bd
section
variable {E:SP} (hE:Hm E) (sE:F1 l E.ex (Av K))
theorem Tj {sm:List Tk→Rs Nd} (hs:Snd 1 sm) {R:GB} (hq:F1 l sm R.Bl):∀ (k k':Nat) (acc:List Nd) (ts:List Tk),k≤k'→acc.length+ts.length≤9000010→Sx l ts→∀ r,bnd (Ib sm k acc ts) (fun ks=>pok (nd 53 ks))=some r →
  obind (As.l9 K R k' l (pos l ts) acc) (fun r=>r) (fun (a,b,c)=>some (Sum.inr (nd 53 c,(⟨a,b⟩:Ab))))=some (cR l r):=by
 intro k
 induction k with
 | zero=>intro k' acc ts hk hn h r hr; cases hr
 | succ k ih =>
  intro k' acc ts hk hn h r hr;obtain ⟨k',rfl⟩:∃ j,k'=j+1:=⟨k' - 1,by omega⟩
  rw [As.l9];have hl:=h.len; have hh:=h.hl;show obind (Option.bind (Ap K [125] (st l ts)) _) _ _=_;replace hr:bnd (if isS [125] ts=true then pok acc ts.tail else bnd (sm ts) fun a ts=>Ib sm k (acc++[a]) ts) (fun ks=>pok (nd 53 ks))=some r:=hr;by_cases h1:isS [125] ts=true
  ·rw [if_pos h1] at hr;rw [H8 h h1]; cases hr; rfl
  ·rw [if_neg h1] at hr;rw [Hv h h1];have e:bnd (sm ts) (fun a ts=>bnd (Ib sm k (acc++[a]) ts) (fun ks=>pok (nd 53 ks)))=some r:=by
    rw [← hr]
    match sm ts with
    | none=>rfl
    | some (.error e)=>rfl
    | some (.ok (a,ts))=>rfl
   show obind (Option.bind (R.Bl (st l ts)) _) _ _=_;refine Fo (fun o=>obind o (fun r=>r) (fun (a,b,c)=>some (Sum.inr (nd 53 c,(⟨a,b⟩:Ab))))=some (cR l r)) h e (fun r=>hs _ h.gd r) (fun r hx=>hq _ h _ hx) (fun a ts' h3 h4 hr=>?_) (fun e he=>?_)
   rotate_left
   ·subst he; rfl
   have:=h4.2.1
   dsimp only;rw [Ed,if_pos (by simp; omega)];exact ih k' (acc++[a]) ts' (by omega) (by simp; omega) h3 r hr
theorem p_bl (hKl:l.length+2≤K) {S:SB} (hS:Ki S) {R:GB} (hq:F1 l S.sm R.Bl):F1 l (blF S) (As.F K R):=fun ts h r hr=>by
 unfold As.F;refine G8 (Is l r) h hr (fun h3 hr=>?_) fun e he=>Gd he
 have:=h3.len; have:=h3.hl
 exact Tj hS.sm hq _ K [] ts.tail (by omega) (by simp only [List.length_nil]; omega) h3 r hr
include hE sE
theorem p_cd {S:SB} (hS:Ki S) {R:GB} (hb:F1 l S.bl R.As) (hc:F1 l S.cd R.Bc):F1 l (cdF E S) (Bc.F K R):=fun ts h r hr=>by
 unfold Bc.F;refine Fo (Is l r) h hr (fun r=>hE.ex _ h.gd r) (fun r hx=>sE _ h _ hx) (fun a ts' h hx hr=>?_) fun e he=>Gd he
 refine Fo (Is l r) h hr (fun r=>hS.bl _ h.gd r) (fun r hx=>hb _ h _ hx) (fun b ts' h hx hr=>?_) fun e he=>Gd he
 show Option.bind (some [_,_]) _=_;rw [Option.bind_some,Ed,Ed];refine Hd (Is l r) h hr (fun h1 h hr=>?_) fun hr=>G3 hr
 refine Hd (Is l r) h hr (fun h1 h hr=>?_) fun hr=>?_
 ·refine Fo (Is l r) h hr (fun r=>hS.cd _ h.gd r) (fun r hx=>hc _ h _ hx) (fun c ts' h hx hr=>?_) fun e he=>Gd he
  dsimp only;rw [if_pos (by simp),Ed]; exact G3 hr
 ·refine Fo (Is l r) h hr (fun r=>hS.bl _ h.gd r) (fun r hx=>hb _ h _ hx) (fun c ts' h hx hr=>?_) fun e he=>Gd he
  dsimp only;rw [if_pos (by simp),Ed]; exact G3 hr
theorem p_chL {bl:List Tk→Rs Nd} (hs:Snd 1 bl) {R:GB} (hb:F1 l bl R.As) {F:List Nd→List Tk→Rs Nd} {T:List Tk×Int×List Nd→Option (Int ⊕ (Nd×Ab))} (hT:∀ ks ts,ks.length≤9000010→Sx l ts→∀ r,F ks ts=some r→T (l,pos l ts,ks)=some (cR l r)) :
  ∀ (k k':Nat) (acc:List Nd) (ts:List Tk),k≤k'→acc.length+ts.length≤9000010→Sx l ts→∀ r,bnd (chL E bl k acc ts) F=some r →
  obind (Bg.l9 K R k' l (pos l ts) acc) (fun r=>r) T=some (cR l r):=by
 intro k
 induction k with
 | zero=>intro k' acc ts hk hn h r hr; cases hr
 | succ k ih =>
  intro k' acc ts hk hn h r hr;obtain ⟨k',rfl⟩:∃ j,k'=j+1:=⟨k' - 1,by omega⟩
  rw [Bg.l9];have hl:=h.len; have hh:=h.hl;show obind (Option.bind (Ea K (st l ts) [99,97,115,101]) _) _ _=_;rw [Lq h,Option.bind_some];simp only [chL] at hr;by_cases h1:isS [99,97,115,101] ts=true
  ·rw [if_pos h1] at hr ⊢;by_cases h2:acc.length=16
   ·rw [if_pos h2] at hr;rw [if_pos (by omega)];show obind (Option.bind (Bp K (st l ts)) _) _ _=_;rw [Hz h]; cases hr; rfl
   ·rw [if_neg h2] at hr;rw [if_neg (by omega),h.succ];have h3:=h.is h1;have h4:=Rv h3;have h5:=Rt (K:=K) h3;have hlt:=(Eat.isS h.gd h1).2.1;have tail:∀ (s:List UInt8) (us:List Tk),Sx l us→us.length≤ts.tail.length→bnd (Kj E bl s us) (fun a ts=>bnd (chL E bl k (acc++[a]) ts) F)=some r →
      obind (Option.bind (Av K (st l us)) (fun a6=>match a6 with |(Sum.inl a6)=>some (X3.done (Sum.inl a6)) |(Sum.inr (c,m))=>(Option.bind (R.As m) (fun a7=>match a7 with |(Sum.inl a7)=>some (X3.done (Sum.inl a7)) |(Sum.inr (f,g))=>(if (acc.length+([(⟨50,s,0,[],([(⟨c.Op,c.Name,c.Int,c.Text,c.Kids⟩:Aa),(⟨f.Op,f.Name,f.Int,f.Text,f.Kids⟩:Aa)]:List Aa)⟩:Aa)]:List Aa).length) * 72≤140737488355328 then Bg.l9 K R k' g.l g.i (acc++([(⟨50,s,0,[],([(⟨c.Op,c.Name,c.Int,c.Text,c.Kids⟩:Aa),(⟨f.Op,f.Name,f.Int,f.Text,f.Kids⟩:Aa)]:List Aa)⟩:Aa)]:List Aa)) else none)))):Option (X3 (Int ⊕ (Aa×Ab)) ((List Ar)×Int×(List Aa)))) (fun r=>r) T=some (cR l r):=by
     intro s us hu hlu hr;have e:bnd (E.ex us) (fun a ts=>bnd (bl ts) (fun b ts=>bnd (chL E bl k (acc++[⟨50,s,0,[],[a,b]⟩]) ts) F))=some r:=by
      rw [← hr];unfold Kj sq
      match E.ex us with
      | none=>rfl
      | some (.error e)=>rfl
      | some (.ok (a,ts)) =>
       show bnd (bl ts) _=bnd (bnd (bl ts) _) _
       match bl ts with
       | none=>rfl
       | some (.error e)=>rfl
       | some (.ok (a,ts))=>rfl
     refine Fo (fun o=>obind o (fun r=>r) T=some (cR l r)) hu e (fun r=>hE.ex _ hu.gd r) (fun r hx=>sE _ hu _ hx) (fun a ts' h6 h7 hr=>?_) fun e he=>by subst he; rfl
     refine Fo (fun o=>obind o (fun r=>r) T=some (cR l r)) h6 hr (fun r=>hs _ h6.gd r) (fun r hx=>hb _ h6 _ hx) (fun b ts'' h8 h9 hr=>?_) fun e he=>by subst he; rfl
     have:=h7.2.1; have:=h9.2.1
     dsimp only;rw [Ed,Ed,if_pos (by simp; omega)];exact ih k' _ ts'' (by omega) (by simp; omega) h8 r hr
    show obind (obind (if (0:Int)≤jx l (pos l ts.tail)∧jx l (pos l ts.tail) <(l.length:Int) then (Option.bind (Option.bind (Bx K (st l ts.tail)) (fun a1=>if a1.Kind=1 then (if (l.getD (Int.toNat (jx l (pos l ts.tail))) Dp).Kind=5 then some (decide ((l.getD (Int.toNat (jx l (pos l ts.tail))) Dp).Text=[61])) else some false) else some false)) _) else none) _ _) _ _=_;rw [if_pos h4.1,h5,Option.bind_some];replace hr:bnd (bnd (Ln E bl ts.tail) (fun a ts=>chL E bl k (acc++[a]) ts)) F=some r:=hr;have hr:bnd (Ln E bl ts.tail) (fun a ts=>bnd (chL E bl k (acc++[a]) ts) F)=some r:=by
     rw [← hr]
     match Ln E bl ts.tail with
     | none=>rfl
     | some (.error e)=>rfl
     | some (.ok (a,ts))=>rfl
    unfold Ln ia at hr;by_cases ha:Kc ts.tail=true
    ·rw [if_pos ha] at hr ⊢;obtain ⟨t,u,v,e,hn',he⟩:=J2 ha;have h6:Sx l (u :: v):=h3.eat (d:=1) (D0 _ h3.gd _ hn');have h7:=h6.is he;show obind (obind (Option.bind (Ay K (st l ts.tail)) _) _ _) _ _=_;rw [G2 h3 hn',Option.bind_some];replace hr:bnd (bnd (Gg ts.tail) fun s=>sq (Ee [61]) fun _=>Kj E bl s) (fun a ts=>bnd (chL E bl k (acc++[a]) ts) F)=some r:=hr;rw [hn'] at hr;replace hr:bnd (bnd (Ee [61] (u :: v)) fun _=>Kj E bl t.Text) (fun a ts=>bnd (chL E bl k (acc++[a]) ts) F)=some r:=hr;unfold Ee at hr;rw [if_pos he] at hr;show obind (Option.bind (Av K ⟨l,IntKind.i64.wrap (pos l (u :: v)+1)⟩) _) _ _=_;rw [h6.succ];exact tail t.Text v h7 (by rw [e]; simp; omega) hr
    ·rw [if_neg ha] at hr ⊢;exact tail [] ts.tail h3 (Nat.le_refl _) hr
  ·rw [if_neg h1] at hr ⊢;exact hT acc ts (by omega) h r hr
theorem p_chS (hKl:l.length+2≤K) {bl:List Tk→Rs Nd} (hs:Snd 1 bl) {R:GB} (hb:F1 l bl R.As):F1 l (chS E bl) (Bg.F K R):=fun ts h r hr=>by
 unfold Bg.F;refine G8 (Is l r) h hr (fun h3 hr=>?_) fun e he=>Gd he
 have:=h3.len; have:=h3.hl
 refine p_chL hE sE hs hb (F:=fun ks=>sq (elS bl ks) chE) (fun ks us hn h r hr=>?_) _ K [] ts.tail (by omega) (by simp only [List.length_nil]; omega) h3 r hr;have fin:∀ (ks:List Nd) us,Sx l us→chE ks us=some r→(if (ks.length:Int)=0 then (Option.bind (Bp K (st l us)) (fun a11=>some (Sum.inl a11))) else (Option.bind (Au K [125] (st l us)) (fun a12=>match a12 with |(Sum.inl a12)=>some (Sum.inr ((⟨49,[],0,[],ks⟩:Aa),a12)) |(Sum.inr a12)=>some (Sum.inl a12))))=some (cR l r):=by
  intro ks us h hr;unfold chE at hr;by_cases h0:ks.length=0
  ·rw [if_pos h0] at hr;rw [if_pos (by omega),Hz h]; cases hr; rfl
  ·rw [if_neg h0] at hr;rw [if_neg (by omega)];exact G8 (Is l r) h hr (fun h5 hr=>G3 hr) fun e he=>Gd he
 show obind (Option.bind (Ap K [101,108,115,101] (st l us)) _) _ _=_;replace hr:bnd (if isS [101,108,115,101] us=true then bnd (bl us.tail) (fun b=>pok (ks++[nd 51 [b]])) else pok ks us) chE=some r:=hr;by_cases h1:isS [101,108,115,101] us=true
 ·rw [if_pos h1] at hr;rw [H8 h h1,Option.bind_some];have h2:=h.is h1;have e:bnd (bl us.tail) (fun b=>chE (ks++[nd 51 [b]]))=some r:=by
   rw [← hr]
   match bl us.tail with
   | none=>rfl
   | some (.error e)=>rfl
   | some (.ok (a,ts))=>rfl
  dsimp only;rw [if_pos rfl];refine Fo (fun o=>obind o (fun r=>r) _=some (cR l r)) h2 e (fun r=>hs _ h2.gd r) (fun r hx=>hb _ h2 _ hx) (fun a ts' h6 h7 hr=>?_) (fun e he=>?_)
  rotate_left
  ·subst he; rfl
  dsimp only;show obind (Option.bind (some (nd 51 [_])) _) _ _=_;rw [Option.bind_some,Ed,Ed,if_pos (by simp; omega)];exact fin _ _ h6 hr
 ·rw [if_neg h1] at hr;rw [Hv h h1];exact fin _ _ h hr
end
end
end Go.Proofs.YtifjagfmfkemmaaGreatDoor
