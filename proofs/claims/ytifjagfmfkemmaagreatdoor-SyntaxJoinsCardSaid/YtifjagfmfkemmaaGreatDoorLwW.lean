import Derived.Test.YtifjagfmfkemmaaGreatDoorLwV
set_option linter.unusedVariables false
set_option linter.unusedSimpArgs false
set_option maxHeartbeats 4000000
namespace Go.Proofs.YtifjagfmfkemmaaGreatDoor
open Eng Go
section
variable {K:Nat} {l:List Tk} {E:SP} (hE:Gp E) (sE:E7 l E.ex (As K)) (sC:∀ op s,K9 l (Ga E op s) (Bi K op s))
include hE sE sC
theorem p_sm (hKl:l.length+2≤K) {S:SB} (hS:Iv S) {g:Nat} (hb0:E7 l S.bl (A4.upto K g).Al) (hb:E7 l S.bl (A4.upto K (g+1)).Al) (hc:E7 l S.cd (A4.upto K (g+1)).A3) :
  E7 l (smF E S) (A4.upto K (g+2)).Ba:=fun ts h r hr=>by
 show Ba.F K (A4.upto K (g+1)) (st l ts)=_;unfold Ba.F;refine Gd (Is l r) h hr (fun h1 h hr=>?_) fun hr=>?_
 ·refine E1 (Is l r) h hr (fun r=>C6 _ h.gd r) (fun r hx=>F5 h hx) (fun s ts' h hx hr=>?_) fun e he=>Fk he
  refine F8 (Is l r) h hr (fun h hr=>?_) fun e he=>Fk he
  refine E1 (Is l r) h hr (fun r=>Fg hE _ h.gd r) (fun r hx=>K8 hE sE _ h _ hx) (fun a ts' h hx hr=>?_) fun e he=>Fk he
  dsimp only;rw [Eu];exact F7 hr
 refine Gd (Is l r) h hr (fun h1 h hr=>K3 (d:=1) h hc hr) fun hr=>?_
 refine Gd (Is l r) h hr (fun h1 h hr=>?_) fun hr=>?_
 ·refine E1 (Is l r) h hr (fun r=>hE.ex _ h.gd r) (fun r hx=>sE _ h _ hx) (fun a ts' h hx hr=>?_) fun e he=>Fk he
  refine E1 (Is l r) h hr (fun r=>hS.bl _ h.gd r) (fun r hx=>hb _ h _ hx) (fun b ts' h hx hr=>?_) fun e he=>Fk he
  show Option.bind (some (nd 43 [_,_])) _=_;rw [Option.bind_some,Eu,Eu];exact F7 hr
 refine Gd (Is l r) h hr (fun h1 h hr=>?_) fun hr=>?_
 ·refine Gd (Is l r) h hr (fun h1 h hr=>F7 hr) fun hr=>?_
  refine E1 (Is l r) h hr (fun r=>Fg hE _ h.gd r) (fun r hx=>K8 hE sE _ h _ hx) (fun a ts' h hx hr=>?_) fun e he=>Fk he
  show Option.bind (some (nd 44 [_])) _=_;rw [Option.bind_some,Eu];exact F7 hr
 refine Gd (Is l r) h hr (fun h1 h hr=>?_) fun hr=>?_
 ·refine E1 (Is l r) h hr (fun r=>Fg hE _ h.gd r) (fun r hx=>K8 hE sE _ h _ hx) (fun a ts' h hx hr=>?_) fun e he=>Fk he
  show Option.bind (some (nd 45 [_])) _=_;rw [Option.bind_some,Eu];exact F7 hr
 refine Gd (Is l r) h hr (fun h1 h hr=>?_) fun hr=>?_
 ·refine E1 (Is l r) h hr (fun r=>hS.bl _ h.gd r) (fun r hx=>hb _ h _ hx) (fun a ts' h hx hr=>?_) fun e he=>Fk he
  refine F8 (Is l r) h hr (fun h hr=>?_) fun e he=>Fk he
  refine E1 (Is l r) h hr (fun r=>C6 _ h.gd r) (fun r hx=>F5 h hx) (fun s ts' h hx hr=>?_) fun e he=>Fk he
  refine E1 (Is l r) h hr (fun r=>hS.bl _ h.gd r) (fun r hx=>hb _ h _ hx) (fun b ts' h hx hr=>?_) fun e he=>Fk he
  dsimp only;rw [Eu,Eu];exact F7 hr
 refine Gd (Is l r) h hr (fun h1 h hr=>?_) fun hr=>?_
 ·refine E1 (Is l r) h hr (fun r=>hS.bl _ h.gd r) (fun r hx=>hb _ h _ hx) (fun a ts' h hx hr=>?_) fun e he=>Fk he
  show Option.bind (some (nd 47 [_])) _=_;rw [Option.bind_some,Eu];exact F7 hr
 refine Gd (Is l r) h hr (fun h1 h hr=>?_) fun hr=>?_
 ·refine E1 (Is l r) h hr (fun r=>C6 _ h.gd r) (fun r hx=>F5 h hx) (fun s ts' h hx hr=>?_) fun e he=>Fk he
  refine Rb (Is l r) h hr (fun r=>F6 hE _ _ _ h.gd r) (fun r hx=>sC _ _ _ h _ hx) (fun a ts' h hx hr=>?_) fun e he=>Fk he
  exact F8 (Is l r) h hr (fun h hr=>F7 hr) fun e he=>Fk he
 refine Gd (Is l r) h hr (fun h1 h hr=>?_) fun hr=>?_
 ·exact K3 (d:=1) (q:=(A4.upto K (g+1)).A5) h (p_chS hE sE hKl hS.bl hb0) hr
 ·exact K3 (d:=1) h (p_asn hE sE) hr
structure PB (l:List Tk) (S:SB) (R:GB):Prop where
 bl:E7 l S.bl R.Al
 sm:E7 l S.sm R.Ba
 cd:E7 l S.cd R.A3
theorem Ms (hKl:l.length+2≤K):∀ (f g:Nat),2 * f≤g→PB l (SBu E f) (A4.upto K g)
 | 0,g,h=>⟨fun _ _ _ h=>(by cases h),fun _ _ _ h=>(by cases h),fun _ _ _ h=>(by cases h)⟩
 | f+1,g,h=>by
  obtain ⟨g,rfl⟩:∃ j,g=j+2:=⟨g - 2,by omega⟩
  have h0:=Ms hKl f g (by omega);have h1:=Ms hKl f (g+1) (by omega);have hS:=Ky hE f;exact ⟨p_bl hKl hS h1.sm,p_sm hE sE sC hKl hS h0.bl h1.bl h1.cd,p_cd hE sE hS h1.bl h1.cd⟩
end
section
variable {K:Nat} {l:List Tk}
theorem Ro (hK:1000≤K):E7 l Ib (Cx K):=fun ts h r hr=>by
 unfold Cx;refine Gd (Is l r) h hr (fun h1 h hr=>?_) fun hr=>?_
 ·obtain ⟨t,u,e⟩:=h.gd.head;rw [e] at hr h ⊢;dsimp only;rw [if_pos rfl,Gb h,Option.bind_some];replace hr:bnd (Fo 3 (t :: u)) (fun t=>pok (nd 14 [⟨4,[],t.Int,[],[]⟩]))=some r:=hr;simp only [Fo] at hr;by_cases hk:t.Kind=3
  ·rw [if_pos hk] at hr;rw [if_neg (by simpa using hk),Jv h];cases hr; rfl
  ·rw [if_neg hk] at hr;rw [if_pos hk,Gn h];cases hr; rfl
 ·obtain ⟨z,hz⟩:=Pr hK h;dsimp only;rw [if_neg (by simp),hz];unfold Kd at hr;cases hl:Hl ts with
  | none =>
   rw [hl] at hr;simp only [Option.bind_some];rw [if_neg (by simp),Gn h];cases hr; rfl
  | some p =>
   obtain ⟨a,u⟩:=p;rw [hl] at hr;cases hr; rfl
theorem Qy:E7 l H6 (Bk K):=fun ts h r hr=>by
 unfold Bk;exact E1 (Is l r) h hr (fun r=>C6 _ h.gd r) (fun r hx=>F5 h hx) (fun s ts' h hx hr=>F7 hr) fun e he=>Fk he
theorem Ld (hKl:l.length+2≤K):K9 l (Fv [41] H6) (Cl K [41]) :=
 Jf (.inr trivial) hKl (e:=[41]) (by decide) (L:=Cl.l15 K) (fun k l i acc=>rfl) (fun p=>rfl) F3 Qy
theorem P1 (K:Nat):∀ k l i acc,Cm.l15 K k l i acc=Option.bind (Cl.l15 K k l i acc) (fun o=>some (match o with
  | .done (.inl (a,b))=>.done (.inl (b,a))
  | .done (.inr x)=>.done (.inr x)
  | .go x=>.go x))
 | 0,l,i,acc=>rfl
 | k+1,l,i,acc=>by
  rw [Cm.l15,Cl.l15];cases Ak K [44] (⟨l,i⟩:Ab) with
  | none=>rfl
  | some p =>
   obtain ⟨b,p⟩:=p;simp only [Option.bind_some];by_cases hb:b=true
   ·rw [if_pos hb,if_pos hb];cases Bk K p with
    | none=>rfl
    | some x =>
     match x with
     | .inl a=>rfl
     | .inr (a,q) =>
      simp only [Option.bind_some];split
      ·exact P1 K k _ _ _
      ·rfl
   ·rw [if_neg hb,if_neg hb]; rfl
theorem list5 (K:Nat) (p:Ab):Cm K [41] p=Option.bind (Cl K [41] p) (fun o=>some (match o with
  | .inl (a,b)=>.inl (b,a)
  | .inr x=>.inr x)):=by
 unfold Cm Cl;cases Ak K [41] p with
 | none=>rfl
 | some q =>
  obtain ⟨b,q⟩:=q;simp only [Option.bind_some];by_cases hb:b=true
  ·rw [if_pos hb,if_pos hb]; rfl
  ·rw [if_neg hb,if_neg hb];cases Bk K q with
   | none=>rfl
   | some x =>
    match x with
    | .inl a=>rfl
    | .inr (a,q) =>
     simp only [Option.bind_some];rw [P1];cases Cl.l15 K K q.l q.i [⟨a.Op,a.Name,a.Int,a.Text,a.Kids⟩] with
     | none=>rfl
     | some o =>
      match o with
      | .done (.inl (a,b))=>rfl
      | .done (.inr x)=>rfl
      | .go (a,b,c) =>
       simp only [Option.bind_some,obind];cases Ao K [41] (⟨a,b⟩:Ab) with
       | none=>rfl
       | some x =>
        match x with
        | .inl a=>rfl
        | .inr a=>rfl
variable {bl:List Tk→Rs Nd} (hs:Snd 1 bl) (hb:E7 l bl (Al K))
include hs hb
theorem p_hnd (hK:1000≤K):E7 l (Iz bl) (Cw K):=fun ts h r hr=>by
 unfold Cw;show Option.bind (Bx K (G2.map (·.1)) (G2.map (·.2)) (st l ts)) _=_;rw [Nu hK h G2 (by decide)];unfold Iz at hr;cases hf:Ev G2 ts with
 | none =>
  rw [hf] at hr;simp only [Option.bind_some];rw [if_neg (by simp),Gn h];cases hr; rfl
 | some op =>
  rw [hf] at hr;obtain ⟨s,hs'⟩:=E4 hf;have h1:=h.is hs';dsimp only at hr ⊢;rw [Option.bind_some];dsimp only;rw [if_pos rfl];refine E1 (Is l r) h1 hr (fun r=>C6 _ h1.gd r) (fun r hx=>F5 h1 hx) (fun s ts' h hx hr=>?_) fun e he=>Fk he
  refine F8 (Is l r) h hr (fun h hr=>?_) fun e he=>Fk he
  refine E1 (Is l r) h hr (fun r=>C6 _ h.gd r) (fun r hx=>F5 h hx) (fun x ts' h hx hr=>?_) fun e he=>Fk he
  refine F8 (Is l r) h hr (fun h hr=>?_) fun e he=>Fk he
  have tail:∀ (ks:List Nd) us,ks.length≤1→Sx l us→sq bl (fun b=>pok ⟨op,s,0,x,ks++[b]⟩) us=some r→Option.bind (Al K (st l us)) (fun a8=>match a8 with |(Sum.inl a8)=>some (Sum.inl a8) |(Sum.inr (c,d))=>(if (ks.length+([(⟨c.Op,c.Name,c.Int,c.Text,c.Kids⟩:Aa)]:List Aa).length) * 72≤140737488355328 then some ((Sum.inr ((⟨op,s,0,x,(ks++([(⟨c.Op,c.Name,c.Int,c.Text,c.Kids⟩:Aa)]:List Aa))⟩:Aa),d))) else none))=some (cR l r):=by
   intro ks us hk h hr;refine E1 (Is l r) h hr (fun r=>hs _ h.gd r) (fun r hx=>hb _ h _ hx) (fun b ts' h hx hr=>?_) fun e he=>Fk he
   dsimp only;rw [Eu,if_pos (by simp; omega)];exact F7 hr
  generalize ts'.tail=us at *;unfold J9 at hr;by_cases ho:op=65
  ·rw [if_pos ho] at hr;dsimp only;rw [if_pos ho];by_cases hc:isS [99,104,101,99,107] us=true
   ·rw [Gy h hc];have h2:=h.is hc;have hr:bnd (bl us.tail) (fun b=>sq bl fun b'=>pok ⟨op,s,0,x,[b]++[b']⟩)=some r:=by
     rw [← hr];show _=bnd (if isS [99,104,101,99,107] us=true then bnd (bl us.tail) (fun b=>pok [b]) else pok [] us) _;rw [if_pos hc]
     match bl us.tail with
     | none=>rfl
     | some (.error e)=>rfl
     | some (.ok (a,ts))=>rfl
    show obind (Option.bind (Al K (st l us.tail)) _) _ _=_;refine E1 (fun o=>obind o (fun r=>r) _=some (cR l r)) h2 hr (fun r=>hs _ h2.gd r) (fun r hx=>hb _ h2 _ hx) (fun b ts' h hx hr=>?_) (fun e he=>?_)
    ·dsimp only;rw [Eu,if_pos (by simp)];exact tail [b] ts' (by simp) h hr
    ·subst he; rfl
   ·rw [Gl h hc];have hr:sq bl (fun b'=>pok ⟨op,s,0,x,[]++[b']⟩) us=some r:=by
     rw [← hr];show _=bnd (if isS [99,104,101,99,107] us=true then bnd (bl us.tail) (fun b=>pok [b]) else pok [] us) _;rw [if_neg hc]; rfl
    exact tail [] us (by simp) h hr
  ·rw [if_neg ho] at hr;dsimp only;rw [if_neg ho];exact tail [] us (by simp) h hr
omit hs hb in
theorem Hw {α β γ:Type} (x:Rs α) (f:α→List Tk→Rs β) (g:β→List Tk→Rs γ):bnd (bnd x f) g=bnd x (fun a ts=>bnd (f a ts) g):=by
 match x with
 | none=>rfl
 | some (.error e)=>rfl
 | some (.ok (a,ts))=>rfl
omit hs hb in
theorem O2 {α β:Type} (a:α) (ts:List Tk) (f:α→List Tk→Rs β):bnd (some (.ok (a,ts))) f=f a ts:=rfl
omit hs hb in
theorem P4 {α β:Type} (c:Prop) [Decidable c] (x y:Rs α) (f:α→List Tk→Rs β):bnd (if c then x else y) f=if c then bnd x f else bnd y f:=by split <;> rfl
omit hs hb in
theorem Kj {e:List UInt8} {elem:List Tk→Rs Nd} (he:Snd 1 elem):∀ (k:Nat) (acc:List Nd) (ts:List Tk),Fh ts→∀ ks us,F9 e elem k acc ts=some (.ok (ks,us))→ks.length≤acc.length+ts.length
 | 0,acc,ts,hg,ks,us,h=>by cases h
 | k+1,acc,ts,hg,ks,us,h=>by
  unfold F9 at h;obtain ⟨a,vs,hx,hy⟩:=Ha h;have h1:Eat 1 ts vs:=he _ hg _ hx;have h2:=h1.2.1;split at hy
  ·cases hy; simp; omega
  ·obtain ⟨_,ws,hz,hw⟩:=Ha hy;have h3:Eat 1 vs ws:=Cf _ _ h1.2.2 _ hz;have h4:=h3.2.1
   have:=Kj he k _ ws h3.2.2 ks us hw
   simp at this; omega
omit hs hb in
theorem N0 {e:List UInt8} {elem:List Tk→Rs Nd} (he:Snd 1 elem) {ts:List Tk} (hg:Fh ts) {ks:List Nd} {us:List Tk} (h:Fv e elem ts=some (.ok (ks,us))):ks.length≤ts.length:=by
 unfold Fv at h;split at h
 ·cases h; simp
 ·simpa using Kj he _ [] ts hg ks us h
theorem Rj (hK:1000≤K) (hKl:l.length+2≤K) {F:List Nd→List Tk→Rs Nd} {T:List Tk×Int×List Nd→Option (Int ⊕ (Nd×Ab))} (hT:∀ ks ts,Sx l ts→∀ r,F ks ts=some r→T (l,pos l ts,ks)=some (cR l r)) :
  ∀ (k k':Nat) (acc:List Nd) (ts:List Tk),k≤k'→acc.length+ts.length≤9000010→Sx l ts→∀ r,bnd (Fy bl k acc ts) F=some r →
  obind (Bh.l7 K k' l (pos l ts) acc) (fun r=>r) T=some (cR l r):=by
 intro k
 induction k with
 | zero=>intro k' acc ts hk hn h r hr; cases hr
 | succ k ih =>
  intro k' acc ts hk hn h r hr;obtain ⟨k',rfl⟩:∃ j,k'=j+1:=⟨k' - 1,by omega⟩
  rw [Bh.l7];have hl:=h.len; have hh:=h.hl;obtain ⟨t,u,rfl⟩:=h.gd.head;show obind (Option.bind (Bj K (st l (t :: u))) _) _ _=_;rw [Gb h,Option.bind_some];simp only [Fy] at hr;by_cases hk0:t.Kind=0
  ·rw [if_pos (show hdK 0 (t :: u)=true by simpa [hdK] using hk0)] at hr;rw [if_neg (by simpa using hk0)];exact hT acc _ h r hr
  rw [if_neg (show ¬ hdK 0 (t :: u)=true by simpa [hdK] using hk0)] at hr;rw [if_pos hk0];replace hr:bnd (bnd (if isS [118,97,114] (t :: u)=true then Mx (t :: u).tail else if isS [102,117,110,99] (t :: u)=true then fnS bl (t :: u).tail else bnd (D5 [111,110] (t :: u)) fun _=>Iz bl) (fun a=>Fy bl k (acc++[a]))) F=some r:=hr;rw [Hw] at hr;generalize t :: u=ts at *;have next:∀ (a:Nd) us,us.length+1≤ts.length→Sx l us→bnd (Fy bl k (acc++[a]) us) F=some r→obind (Bh.l7 K k' l (pos l us) (acc++[a])) (fun r=>r) T=some (cR l r):=fun a us hu h hr=>ih k' _ us (by omega) (by simp; omega) h r hr
  have er:∀ e,r=.error e→obind (some (T5.done (Sum.inl (atE e)))) (fun r=>r) T=some (cR l r):=fun e he=>by subst he; rfl
  have sm:∀ a:Nd,(acc.length+[a].length) * 72≤140737488355328:=fun a=>by simp; omega
  rw [P4] at hr;refine Gd (fun o=>obind o (fun r=>r) T=some (cR l r)) h hr (fun h1 h hr=>?_) fun hr=>?_
  ·simp only [Mx,sq,Hw,O2] at hr;have hlt:ts.tail.length+1≤ts.length:=by simp only [List.length_tail]; omega
   refine E1 (fun o=>obind o (fun r=>r) T=some (cR l r)) h hr (fun r=>C6 _ h.gd r) (fun r hx=>F5 h hx) (fun s us h hx hr=>?_) er
   have:=hx.2.1
   refine F8 (fun o=>obind o (fun r=>r) T=some (cR l r)) h hr (fun h hr=>?_) er;refine E1 (fun o=>obind o (fun r=>r) T=some (cR l r)) h hr (fun r=>Gr _ h.gd r) (fun r hx=>Ro hK _ h _ hx) (fun a vs h hx hr=>?_) er
   have:=hx.2.1
   have htl:=us.length_tail;dsimp only;rw [if_pos (sm _),Eu];refine F8 (fun o=>obind o (fun r=>r) T=some (cR l r)) h hr (fun h hr=>?_) er;have htl':=vs.length_tail;exact next _ _ (by omega) h hr
  rw [P4] at hr;refine Gd (fun o=>obind o (fun r=>r) T=some (cR l r)) h hr (fun h1 h hr=>?_) fun hr=>?_
  ·simp only [fnS,sq,Hw,O2] at hr;have hlt:ts.tail.length+1≤ts.length:=by simp only [List.length_tail]; omega
   refine E1 (fun o=>obind o (fun r=>r) T=some (cR l r)) h hr (fun r=>C6 _ h.gd r) (fun r hx=>F5 h hx) (fun s us h hx hr=>?_) er
   have:=hx.2.1
   refine F8 (fun o=>obind o (fun r=>r) T=some (cR l r)) h hr (fun h hr=>?_) er;have htl:=us.length_tail;dsimp only;rw [list5];rcases Fr (γ:=Nd) h (fun r=>Eo F3 _ h.gd r) hr with ⟨e,hx,he⟩ |⟨ks,vs,hx,h3,h4,hr⟩
   ·rw [Ld hKl _ h _ hx]; exact er e he
   ·rw [Ld hKl _ h _ hx]
    have:=h4.2.1
    have hks:=N0 F3 h.gd hx;refine E1 (fun o=>obind o (fun r=>r) T=some (cR l r)) h3 hr (fun r=>hs _ h3.gd r) (fun r hx=>hb _ h3 _ hx) (fun b ws h hx hr=>?_) er
    have:=hx.2.1
    dsimp only;rw [if_pos (by simp; omega),if_pos (sm _),Eu];exact next _ _ (by omega) h hr
  ·rw [Hw] at hr;refine F8 (fun o=>obind o (fun r=>r) T=some (cR l r)) h hr (fun h' hr=>?_) er;have hlt:ts.tail.length+1≤ts.length:=by simp only [List.length_tail]; omega
   refine E1 (fun o=>obind o (fun r=>r) T=some (cR l r)) h' hr (fun r=>Je hs _ h'.gd r) (fun r hx=>p_hnd hs hb hK _ h' _ hx) (fun a us h hx hr=>?_) er
   have:=hx.2.1
   dsimp only;rw [Eu,if_pos (sm _)];exact next _ _ (by omega) h hr
theorem Si (hK:1000≤K) (hKl:l.length+2≤K):E7 l (Lp bl) (Bh K):=fun ts h r hr=>by
 unfold Bh
 have:=h.len; have:=h.hl
 exact Rj hs hb hK hKl (F:=fun ks=>pok (nd 60 ks)) (fun ks ts h r hr=>by cases hr; rfl) (ts.length+1) K [] ts (by omega) (by simp; omega) h r hr
end
end Go.Proofs.YtifjagfmfkemmaaGreatDoor
