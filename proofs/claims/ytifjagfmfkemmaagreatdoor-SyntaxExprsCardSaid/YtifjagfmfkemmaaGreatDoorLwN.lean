import Derived.Test.YtifjagfmfkemmaaGreatDoorLwM
set_option linter.unusedVariables false
set_option linter.unusedSimpArgs false
set_option maxHeartbeats 4000000
namespace Go.Proofs.YtifjagfmfkemmaaGreatDoor
open Eng Go
theorem Fq {α β γ:Type} {l:List Tk} {ts:List Tk} {x:Rs α} {f:α→List Tk→Rs β} {r:Except (List Tk) (β×List Tk)} (h:Sx l ts) {d:Nat} (hx:∀ r,x=some r→Ate d ts r) (hr:bnd x f=some r) :
  (∃ e,x=some (.error e)∧r=.error e)∨∃ a ts',x=some (.ok (a,ts'))∧Sx l ts'∧Eat d ts ts'∧f a ts'=some r:=by
 match x,hx,hr with
 | none,_,hr=>cases hr
 | some (.error e),_,hr=>cases hr; exact .inl ⟨e,rfl,rfl⟩
 | some (.ok (a,t)),hx,hr =>
  have:=hx _ rfl
  exact .inr ⟨a,t,rfl,h.eat this,this,hr⟩
section
variable {K:Nat} {l:List Tk} {S:SP}
theorem L9 (hKl:l.length+2≤K) (hS:Hh S) {g:Nat} (hE:Gg l S.ex (Ai.upto K g).Ax) (op:Int) (s:List UInt8) :
  Ow l (G8 S op s) ((Ai.upto K (g+2)).Bn op s):=by
 intro ts h r hr
 show Bn.F K (Ai.upto K (g+1)) op s (st l ts)=_
 unfold Bn.F
 unfold G8 Fa at hr
 by_cases h1:isS [40] ts=true
 ·rw [if_pos h1] at hr
  rw [Ij h h1]
  have h2:=h.is h1
  have hl:=Kl (.inr trivial) hKl (e:=[41]) (by decide) (L:=Bg.l15 K (Ai.upto K g)) (Q:=(Ai.upto K (g+1)).Bg [41]) (fun k l i acc=>rfl) (fun p=>rfl) hS.ex hE
  replace hr:bnd (Gb [41] S.ex ts.tail) (fun ks ts=>pok ⟨op,s,0,[],ks⟩ ts)=some r:=hr
  show Option.bind ((Ai.upto K (g+1)).Bg [41] (st l ts.tail)) _=_
  rcases Fq (γ:=Nd) h2 (fun r=>F1 hS.ex _ h2.gd r) hr with ⟨e,hx,rfl⟩ |⟨ks,ts',hx,h3,h4,hr⟩
  ·rw [hl _ h2 _ hx]; rfl
  ·rw [hl _ h2 _ hx]; cases hr; rfl
 ·rw [if_neg h1] at hr
  rw [Io h h1]; cases hr; rfl
theorem pr_ok (hS:Hh S) {R:GP} (hE:Gg l S.ex R.Ax):Gg l (prF S) (B6.F K R):=by
 intro ts h r hr
 unfold B6.F
 obtain ⟨t,u,rfl⟩:=h.gd.head
 rw [Gu h,Option.bind_some]
 unfold prF at hr
 simp only [F6] at hr
 by_cases hk:t.Kind=4
 ·rw [if_pos hk] at hr
  rw [if_neg (by simpa using hk),K1 h]
  have h1:Sx l u:=h.eat (d:=1) ⟨List.suffix_cons t u,by simp,h.gd.tl (by omega)⟩
  replace hr:bnd (Fa [58] u) (fun _ ts=>bnd (S.ex ts) fun a ts=>pok ⟨9,[],0,t.Text,[a]⟩ ts)=some r:=hr
  unfold Fa at hr
  show Option.bind (Aq K [58] (st l u)) _=_
  by_cases h2:isS [58] u=true
  ·rw [if_pos h2] at hr
   rw [Ij h1 h2]
   have h3:=h1.is h2
   replace hr:bnd (S.ex u.tail) (fun a ts=>pok ⟨9,[],0,t.Text,[a]⟩ ts)=some r:=hr
   show Option.bind (R.Ax (st l u.tail)) _=_
   rcases Fq (γ:=Nd) h3 (fun r=>hS.ex _ h3.gd r) hr with ⟨e,hx,rfl⟩ |⟨a,ts',hx,h4,h5,hr⟩
   ·rw [hE _ h3 _ hx]; rfl
   ·rw [hE _ h3 _ hx]; cases hr; simp only [cR,Ff,Option.bind_some]
  ·rw [if_neg h2] at hr
   rw [Io h1 h2]; cases hr; rfl
 ·rw [if_neg hk] at hr
  rw [if_pos hk,I5 h]; cases hr; rfl
theorem nt_ok (hK:1000≤K) (hS:Hh S) {R:GP} (hN:Gg l S.nt R.Bm) (hM:Gg l S.sm R.B4):Gg l (ntF S) (Bm.F K R):=by
 intro ts h r hr
 unfold Bm.F
 unfold ntF at hr
 by_cases h1:isS [110,111,116] ts=true
 ·rw [if_pos h1] at hr
  rw [Hm h h1]
  have h2:=h.is h1
  show Option.bind (R.Bm (st l ts.tail)) _=_
  rcases Fq (γ:=Nd) h2 (fun r=>hS.nt _ h2.gd r) hr with ⟨e,hx,rfl⟩ |⟨a,ts',hx,h4,h5,hr⟩
  ·rw [hN _ h2 _ hx]; rfl
  ·rw [hN _ h2 _ hx]; cases hr; simp only [cR,Ff,Ct,Option.bind_some]
 ·rw [if_neg h1] at hr
  rw [Hg h h1]
  show Option.bind (R.B4 (st l ts)) _=_
  rcases Fq (γ:=Nd) h (fun r=>hS.sm _ h.gd r) hr with ⟨e,hx,rfl⟩ |⟨a,ts',hx,h4,h5,hr⟩
  ·rw [hM _ h _ hx]; rfl
  ·rw [hM _ h _ hx]
   show Option.bind (B5 K (F3.map (·.1)) (F3.map (·.2)) (st l ts')) _=_
   rw [Nh hK h4 F3 (by decide)]
   cases hf:Fl F3 ts' with
   | none=>rw [hf] at hr; cases hr; rfl
   | some op =>
    rw [hf] at hr
    obtain ⟨s,hs'⟩:=Fr hf
    have h6:=h4.is hs'
    show Option.bind (R.B4 (st l ts'.tail)) _=_
    rcases Fq (γ:=Nd) h6 (fun r=>hS.sm _ h6.gd r) hr with ⟨e,hx,rfl⟩ |⟨b,ts'',hx,h4,h5,hr⟩
    ·rw [hM _ h6 _ hx]; rfl
    ·rw [hM _ h6 _ hx]; cases hr; simp only [cR,Ff,Ct,Option.bind_some]
theorem un_ok (hKl:l.length+2≤K) (hS:Hh S) {g:Nat} (hE:Gg l S.ex (Ai.upto K g).Ax) (hE1:Gg l S.ex (Ai.upto K (g+1)).Ax) (hU:Gg l S.un (Ai.upto K (g+2)).Bb)
  (hP:Ow l S.pm (Ai.upto K (g+1)).Bv):Gg l (unF S) (Ai.upto K (g+3)).Bb:=by
 intro ts h r hr
 show Bb.F K (Ai.upto K (g+2)) (st l ts)=_
 unfold Bb.F
 unfold unF at hr
 by_cases h1:isS [45] ts=true
 ·rw [if_pos h1] at hr
  rw [Hm h h1]
  have h2:=h.is h1
  show Option.bind ((Ai.upto K (g+2)).Bb (st l ts.tail)) _=_
  rcases Fq (γ:=Nd) h2 (fun r=>hS.un _ h2.gd r) hr with ⟨e,hx,rfl⟩ |⟨a,ts',hx,h4,h5,hr⟩
  ·rw [hU _ h2 _ hx]; rfl
  ·rw [hU _ h2 _ hx]; cases hr; simp only [cR,Ff,Ct,Option.bind_some]
 rw [if_neg h1] at hr
 rw [Hg h h1]
 show Option.bind (Ao K [97,119,97,105,116] (st l ts)) _=_
 by_cases h1:isS [97,119,97,105,116] ts=true
 ·rw [if_pos h1] at hr
  rw [Hm h h1]
  have h2:=h.is h1
  show Option.bind ((Ai.upto K (g+2)).Bb (st l ts.tail)) _=_
  rcases Fq (γ:=Nd) h2 (fun r=>hS.un _ h2.gd r) hr with ⟨e,hx,rfl⟩ |⟨a,ts',hx,h4,h5,hr⟩
  ·rw [hU _ h2 _ hx]; rfl
  ·rw [hU _ h2 _ hx]; cases hr; simp only [cR,Ff,Ct,Option.bind_some]
 rw [if_neg h1] at hr
 rw [Hg h h1]
 show Option.bind (Ao K [103,111] (st l ts)) _=_
 by_cases h1:isS [103,111] ts=true
 ·rw [if_pos h1] at hr
  rw [Hm h h1]
  have h2:=h.is h1
  show Option.bind (Ay K (st l ts.tail)) _=_
  rcases Fq (γ:=Nd) h2 (fun r=>Gd _ h2.gd r) hr with ⟨e,hx,rfl⟩ |⟨s,ts',hx,h4,h5,hr⟩
  ·rw [I4 h2 hx]; rfl
  ·rw [I4 h2 hx]
   show Option.bind ((Ai.upto K (g+2)).Bn 11 s (st l ts')) _=_
   rw [L9 hKl hS hE 11 s _ h4 _ hr]
   match r with
   | .error e=>rfl
   | .ok (a,ts)=>rfl
 rw [if_neg h1] at hr
 rw [Hg h h1]
 show Option.bind (Be.F K (Ai.upto K (g+1)) (st l ts)) _=_
 unfold Be.F
 rcases Fq (γ:=Nd) h (fun r=>hS.pm _ h.gd r) hr with ⟨e,hx,rfl⟩ |⟨a,ts',hx,h4,h5,hr⟩
 ·rw [hP _ h _ hx]; rfl
 ·rw [hP _ h _ hx]
  have:=h4.len
  show Option.bind (obind (Be.l6 K (Ai.upto K (g+1)) K l (pos l ts') a.Op a.Name a.Int a.Text a.Kids) _ _) _=_
  rw [P6 hS.ex hE1 _ K a ts' (by omega) h4 r hr]
  exact K0 r
theorem Qs (hK:1000≤K) {ts:List Tk} (h:Sx l ts):∃ z,Dz K (st l ts)=some (match Km ts with | some (a,r)=>(a,true,st l r) | none=>(z,false,st l ts)):=by
 obtain ⟨t,u,rfl⟩:=h.gd.head
 refine ⟨nd 0 [],?_⟩
 unfold Dz
 rw [Gu h,Option.bind_some,h.succ]
 simp only [Km]
 by_cases h3:t.Kind=3
 ·rw [if_pos h3,if_pos h3]; rfl
 rw [if_neg h3,if_neg h3]
 by_cases h4:t.Kind=4
 ·rw [if_pos h4,if_pos h4]; rfl
 rw [if_neg h4,if_neg h4]
 show Option.bind (B5 K (G9.map (·.1)) (G9.map (·.2)) (st l (t :: u))) _=_
 rw [Nh hK h G9 (by decide)]
 cases Fl G9 (t :: u) <;> rfl
theorem pm_ok (hK:1000≤K) (hKl:l.length+2≤K) (hS:Hh S) {g:Nat} (hE:Gg l S.ex (Ai.upto K g).Ax) (hE1:Gg l S.ex (Ai.upto K (g+1)).Ax) (hE2:Gg l S.ex (Ai.upto K (g+2)).Ax)
  (hPr:Gg l S.pr (Ai.upto K (g+1)).B6):Ow l (pmF S) (Ai.upto K (g+3)).Bv:=by
 intro ts h r hr
 show Bv.F K (Ai.upto K (g+2)) (st l ts)=_
 unfold Bv.F
 unfold pmF at hr
 obtain ⟨z,hz⟩:=Qs (K:=K) hK h
 rw [hz]
 cases hlit:Km ts with
 | some p =>
  obtain ⟨a,u⟩:=p
  rw [hlit] at hr; cases hr; rfl
 | none =>
 rw [hlit] at hr
 obtain ⟨t,u,rfl⟩:=h.gd.head
 show Option.bind (Bx K (st l (t :: u))) _=_
 rw [Gu h,Option.bind_some]
 simp only [F6] at hr
 by_cases hk:t.Kind=1
 ·rw [if_pos hk] at hr
  rw [if_pos hk,I4 h (r:=.ok (t.Text,u)) (by simp [G5,F6,hk,bnd])]
  have h1:Sx l u:=h.eat (d:=1) ⟨List.suffix_cons t u,by simp,h.gd.tl (by omega)⟩
  show Option.bind (D7 K (st l u) [40]) _=_
  rw [Kg h1,Option.bind_some]
  replace hr:(if isS [40] u=true then G8 S 10 t.Text u else pok ⟨6,t.Text,0,[],[]⟩ u)=some r:=hr
  by_cases h2:isS [40] u=true
  ·rw [if_pos h2] at hr ⊢
   show Option.bind ((Ai.upto K (g+2)).Bn 10 t.Text (st l u)) _=_
   rw [L9 hKl hS hE 10 t.Text _ h1 _ hr]
   match r with
   | .error e=>rfl
   | .ok (a,ts)=>rfl
  ·rw [if_neg h2] at hr ⊢; cases hr; rfl
 rw [if_neg hk] at hr
 rw [if_neg hk]
 dsimp only at hr
 show Option.bind (Ao K [91] (st l (t :: u))) _=_
 generalize t :: u=ts at *
 by_cases h1:isS [91] ts=true
 ·rw [if_pos h1] at hr
  rw [Hm h h1]
  have h2:=h.is h1
  have hl:=Kl (.inr trivial) hKl (e:=[93]) (by decide) (L:=Bg.l15 K (Ai.upto K (g+1))) (Q:=(Ai.upto K (g+2)).Bg [93]) (fun k l i acc=>rfl) (fun p=>rfl) hS.ex hE1
  show Option.bind ((Ai.upto K (g+2)).Bg [93] (st l ts.tail)) _=_
  rcases Fq (γ:=Nd) h2 (fun r=>F1 hS.ex _ h2.gd r) hr with ⟨e,hx,rfl⟩ |⟨ks,ts',hx,h3,h4,hr⟩
  ·rw [hl _ h2 _ hx]; rfl
  ·rw [hl _ h2 _ hx]; cases hr; rfl
 rw [if_neg h1] at hr
 rw [Hg h h1]
 show Option.bind (Ao K [123] (st l ts)) _=_
 by_cases h1:isS [123] ts=true
 ·rw [if_pos h1] at hr
  rw [Hm h h1]
  have h2:=h.is h1
  have hl:=Kl (.inr trivial) hKl (e:=[125]) (by decide) (L:=Bq.l15 K (Ai.upto K (g+1))) (Q:=(Ai.upto K (g+2)).Bq [125]) (fun k l i acc=>rfl) (fun p=>rfl) hS.pr hPr
  show Option.bind ((Ai.upto K (g+2)).Bq [125] (st l ts.tail)) _=_
  rcases Fq (γ:=Nd) h2 (fun r=>F1 hS.pr _ h2.gd r) hr with ⟨e,hx,rfl⟩ |⟨ks,ts',hx,h3,h4,hr⟩
  ·rw [hl _ h2 _ hx]; rfl
  ·rw [hl _ h2 _ hx]; cases hr; rfl
 rw [if_neg h1] at hr
 rw [Hg h h1]
 show Option.bind (Aq K [40] (st l ts)) _=_
 unfold Fa at hr
 by_cases h1:isS [40] ts=true
 ·rw [if_pos h1] at hr
  rw [Ij h h1]
  have h2:=h.is h1
  replace hr:bnd (S.ex ts.tail) (fun a ts=>bnd (if isS [41] ts=true then pok () ts.tail else some (.error ts)) fun _ ts=>pok a ts)=some r:=hr
  show Option.bind ((Ai.upto K (g+2)).Ax (st l ts.tail)) _=_
  rcases Fq (γ:=Nd) h2 (fun r=>hS.ex _ h2.gd r) hr with ⟨e,hx,rfl⟩ |⟨a,ts',hx,h3,h4,hr⟩
  ·rw [hE2 _ h2 _ hx]; rfl
  ·rw [hE2 _ h2 _ hx]
   show Option.bind (Aq K [41] (st l ts')) _=_
   by_cases h5:isS [41] ts'=true
   ·rw [if_pos h5] at hr; rw [Ij h3 h5]; cases hr; rfl
   ·rw [if_neg h5] at hr; rw [Io h3 h5]; cases hr; rfl
 ·rw [if_neg h1] at hr; rw [Io h h1]; cases hr; rfl
end
theorem Ka {K:Nat} (hK:1000≤K) {l:List Tk} (hKl:l.length+2≤K):∀ (f g:Nat),3 * f≤g→PK K l (SPu f) (Ai.upto K g)
 | 0,g,h=>⟨fun _ _ _ h=>(by cases h),fun _ _ _ h=>(by cases h),fun _ _ _ h=>(by cases h),fun _ _ _ h=>(by cases h),fun _ _ _ h=>(by cases h),fun _ _ _ h=>(by cases h),fun _ _ _ h=>(by cases h),fun _ _ _ h=>(by cases h)⟩
 | f+1,g,h=>by
  obtain ⟨g,rfl⟩:∃ j,g=j+3:=⟨g - 3,by omega⟩
  have h0:=Ka hK hKl f g (by omega)
  have h1:=Ka hK hKl f (g+1) (by omega)
  have h2:=Ka hK hKl f (g+2) (by omega)
  have hS:=Np f
  exact ⟨H3 hK hKl (by decide) (L:=Bt.l6 K (Ai.upto K (g+1)) (Og.map (·.1)) (Og.map (·.2))) (fun k l i b0 b1 b2 b3 b4=>rfl) (fun p=>rfl) hS.cj h1.cj,
   H3 hK hKl (by decide) (L:=Bu.l6 K (Ai.upto K (g+1)) (L6.map (·.1)) (L6.map (·.2))) (fun k l i b0 b1 b2 b3 b4=>rfl) (fun p=>rfl) hS.nt h1.nt,
   nt_ok hK hS h2.nt h2.sm,
   H3 hK hKl (by decide) (L:=Br.l6 K (Ai.upto K (g+1)) (Lm.map (·.1)) (Lm.map (·.2))) (fun k l i b0 b1 b2 b3 b4=>rfl) (fun p=>rfl) hS.pd h1.pd,
   H3 hK hKl (by decide) (L:=Bw.l6 K (Ai.upto K (g+1)) (Lv.map (·.1)) (Lv.map (·.2))) (fun k l i b0 b1 b2 b3 b4=>rfl) (fun p=>rfl) hS.un h1.un,
   un_ok hKl hS h0.ex h1.ex h2.un h1.pm,
   pm_ok hK hKl hS h0.ex h1.ex h2.ex h1.pr,
   pr_ok hS h2.ex⟩
end Go.Proofs.YtifjagfmfkemmaaGreatDoor
