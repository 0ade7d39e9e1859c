import Derived.Test.YtifjagfmfkemmaaGreatDoorLwM
set_option linter.unusedVariables false
set_option linter.unusedSimpArgs false
set_option maxHeartbeats 4000000
namespace Go.Proofs.YtifjagfmfkemmaaGreatDoor
open Eng Go
theorem Fd {α β γ:Type} {l:List Tk} {ts:List Tk} {x:Rs α} {f:α→List Tk→Rs β} {r:Except (List Tk) (β×List Tk)} (h:Sx l ts) {d:Nat} (hx:∀ r,x=some r→Ate d ts r) (hr:bnd x f=some r) :
  (∃ e,x=some (.error e)∧r=.error e)∨∃ a ts',x=some (.ok (a,ts'))∧Sx l ts'∧Eat d ts ts'∧f a ts'=some r:=by
 match x,hx,hr with
 | none,_,hr=>cases hr
 | some (.error e),_,hr=>cases hr; exact .inl ⟨e,rfl,rfl⟩
 | some (.ok (a,t)),hx,hr =>
  have:=hx _ rfl
  exact .inr ⟨a,t,rfl,h.eat this,this,hr⟩
section
variable {K:Nat} {l:List Tk} {S:SP}
theorem Ms (hKl:l.length+2≤K) (hS:Hm S) {g:Nat} (hE:F1 l S.ex (Ai.upto K g).Av) (op:Int) (s:List UInt8) :
  Nn l (Hq S op s) ((Ai.upto K (g+2)).Bv op s):=by
 intro ts h r hr;show Bv.F K (Ai.upto K (g+1)) op s (st l ts)=_;unfold Bv.F;unfold Hq Ee at hr;by_cases h1:isS [40] ts=true
 ·rw [if_pos h1] at hr;rw [Jv h h1];have h2:=h.is h1;have hl:=K3 (.inr trivial) hKl (e:=[41]) (by decide) (L:=Bm.l15 K (Ai.upto K g)) (Q:=(Ai.upto K (g+1)).Bm [41]) (fun k l i acc=>rfl) (fun p=>rfl) hS.ex hE;replace hr:bnd (Gl [41] S.ex ts.tail) (fun ks ts=>pok ⟨op,s,0,[],ks⟩ ts)=some r:=hr;show Option.bind ((Ai.upto K (g+1)).Bm [41] (st l ts.tail)) _=_;rcases Fd (γ:=Nd) h2 (fun r=>F4 hS.ex _ h2.gd r) hr with ⟨e,hx,rfl⟩ |⟨ks,ts',hx,h3,h4,hr⟩
  ·rw [hl _ h2 _ hx]; rfl
  ·rw [hl _ h2 _ hx]; cases hr; rfl
 ·rw [if_neg h1] at hr;rw [Jz h h1]; cases hr; rfl
theorem pr_ok (hS:Hm S) {R:GP} (hE:F1 l S.ex R.Av):F1 l (prF S) (Ch.F K R):=by
 intro ts h r hr;unfold Ch.F;obtain ⟨t,u,rfl⟩:=h.gd.head;rw [Hb h,Option.bind_some];unfold prF at hr;simp only [Gm] at hr;by_cases hk:t.Kind=4
 ·rw [if_pos hk] at hr;rw [if_neg (by simpa using hk),Lz h];have h1:Sx l u:=h.eat (d:=1) ⟨List.suffix_cons t u,by simp,h.gd.tl (by omega)⟩;replace hr:bnd (Ee [58] u) (fun _ ts=>bnd (S.ex ts) fun a ts=>pok ⟨9,[],0,t.Text,[a]⟩ ts)=some r:=hr;unfold Ee at hr;show Option.bind (Au K [58] (st l u)) _=_;by_cases h2:isS [58] u=true
  ·rw [if_pos h2] at hr;rw [Jv h1 h2];have h3:=h1.is h2;replace hr:bnd (S.ex u.tail) (fun a ts=>pok ⟨9,[],0,t.Text,[a]⟩ ts)=some r:=hr;show Option.bind (R.Av (st l u.tail)) _=_;rcases Fd (γ:=Nd) h3 (fun r=>hS.ex _ h3.gd r) hr with ⟨e,hx,rfl⟩ |⟨a,ts',hx,h4,h5,hr⟩
   ·rw [hE _ h3 _ hx]; rfl
   ·rw [hE _ h3 _ hx]; cases hr; simp only [cR,Ed,Option.bind_some]
  ·rw [if_neg h2] at hr;rw [Jz h1 h2]; cases hr; rfl
 ·rw [if_neg hk] at hr;rw [if_pos hk,Hz h]; cases hr; rfl
theorem nt_ok (hK:1000≤K) (hS:Hm S) {R:GP} (hN:F1 l S.nt R.B3) (hM:F1 l S.sm R.Cg):F1 l (ntF S) (B3.F K R):=by
 intro ts h r hr;unfold B3.F;unfold ntF at hr;by_cases h1:isS [110,111,116] ts=true
 ·rw [if_pos h1] at hr;rw [H8 h h1];have h2:=h.is h1;show Option.bind (R.B3 (st l ts.tail)) _=_;rcases Fd (γ:=Nd) h2 (fun r=>hS.nt _ h2.gd r) hr with ⟨e,hx,rfl⟩ |⟨a,ts',hx,h4,h5,hr⟩
  ·rw [hN _ h2 _ hx]; rfl
  ·rw [hN _ h2 _ hx]; cases hr; simp only [cR,Ed,C1,Option.bind_some]
 ·rw [if_neg h1] at hr;rw [Hv h h1];show Option.bind (R.Cg (st l ts)) _=_;rcases Fd (γ:=Nd) h (fun r=>hS.sm _ h.gd r) hr with ⟨e,hx,rfl⟩ |⟨a,ts',hx,h4,h5,hr⟩
  ·rw [hM _ h _ hx]; rfl
  ·rw [hM _ h _ hx];show Option.bind (Cd K (G4.map (·.1)) (G4.map (·.2)) (st l ts')) _=_;rw [P9 hK h4 G4 (by decide)];cases hf:Fl G4 ts' with
   | none=>rw [hf] at hr; cases hr; rfl
   | some op =>
    rw [hf] at hr;obtain ⟨s,hs'⟩:=F0 hf;have h6:=h4.is hs';show Option.bind (R.Cg (st l ts'.tail)) _=_;rcases Fd (γ:=Nd) h6 (fun r=>hS.sm _ h6.gd r) hr with ⟨e,hx,rfl⟩ |⟨b,ts'',hx,h4,h5,hr⟩
    ·rw [hM _ h6 _ hx]; rfl
    ·rw [hM _ h6 _ hx]; cases hr; simp only [cR,Ed,C1,Option.bind_some]
theorem un_ok (hKl:l.length+2≤K) (hS:Hm S) {g:Nat} (hE:F1 l S.ex (Ai.upto K g).Av) (hE1:F1 l S.ex (Ai.upto K (g+1)).Av) (hU:F1 l S.un (Ai.upto K (g+2)).Bi)
  (hP:Nn l S.pm (Ai.upto K (g+1)).Cb):F1 l (unF S) (Ai.upto K (g+3)).Bi:=by
 intro ts h r hr;show Bi.F K (Ai.upto K (g+2)) (st l ts)=_;unfold Bi.F;unfold unF at hr;by_cases h1:isS [45] ts=true
 ·rw [if_pos h1] at hr;rw [H8 h h1];have h2:=h.is h1;show Option.bind ((Ai.upto K (g+2)).Bi (st l ts.tail)) _=_;rcases Fd (γ:=Nd) h2 (fun r=>hS.un _ h2.gd r) hr with ⟨e,hx,rfl⟩ |⟨a,ts',hx,h4,h5,hr⟩
  ·rw [hU _ h2 _ hx]; rfl
  ·rw [hU _ h2 _ hx]; cases hr; simp only [cR,Ed,C1,Option.bind_some]
 rw [if_neg h1] at hr;rw [Hv h h1];show Option.bind (Ap K [97,119,97,105,116] (st l ts)) _=_;by_cases h1:isS [97,119,97,105,116] ts=true
 ·rw [if_pos h1] at hr;rw [H8 h h1];have h2:=h.is h1;show Option.bind ((Ai.upto K (g+2)).Bi (st l ts.tail)) _=_;rcases Fd (γ:=Nd) h2 (fun r=>hS.un _ h2.gd r) hr with ⟨e,hx,rfl⟩ |⟨a,ts',hx,h4,h5,hr⟩
  ·rw [hU _ h2 _ hx]; rfl
  ·rw [hU _ h2 _ hx]; cases hr; simp only [cR,Ed,C1,Option.bind_some]
 rw [if_neg h1] at hr;rw [Hv h h1];show Option.bind (Ap K [103,111] (st l ts)) _=_;by_cases h1:isS [103,111] ts=true
 ·rw [if_pos h1] at hr;rw [H8 h h1];have h2:=h.is h1;show Option.bind (Ay K (st l ts.tail)) _=_;rcases Fd (γ:=Nd) h2 (fun r=>D0 _ h2.gd r) hr with ⟨e,hx,rfl⟩ |⟨s,ts',hx,h4,h5,hr⟩
  ·rw [G2 h2 hx]; rfl
  ·rw [G2 h2 hx];show Option.bind ((Ai.upto K (g+2)).Bv 11 s (st l ts')) _=_;rw [Ms hKl hS hE 11 s _ h4 _ hr]
   match r with
   | .error e=>rfl
   | .ok (a,ts)=>rfl
 rw [if_neg h1] at hr;rw [Hv h h1];show Option.bind (Bk.F K (Ai.upto K (g+1)) (st l ts)) _=_;unfold Bk.F;rcases Fd (γ:=Nd) h (fun r=>hS.pm _ h.gd r) hr with ⟨e,hx,rfl⟩ |⟨a,ts',hx,h4,h5,hr⟩
 ·rw [hP _ h _ hx]; rfl
 ·rw [hP _ h _ hx]
  have:=h4.len
  show Option.bind (obind (Bk.l6 K (Ai.upto K (g+1)) K l (pos l ts') a.Op a.Name a.Int a.Text a.Kids) _ _) _=_;rw [W3 hS.ex hE1 _ K a ts' (by omega) h4 r hr];exact L4 r
theorem Ru (hK:1000≤K) {ts:List Tk} (h:Sx l ts):∃ z,D6 K (st l ts)=some (match Jb ts with | some (a,r)=>(a,true,st l r) | none=>(z,false,st l ts)):=by
 obtain ⟨t,u,rfl⟩:=h.gd.head;refine ⟨nd 0 [],?_⟩;unfold D6;rw [Hb h,Option.bind_some,h.succ];simp only [Jb];by_cases h3:t.Kind=3
 ·rw [if_pos h3,if_pos h3]; rfl
 rw [if_neg h3,if_neg h3];by_cases h4:t.Kind=4
 ·rw [if_pos h4,if_pos h4]; rfl
 rw [if_neg h4,if_neg h4];show Option.bind (Cd K (Iq.map (·.1)) (Iq.map (·.2)) (st l (t :: u))) _=_;rw [P9 hK h Iq (by decide)];cases Fl Iq (t :: u) <;> rfl
theorem pm_ok (hK:1000≤K) (hKl:l.length+2≤K) (hS:Hm S) {g:Nat} (hE:F1 l S.ex (Ai.upto K g).Av) (hE1:F1 l S.ex (Ai.upto K (g+1)).Av) (hE2:F1 l S.ex (Ai.upto K (g+2)).Av)
  (hPr:F1 l S.pr (Ai.upto K (g+1)).Ch):Nn l (pmF S) (Ai.upto K (g+3)).Cb:=by
 intro ts h r hr;show Cb.F K (Ai.upto K (g+2)) (st l ts)=_;unfold Cb.F;unfold pmF at hr;obtain ⟨z,hz⟩:=Ru (K:=K) hK h;rw [hz];cases hlit:Jb ts with
 | some p =>
  obtain ⟨a,u⟩:=p;rw [hlit] at hr; cases hr; rfl
 | none =>
 rw [hlit] at hr;obtain ⟨t,u,rfl⟩:=h.gd.head;show Option.bind (Bx K (st l (t :: u))) _=_;rw [Hb h,Option.bind_some];simp only [Gm] at hr;by_cases hk:t.Kind=1
 ·rw [if_pos hk] at hr;rw [if_pos hk,G2 h (r:=.ok (t.Text,u)) (by simp [Gg,Gm,hk,bnd])];have h1:Sx l u:=h.eat (d:=1) ⟨List.suffix_cons t u,by simp,h.gd.tl (by omega)⟩;show Option.bind (Ea K (st l u) [40]) _=_;rw [Lq h1,Option.bind_some];replace hr:(if isS [40] u=true then Hq S 10 t.Text u else pok ⟨6,t.Text,0,[],[]⟩ u)=some r:=hr;by_cases h2:isS [40] u=true
  ·rw [if_pos h2] at hr ⊢;show Option.bind ((Ai.upto K (g+2)).Bv 10 t.Text (st l u)) _=_;rw [Ms hKl hS hE 10 t.Text _ h1 _ hr]
   match r with
   | .error e=>rfl
   | .ok (a,ts)=>rfl
  ·rw [if_neg h2] at hr ⊢; cases hr; rfl
 rw [if_neg hk] at hr;rw [if_neg hk];dsimp only at hr;show Option.bind (Ap K [91] (st l (t :: u))) _=_;generalize t :: u=ts at *;by_cases h1:isS [91] ts=true
 ·rw [if_pos h1] at hr;rw [H8 h h1];have h2:=h.is h1;have hl:=K3 (.inr trivial) hKl (e:=[93]) (by decide) (L:=Bm.l15 K (Ai.upto K (g+1))) (Q:=(Ai.upto K (g+2)).Bm [93]) (fun k l i acc=>rfl) (fun p=>rfl) hS.ex hE1;show Option.bind ((Ai.upto K (g+2)).Bm [93] (st l ts.tail)) _=_;rcases Fd (γ:=Nd) h2 (fun r=>F4 hS.ex _ h2.gd r) hr with ⟨e,hx,rfl⟩ |⟨ks,ts',hx,h3,h4,hr⟩
  ·rw [hl _ h2 _ hx]; rfl
  ·rw [hl _ h2 _ hx]; cases hr; rfl
 rw [if_neg h1] at hr;rw [Hv h h1];show Option.bind (Ap K [123] (st l ts)) _=_;by_cases h1:isS [123] ts=true
 ·rw [if_pos h1] at hr;rw [H8 h h1];have h2:=h.is h1;have hl:=K3 (.inr trivial) hKl (e:=[125]) (by decide) (L:=B7.l15 K (Ai.upto K (g+1))) (Q:=(Ai.upto K (g+2)).B7 [125]) (fun k l i acc=>rfl) (fun p=>rfl) hS.pr hPr;show Option.bind ((Ai.upto K (g+2)).B7 [125] (st l ts.tail)) _=_;rcases Fd (γ:=Nd) h2 (fun r=>F4 hS.pr _ h2.gd r) hr with ⟨e,hx,rfl⟩ |⟨ks,ts',hx,h3,h4,hr⟩
  ·rw [hl _ h2 _ hx]; rfl
  ·rw [hl _ h2 _ hx]; cases hr; rfl
 rw [if_neg h1] at hr;rw [Hv h h1];show Option.bind (Au K [40] (st l ts)) _=_;unfold Ee at hr;by_cases h1:isS [40] ts=true
 ·rw [if_pos h1] at hr;rw [Jv h h1];have h2:=h.is h1;replace hr:bnd (S.ex ts.tail) (fun a ts=>bnd (if isS [41] ts=true then pok () ts.tail else some (.error ts)) fun _ ts=>pok a ts)=some r:=hr;show Option.bind ((Ai.upto K (g+2)).Av (st l ts.tail)) _=_;rcases Fd (γ:=Nd) h2 (fun r=>hS.ex _ h2.gd r) hr with ⟨e,hx,rfl⟩ |⟨a,ts',hx,h3,h4,hr⟩
  ·rw [hE2 _ h2 _ hx]; rfl
  ·rw [hE2 _ h2 _ hx];show Option.bind (Au K [41] (st l ts')) _=_;by_cases h5:isS [41] ts'=true
   ·rw [if_pos h5] at hr; rw [Jv h3 h5]; cases hr; rfl
   ·rw [if_neg h5] at hr; rw [Jz h3 h5]; cases hr; rfl
 ·rw [if_neg h1] at hr; rw [Jz h h1]; cases hr; rfl
end
theorem Lh {K:Nat} (hK:1000≤K) {l:List Tk} (hKl:l.length+2≤K):∀ (f g:Nat),3 * f≤g→PK K l (SPu f) (Ai.upto K g)
 | 0,g,h=>⟨fun _ _ _ h=>(by cases h),fun _ _ _ h=>(by cases h),fun _ _ _ h=>(by cases h),fun _ _ _ h=>(by cases h),fun _ _ _ h=>(by cases h),fun _ _ _ h=>(by cases h),fun _ _ _ h=>(by cases h),fun _ _ _ h=>(by cases h)⟩
 | f+1,g,h=>by
  obtain ⟨g,rfl⟩:∃ j,g=j+3:=⟨g - 3,by omega⟩
  have h0:=Lh hK hKl f g (by omega);have h1:=Lh hK hKl f (g+1) (by omega);have h2:=Lh hK hKl f (g+2) (by omega);have hS:=So f;exact ⟨Ka hK hKl (by decide) (L:=Ca.l6 K (Ai.upto K (g+1)) (Ri.map (·.1)) (Ri.map (·.2))) (fun k l i b0 b1 b2 b3 b4=>rfl) (fun p=>rfl) hS.cj h1.cj,
   Ka hK hKl (by decide) (L:=B9.l6 K (Ai.upto K (g+1)) (Ov.map (·.1)) (Ov.map (·.2))) (fun k l i b0 b1 b2 b3 b4=>rfl) (fun p=>rfl) hS.nt h1.nt,
   nt_ok hK hS h2.nt h2.sm,
   Ka hK hKl (by decide) (L:=Cc.l6 K (Ai.upto K (g+1)) (Ot.map (·.1)) (Ot.map (·.2))) (fun k l i b0 b1 b2 b3 b4=>rfl) (fun p=>rfl) hS.pd h1.pd,
   Ka hK hKl (by decide) (L:=B8.l6 K (Ai.upto K (g+1)) (Om.map (·.1)) (Om.map (·.2))) (fun k l i b0 b1 b2 b3 b4=>rfl) (fun p=>rfl) hS.un h1.un,
   un_ok hKl hS h0.ex h1.ex h2.un h1.pm,
   pm_ok hK hKl hS h0.ex h1.ex h2.ex h1.pr,
   pr_ok hS h2.ex⟩
end Go.Proofs.YtifjagfmfkemmaaGreatDoor
