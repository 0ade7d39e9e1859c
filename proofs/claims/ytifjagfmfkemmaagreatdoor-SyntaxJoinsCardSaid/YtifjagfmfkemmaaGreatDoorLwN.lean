import Derived.Test.YtifjagfmfkemmaaGreatDoorLwM
set_option linter.unusedVariables false
set_option linter.unusedSimpArgs false
set_option maxHeartbeats 4000000
namespace Go.Proofs.YtifjagfmfkemmaaGreatDoor
open Eng Go
theorem Fr {α β γ:Type} {l:List Tk} {ts:List Tk} {x:Rs α} {f:α→List Tk→Rs β} {r:Except (List Tk) (β×List Tk)} (h:Sx l ts) {d:Nat} (hx:∀ r,x=some r→Ate d ts r) (hr:bnd x f=some r) :
  (∃ e,x=some (.error e)∧r=.error e)∨∃ a ts',x=some (.ok (a,ts'))∧Sx l ts'∧Eat d ts ts'∧f a ts'=some r:=by
 match x,hx,hr with
 | none,_,hr=>cases hr
 | some (.error e),_,hr=>cases hr; exact .inl ⟨e,rfl,rfl⟩
 | some (.ok (a,t)),hx,hr =>
  have:=hx _ rfl
  exact .inr ⟨a,t,rfl,h.eat this,this,hr⟩
section
variable {K:Nat} {l:List Tk} {S:SP}
theorem K7 (hKl:l.length+2≤K) (hS:Gp S) {g:Nat} (hE:E7 l S.ex (Ag.upto K g).As) (op:Int) (s:List UInt8) :
  K9 l (Ga S op s) ((Ag.upto K (g+2)).Bi op s):=by
 intro ts h r hr;show Bi.F K (Ag.upto K (g+1)) op s (st l ts)=_;unfold Bi.F;unfold Ga D5 at hr;by_cases h1:isS [40] ts=true
 ·rw [if_pos h1] at hr;rw [H5 h h1];have h2:=h.is h1;have hl:=Jf (.inr trivial) hKl (e:=[41]) (by decide) (L:=Bd.l15 K (Ag.upto K g)) (Q:=(Ag.upto K (g+1)).Bd [41]) (fun k l i acc=>rfl) (fun p=>rfl) hS.ex hE;replace hr:bnd (Fv [41] S.ex ts.tail) (fun ks ts=>pok ⟨op,s,0,[],ks⟩ ts)=some r:=hr;show Option.bind ((Ag.upto K (g+1)).Bd [41] (st l ts.tail)) _=_;rcases Fr (γ:=Nd) h2 (fun r=>Eo hS.ex _ h2.gd r) hr with ⟨e,hx,rfl⟩ |⟨ks,ts',hx,h3,h4,hr⟩
  ·rw [hl _ h2 _ hx]; rfl
  ·rw [hl _ h2 _ hx]; cases hr; rfl
 ·rw [if_neg h1] at hr;rw [Ia h h1]; cases hr; rfl
theorem pr_ok (hS:Gp S) {R:GP} (hE:E7 l S.ex R.As):E7 l (prF S) (B3.F K R):=by
 intro ts h r hr;unfold B3.F;obtain ⟨t,u,rfl⟩:=h.gd.head;rw [Gb h,Option.bind_some];unfold prF at hr;simp only [Fo] at hr;by_cases hk:t.Kind=4
 ·rw [if_pos hk] at hr;rw [if_neg (by simpa using hk),Jv h];have h1:Sx l u:=h.eat (d:=1) ⟨List.suffix_cons t u,by simp,h.gd.tl (by omega)⟩;replace hr:bnd (D5 [58] u) (fun _ ts=>bnd (S.ex ts) fun a ts=>pok ⟨9,[],0,t.Text,[a]⟩ ts)=some r:=hr;unfold D5 at hr;show Option.bind (Ao K [58] (st l u)) _=_;by_cases h2:isS [58] u=true
  ·rw [if_pos h2] at hr;rw [H5 h1 h2];have h3:=h1.is h2;replace hr:bnd (S.ex u.tail) (fun a ts=>pok ⟨9,[],0,t.Text,[a]⟩ ts)=some r:=hr;show Option.bind (R.As (st l u.tail)) _=_;rcases Fr (γ:=Nd) h3 (fun r=>hS.ex _ h3.gd r) hr with ⟨e,hx,rfl⟩ |⟨a,ts',hx,h4,h5,hr⟩
   ·rw [hE _ h3 _ hx]; rfl
   ·rw [hE _ h3 _ hx]; cases hr; simp only [cR,Eu,Option.bind_some]
  ·rw [if_neg h2] at hr;rw [Ia h1 h2]; cases hr; rfl
 ·rw [if_neg hk] at hr;rw [if_pos hk,Gn h]; cases hr; rfl
theorem nt_ok (hK:1000≤K) (hS:Gp S) {R:GP} (hN:E7 l S.nt R.Bm) (hM:E7 l S.sm R.B2):E7 l (ntF S) (Bm.F K R):=by
 intro ts h r hr;unfold Bm.F;unfold ntF at hr;by_cases h1:isS [110,111,116] ts=true
 ·rw [if_pos h1] at hr;rw [Gy h h1];have h2:=h.is h1;show Option.bind (R.Bm (st l ts.tail)) _=_;rcases Fr (γ:=Nd) h2 (fun r=>hS.nt _ h2.gd r) hr with ⟨e,hx,rfl⟩ |⟨a,ts',hx,h4,h5,hr⟩
  ·rw [hN _ h2 _ hx]; rfl
  ·rw [hN _ h2 _ hx]; cases hr; simp only [cR,Eu,Cu,Option.bind_some]
 ·rw [if_neg h1] at hr;rw [Gl h h1];show Option.bind (R.B2 (st l ts)) _=_;rcases Fr (γ:=Nd) h (fun r=>hS.sm _ h.gd r) hr with ⟨e,hx,rfl⟩ |⟨a,ts',hx,h4,h5,hr⟩
  ·rw [hM _ h _ hx]; rfl
  ·rw [hM _ h _ hx];show Option.bind (Bx K (Gs.map (·.1)) (Gs.map (·.2)) (st l ts')) _=_;rw [Nu hK h4 Gs (by decide)];cases hf:Ev Gs ts' with
   | none=>rw [hf] at hr; cases hr; rfl
   | some op =>
    rw [hf] at hr;obtain ⟨s,hs'⟩:=E4 hf;have h6:=h4.is hs';show Option.bind (R.B2 (st l ts'.tail)) _=_;rcases Fr (γ:=Nd) h6 (fun r=>hS.sm _ h6.gd r) hr with ⟨e,hx,rfl⟩ |⟨b,ts'',hx,h4,h5,hr⟩
    ·rw [hM _ h6 _ hx]; rfl
    ·rw [hM _ h6 _ hx]; cases hr; simp only [cR,Eu,Cu,Option.bind_some]
theorem un_ok (hKl:l.length+2≤K) (hS:Gp S) {g:Nat} (hE:E7 l S.ex (Ag.upto K g).As) (hE1:E7 l S.ex (Ag.upto K (g+1)).As) (hU:E7 l S.un (Ag.upto K (g+2)).A7)
  (hP:K9 l S.pm (Ag.upto K (g+1)).Br):E7 l (unF S) (Ag.upto K (g+3)).A7:=by
 intro ts h r hr;show A7.F K (Ag.upto K (g+2)) (st l ts)=_;unfold A7.F;unfold unF at hr;by_cases h1:isS [45] ts=true
 ·rw [if_pos h1] at hr;rw [Gy h h1];have h2:=h.is h1;show Option.bind ((Ag.upto K (g+2)).A7 (st l ts.tail)) _=_;rcases Fr (γ:=Nd) h2 (fun r=>hS.un _ h2.gd r) hr with ⟨e,hx,rfl⟩ |⟨a,ts',hx,h4,h5,hr⟩
  ·rw [hU _ h2 _ hx]; rfl
  ·rw [hU _ h2 _ hx]; cases hr; simp only [cR,Eu,Cu,Option.bind_some]
 rw [if_neg h1] at hr;rw [Gl h h1];show Option.bind (Ak K [97,119,97,105,116] (st l ts)) _=_;by_cases h1:isS [97,119,97,105,116] ts=true
 ·rw [if_pos h1] at hr;rw [Gy h h1];have h2:=h.is h1;show Option.bind ((Ag.upto K (g+2)).A7 (st l ts.tail)) _=_;rcases Fr (γ:=Nd) h2 (fun r=>hS.un _ h2.gd r) hr with ⟨e,hx,rfl⟩ |⟨a,ts',hx,h4,h5,hr⟩
  ·rw [hU _ h2 _ hx]; rfl
  ·rw [hU _ h2 _ hx]; cases hr; simp only [cR,Eu,Cu,Option.bind_some]
 rw [if_neg h1] at hr;rw [Gl h h1];show Option.bind (Ak K [103,111] (st l ts)) _=_;by_cases h1:isS [103,111] ts=true
 ·rw [if_pos h1] at hr;rw [Gy h h1];have h2:=h.is h1;show Option.bind (Au K (st l ts.tail)) _=_;rcases Fr (γ:=Nd) h2 (fun r=>C6 _ h2.gd r) hr with ⟨e,hx,rfl⟩ |⟨s,ts',hx,h4,h5,hr⟩
  ·rw [F5 h2 hx]; rfl
  ·rw [F5 h2 hx];show Option.bind ((Ag.upto K (g+2)).Bi 11 s (st l ts')) _=_;rw [K7 hKl hS hE 11 s _ h4 _ hr]
   match r with
   | .error e=>rfl
   | .ok (a,ts)=>rfl
 rw [if_neg h1] at hr;rw [Gl h h1];show Option.bind (A9.F K (Ag.upto K (g+1)) (st l ts)) _=_;unfold A9.F;rcases Fr (γ:=Nd) h (fun r=>hS.pm _ h.gd r) hr with ⟨e,hx,rfl⟩ |⟨a,ts',hx,h4,h5,hr⟩
 ·rw [hP _ h _ hx]; rfl
 ·rw [hP _ h _ hx]
  have:=h4.len
  show Option.bind (obind (A9.l6 K (Ag.upto K (g+1)) K l (pos l ts') a.Op a.Name a.Int a.Text a.Kids) _ _) _=_;rw [Sf hS.ex hE1 _ K a ts' (by omega) h4 r hr];exact J3 r
theorem Pr (hK:1000≤K) {ts:List Tk} (h:Sx l ts):∃ z,Dq K (st l ts)=some (match Hl ts with | some (a,r)=>(a,true,st l r) | none=>(z,false,st l ts)):=by
 obtain ⟨t,u,rfl⟩:=h.gd.head;refine ⟨nd 0 [],?_⟩;unfold Dq;rw [Gb h,Option.bind_some,h.succ];simp only [Hl];by_cases h3:t.Kind=3
 ·rw [if_pos h3,if_pos h3]; rfl
 rw [if_neg h3,if_neg h3];by_cases h4:t.Kind=4
 ·rw [if_pos h4,if_pos h4]; rfl
 rw [if_neg h4,if_neg h4];show Option.bind (Bx K (Hj.map (·.1)) (Hj.map (·.2)) (st l (t :: u))) _=_;rw [Nu hK h Hj (by decide)];cases Ev Hj (t :: u) <;> rfl
theorem pm_ok (hK:1000≤K) (hKl:l.length+2≤K) (hS:Gp S) {g:Nat} (hE:E7 l S.ex (Ag.upto K g).As) (hE1:E7 l S.ex (Ag.upto K (g+1)).As) (hE2:E7 l S.ex (Ag.upto K (g+2)).As)
  (hPr:E7 l S.pr (Ag.upto K (g+1)).B3):K9 l (pmF S) (Ag.upto K (g+3)).Br:=by
 intro ts h r hr;show Br.F K (Ag.upto K (g+2)) (st l ts)=_;unfold Br.F;unfold pmF at hr;obtain ⟨z,hz⟩:=Pr (K:=K) hK h;rw [hz];cases hlit:Hl ts with
 | some p =>
  obtain ⟨a,u⟩:=p;rw [hlit] at hr; cases hr; rfl
 | none =>
 rw [hlit] at hr;obtain ⟨t,u,rfl⟩:=h.gd.head;show Option.bind (Bj K (st l (t :: u))) _=_;rw [Gb h,Option.bind_some];simp only [Fo] at hr;by_cases hk:t.Kind=1
 ·rw [if_pos hk] at hr;rw [if_pos hk,F5 h (r:=.ok (t.Text,u)) (by simp [Fi,Fo,hk,bnd])];have h1:Sx l u:=h.eat (d:=1) ⟨List.suffix_cons t u,by simp,h.gd.tl (by omega)⟩;show Option.bind (Dw K (st l u) [40]) _=_;rw [Jy h1,Option.bind_some];replace hr:(if isS [40] u=true then Ga S 10 t.Text u else pok ⟨6,t.Text,0,[],[]⟩ u)=some r:=hr;by_cases h2:isS [40] u=true
  ·rw [if_pos h2] at hr ⊢;show Option.bind ((Ag.upto K (g+2)).Bi 10 t.Text (st l u)) _=_;rw [K7 hKl hS hE 10 t.Text _ h1 _ hr]
   match r with
   | .error e=>rfl
   | .ok (a,ts)=>rfl
  ·rw [if_neg h2] at hr ⊢; cases hr; rfl
 rw [if_neg hk] at hr;rw [if_neg hk];dsimp only at hr;show Option.bind (Ak K [91] (st l (t :: u))) _=_;generalize t :: u=ts at *;by_cases h1:isS [91] ts=true
 ·rw [if_pos h1] at hr;rw [Gy h h1];have h2:=h.is h1;have hl:=Jf (.inr trivial) hKl (e:=[93]) (by decide) (L:=Bd.l15 K (Ag.upto K (g+1))) (Q:=(Ag.upto K (g+2)).Bd [93]) (fun k l i acc=>rfl) (fun p=>rfl) hS.ex hE1;show Option.bind ((Ag.upto K (g+2)).Bd [93] (st l ts.tail)) _=_;rcases Fr (γ:=Nd) h2 (fun r=>Eo hS.ex _ h2.gd r) hr with ⟨e,hx,rfl⟩ |⟨ks,ts',hx,h3,h4,hr⟩
  ·rw [hl _ h2 _ hx]; rfl
  ·rw [hl _ h2 _ hx]; cases hr; rfl
 rw [if_neg h1] at hr;rw [Gl h h1];show Option.bind (Ak K [123] (st l ts)) _=_;by_cases h1:isS [123] ts=true
 ·rw [if_pos h1] at hr;rw [Gy h h1];have h2:=h.is h1;have hl:=Jf (.inr trivial) hKl (e:=[125]) (by decide) (L:=Bo.l15 K (Ag.upto K (g+1))) (Q:=(Ag.upto K (g+2)).Bo [125]) (fun k l i acc=>rfl) (fun p=>rfl) hS.pr hPr;show Option.bind ((Ag.upto K (g+2)).Bo [125] (st l ts.tail)) _=_;rcases Fr (γ:=Nd) h2 (fun r=>Eo hS.pr _ h2.gd r) hr with ⟨e,hx,rfl⟩ |⟨ks,ts',hx,h3,h4,hr⟩
  ·rw [hl _ h2 _ hx]; rfl
  ·rw [hl _ h2 _ hx]; cases hr; rfl
 rw [if_neg h1] at hr;rw [Gl h h1];show Option.bind (Ao K [40] (st l ts)) _=_;unfold D5 at hr;by_cases h1:isS [40] ts=true
 ·rw [if_pos h1] at hr;rw [H5 h h1];have h2:=h.is h1;replace hr:bnd (S.ex ts.tail) (fun a ts=>bnd (if isS [41] ts=true then pok () ts.tail else some (.error ts)) fun _ ts=>pok a ts)=some r:=hr;show Option.bind ((Ag.upto K (g+2)).As (st l ts.tail)) _=_;rcases Fr (γ:=Nd) h2 (fun r=>hS.ex _ h2.gd r) hr with ⟨e,hx,rfl⟩ |⟨a,ts',hx,h3,h4,hr⟩
  ·rw [hE2 _ h2 _ hx]; rfl
  ·rw [hE2 _ h2 _ hx];show Option.bind (Ao K [41] (st l ts')) _=_;by_cases h5:isS [41] ts'=true
   ·rw [if_pos h5] at hr; rw [H5 h3 h5]; cases hr; rfl
   ·rw [if_neg h5] at hr; rw [Ia h3 h5]; cases hr; rfl
 ·rw [if_neg h1] at hr; rw [Ia h h1]; cases hr; rfl
end
theorem Jr {K:Nat} (hK:1000≤K) {l:List Tk} (hKl:l.length+2≤K):∀ (f g:Nat),3 * f≤g→PK K l (SPu f) (Ag.upto K g)
 | 0,g,h=>⟨fun _ _ _ h=>(by cases h),fun _ _ _ h=>(by cases h),fun _ _ _ h=>(by cases h),fun _ _ _ h=>(by cases h),fun _ _ _ h=>(by cases h),fun _ _ _ h=>(by cases h),fun _ _ _ h=>(by cases h),fun _ _ _ h=>(by cases h)⟩
 | f+1,g,h=>by
  obtain ⟨g,rfl⟩:∃ j,g=j+3:=⟨g - 3,by omega⟩
  have h0:=Jr hK hKl f g (by omega);have h1:=Jr hK hKl f (g+1) (by omega);have h2:=Jr hK hKl f (g+2) (by omega);have hS:=P0 f;exact ⟨Il hK hKl (by decide) (L:=Bq.l6 K (Ag.upto K (g+1)) (Pz.map (·.1)) (Pz.map (·.2))) (fun k l i b0 b1 b2 b3 b4=>rfl) (fun p=>rfl) hS.cj h1.cj,
   Il hK hKl (by decide) (L:=Bt.l6 K (Ag.upto K (g+1)) (Mf.map (·.1)) (Mf.map (·.2))) (fun k l i b0 b1 b2 b3 b4=>rfl) (fun p=>rfl) hS.nt h1.nt,
   nt_ok hK hS h2.nt h2.sm,
   Il hK hKl (by decide) (L:=Bu.l6 K (Ag.upto K (g+1)) (Mg.map (·.1)) (Mg.map (·.2))) (fun k l i b0 b1 b2 b3 b4=>rfl) (fun p=>rfl) hS.pd h1.pd,
   Il hK hKl (by decide) (L:=Bp.l6 K (Ag.upto K (g+1)) (Mv.map (·.1)) (Mv.map (·.2))) (fun k l i b0 b1 b2 b3 b4=>rfl) (fun p=>rfl) hS.un h1.un,
   un_ok hKl hS h0.ex h1.ex h2.un h1.pm,
   pm_ok hK hKl hS h0.ex h1.ex h2.ex h1.pr,
   pr_ok hS h2.ex⟩
end Go.Proofs.YtifjagfmfkemmaaGreatDoor
