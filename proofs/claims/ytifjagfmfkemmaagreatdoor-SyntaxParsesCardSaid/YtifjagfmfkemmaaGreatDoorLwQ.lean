import Derived.Test.YtifjagfmfkemmaaGreatDoorLwP
set_option linter.unusedVariables false
set_option linter.unusedSimpArgs false
set_option maxHeartbeats 4000000
namespace Go.Proofs.YtifjagfmfkemmaaGreatDoor
open Eng Go
section
variable {K:Nat} {l:List Tk}
theorem Tl {R:GR} {ts:List Tk} (h:Sx l ts) (a:Nd):∀ (k i:Nat),6 < i+k→i≤6→Ax.l21 K R a k i l (pos l ts) false=match Fl (G4.drop i) ts with
  | some op=>Option.bind (R.A3 (rst l ts.tail false)) (fun (b,p)=>some (X3.done (nd op [a,b],p)))
  | none=>some (X3.go (l,pos l ts,false))
 | 0,i,h1,h2=>by omega
 | k+1,i,h1,h2=>by
  rw [Ax.l21];by_cases hi:i < 6
  ·rw [if_pos (by simp; omega),if_pos (by simp; omega)];show Option.bind (Ag K _ (rst l ts false)) _=_;have hd:G4.drop i=(G4.getD i ([],0)) :: G4.drop (i+1):=by
    have:i=0∨i=1∨i=2∨i=3∨i=4∨i=5:=by omega
    rcases this with rfl | rfl | rfl | rfl | rfl | rfl <;> rfl
   have e1:([[60],[60,61],[62],[62,61],[61,61],[33,61]]:List (List UInt8)).getD (Int.toNat (i:Int)) ([]:List UInt8)=(G4.getD i ([],0)).1:=by
    have:i=0∨i=1∨i=2∨i=3∨i=4∨i=5:=by omega
    rcases this with rfl | rfl | rfl | rfl | rfl | rfl <;> rfl
   have e2:([20,21,22,23,24,25]:List Int).getD (Int.toNat (i:Int)) (0:Int)=(G4.getD i ([],0)).2:=by
    have:i=0∨i=1∨i=2∨i=3∨i=4∨i=5:=by omega
    rcases this with rfl | rfl | rfl | rfl | rfl | rfl <;> rfl
   rw [e1,hd,Fl];by_cases hs:isS (G4.getD i ([],0)).1 ts=true
   ·rw [Hk h hs,if_pos hs,Option.bind_some];dsimp only;rw [if_pos rfl,if_pos (by simp; omega),e2];cases R.A3 (rst l ts.tail false) with
    | none=>rfl
    | some p=>simp only [Option.bind_some,Hh]
   ·rw [He h hs,if_neg hs,Option.bind_some];show Ax.l21 K R a k (IntKind.i64.wrap ((i:Int)+1)) l (pos l ts) false=_;rw [w64 (by omega) (by omega)];exact Tl h a k (i+1) (by omega) (by omega)
  ·rw [if_neg (by simp; omega),List.drop_eq_nil_iff.2 (by simp [G4]; omega)]; rfl
structure RK (K:Nat) (l:List Tk) (S:SP) (R:GR):Prop where
 ex:Fy l S.ex R.Al
 cj:Fy l S.cj R.Bj
 nt:Fy l S.nt R.Ax
 sm:Fy l S.sm R.A3
 pd:Fy l S.pd R.A7
 un:Fy l S.un R.Aw
 pm:Fy l S.pm R.Ba
 ps:Fy l (Gl [125] S.pr) R.Be
theorem W9 (hK:1000≤K) {S:SP} (hS:Hm S) {R:GR} (hN:Fy l S.nt R.Ax) (hM:Fy l S.sm R.A3):Fy l (ntF S) (Ax.F K R):=by
 intro ts h r hr;unfold Ax.F;unfold ntF at hr;refine Fw h hr (fun h1 h2 hr=>?_) fun hr=>?_
 ·refine E7 h2 hr (fun r=>hS.nt _ h2.gd r) (fun r hx=>hN _ h2 _ hx) (fun a ts' h3 h4 hr=>?_) fun a ts' h3=>?_
  ·dsimp only; rw [Ga]; exact Fx hr
  ·dsimp only; rw [Ga]; exact ⟨_,rfl⟩
 ·refine E7 h hr (fun r=>hS.sm _ h.gd r) (fun r hx=>hM _ h _ hx) (fun a ts' h3 h4 hr=>?_) fun a ts' h3=>?_
  ·have:=Tl (K:=K) (R:=R) h3 a K 0 (by omega) (by omega)
   replace this:Ax.l21 K R a K 0 l (pos l ts') false=_:=this;rw [List.drop_zero] at this;show Gs l (obind (Ax.l21 K R a K 0 l (pos l ts') false) _ _) r;rw [this];cases hf:Fl G4 ts' with
   | none=>rw [hf] at hr; exact Fx hr
   | some op =>
    rw [hf] at hr;obtain ⟨s,hs'⟩:=F0 hf;have h6:=h3.is hs';replace hr:bnd (S.sm ts'.tail) (fun b ts=>pok (nd op [a,b]) ts)=some r:=hr;dsimp only;rcases Fd (γ:=Nd) h6 (fun r=>hS.sm _ h6.gd r) hr with ⟨e,hx,rfl⟩ |⟨b,ts'',hx,h4,h5,hr⟩
    ·obtain ⟨b,hb⟩:=hM _ h6 _ hx;rw [hb]; exact ⟨_,rfl⟩
    ·have hb:R.A3 (rst l ts'.tail false)=some (b,rst l ts'' false):=hM _ h6 _ hx;rw [hb]; cases hr; rfl
  ·have:=Mq (K:=K) (R:=R) h3 a K 0 (by omega) (by omega)
   replace this:Ax.l21 K R a K 0 l (pos l ts') true=_:=this;refine ⟨a,?_⟩;show obind (Ax.l21 K R a K 0 l (pos l ts') true) _ _=_;rw [this]; rfl
theorem Ve {R:GR} {ex:List Tk→Rs Nd} (hs:Snd 1 ex) (hq:Fy l ex R.Al):∀ (k k':Nat) (a:Nd) (ts:List Tk),k < k'→Sx l ts→∀ r,Hu ex k a ts=some r →
  Gs l (obind (Aw.l34 K R k' l (pos l ts) false a.Op a.Name a.Int a.Text a.Kids) (fun r=>r) (fun _=>none)) r:=by
 intro k
 induction k with
 | zero=>intro k' a ts hk h r hr; cases hr
 | succ k ih =>
  intro k' a ts hk h r hr;obtain ⟨k',rfl⟩:∃ j,k'=j+1:=⟨k' - 1,by omega⟩
  have bad:∀ (b:Nd) us,Sx l us→∃ c,obind (Aw.l34 K R k' l (pos l us) true b.Op b.Name b.Int b.Text b.Kids) (fun r=>r) (fun _=>none)=some (c,rst l us true):=fun b us hu=>by
   obtain ⟨j,rfl⟩:∃ j,k'=j+1:=⟨k' - 1,by omega⟩
   exact ⟨b,by rw [La hu]; rfl⟩
  rw [Aw.l34];unfold Hu at hr;show Gs l (obind (Option.bind (Ag K [46] (rst l ts false)) _) _ _) r;by_cases h1:isS [46] ts=true
  ·rw [if_pos h1] at hr;rw [Hk h h1,Option.bind_some];dsimp only;rw [if_pos rfl,Ed,Ga,Option.bind_some];have h2:=h.is h1;rcases Fd (γ:=Nd) h2 (fun r=>D0 _ h2.gd r) hr with ⟨e,hx,rfl⟩ |⟨s,ts',hx,h4,h5,hr⟩
   ·obtain ⟨s,hs'⟩:=Gq (K:=K) h2 hx;rw [hs'];exact bad ⟨29,s,0,[],[a]⟩ e (h2.eat (D0 _ h2.gd _ hx))
   ·have hb:A1 K (rst l ts.tail false)=some (s,rst l ts' false):=Gq h2 hx;rw [hb];exact ih k' ⟨29,s,0,[],[a]⟩ ts' (by omega) h4 r hr
  ·rw [if_neg h1] at hr;rw [He h h1,Option.bind_some];dsimp only;rw [if_neg (by simp)];by_cases h1:isS [91] ts=true
   ·rw [if_pos h1] at hr;rw [Hk h h1,Option.bind_some];dsimp only;rw [if_pos rfl];have h2:=h.is h1;rcases Fd (γ:=Nd) h2 (fun r=>hs _ h2.gd r) hr with ⟨e,hx,rfl⟩ |⟨b,ts',hx,h4,h5,hr⟩
    ·obtain ⟨b,hb⟩:=hq _ h2 _ hx;have he:Eat 0 _ e:=hs _ h2.gd _ hx;have h3:=h2.eat he;rw [hb,Option.bind_some];dsimp only;rw [Ed,Hh,Option.bind_some,G9 h3];exact bad (nd 28 [a,b]) e h3
    ·have hb:R.Al (rst l ts.tail false)=some (b,rst l ts' false):=hq _ h2 _ hx;rw [hb,Option.bind_some];dsimp only;rw [Ed,Hh,Option.bind_some];unfold Ee at hr;by_cases h5:isS [93] ts'=true
     ·rw [if_pos h5] at hr;rw [H4 h4 h5];exact ih k' (nd 28 [a,b]) ts'.tail (by omega) (h4.is h5) r hr
     ·rw [if_neg h5] at hr;rw [Iu h4 h5];cases hr;exact bad (nd 28 [a,b]) ts' h4
   ·rw [if_neg h1] at hr;rw [He h h1];cases hr;simp only [Option.bind_some,Ed]; rfl
theorem R4 (hKl:l.length+20≤K) {S:SP} (hS:Hm S) {R:GR} (hE:Fy l S.ex R.Al) {op:Int} {s:List UInt8} {ts:List Tk} (h:Sx l ts) {r:Except (List Tk) (Nd×List Tk)} (hr:Hq S op s ts=some r) :
  Gs l (Option.bind (Aq K [40] (rst l ts false)) fun p=>Option.bind (A8.F K R [41] p) fun (ks,p)=>some (⟨op,s,0,[],ks⟩,p)) r:=by
 refine G0 h hr (fun h1 h2 hr=>?_) ?_
 ·exact E7 h2 hr (fun r=>F4 hS.ex _ h2.gd r) (fun r hx=>Kd hKl hS.ex hE _ h2 _ hx) (fun ks ts' h3 h4 hr=>Fx hr) fun ks ts' h3=>⟨_,rfl⟩
 ·obtain ⟨ks,hb⟩:=Ow (K:=K) (R:=R) (by omega) [41] ts h;dsimp only;rw [hb]; exact ⟨_,rfl⟩
theorem Xm (hKl:l.length+20≤K) {S:SP} (hS:Hm S) {g:Nat} (hE:Fy l S.ex (Ah.upto K g).Al) (hE1:Fy l S.ex (Ah.upto K (g+1)).Al) (hU:Fy l S.un (Ah.upto K (g+1)).Aw)
  (hP:Fy l S.pm (Ah.upto K (g+1)).Ba):Fy l (unF S) (Ah.upto K (g+2)).Aw:=by
 intro ts h r hr;show Gs l (Aw.F K (Ah.upto K (g+1)) (rst l ts false)) r;unfold Aw.F;unfold unF at hr;refine Fw h hr (fun h1 h2 hr=>?_) fun hr=>Fw h hr (fun h1 h2 hr=>?_) fun hr=>Fw h hr (fun h1 h2 hr=>?_) fun hr=>?_
 ·refine E7 h2 hr (fun r=>hS.un _ h2.gd r) (fun r hx=>hU _ h2 _ hx) (fun a ts' h3 h4 hr=>?_) fun a ts' h3=>?_
  ·dsimp only; rw [Ga]; exact Fx hr
  ·dsimp only; rw [Ga]; exact ⟨_,rfl⟩
 ·refine E7 h2 hr (fun r=>hS.un _ h2.gd r) (fun r hx=>hU _ h2 _ hx) (fun a ts' h3 h4 hr=>?_) fun a ts' h3=>?_
  ·dsimp only; rw [Ga]; exact Fx hr
  ·dsimp only; rw [Ga]; exact ⟨_,rfl⟩
 ·refine E7 h2 hr (fun r=>D0 _ h2.gd r) (fun r hx=>Gq h2 hx) (fun s ts' h3 h4 hr=>R4 hKl hS hE h3 hr) fun s ts' h3=>?_
  obtain ⟨ks,hb⟩:=Ow (K:=K) (R:=Ah.upto K g) (by omega) [41] ts' h3;dsimp only;rw [G9 h3,Option.bind_some];replace hb:(Ah.upto K (g+1)).A8 [41] (rst l ts' true)=_:=hb;rw [hb]; exact ⟨_,rfl⟩
 ·refine E7 h hr (fun r=>hS.pm _ h.gd r) (fun r hx=>hP _ h _ hx) (fun a ts' h3 h4 hr=>?_) fun a ts' h3=>?_
  ·have:=h3.len
   exact Ve hS.ex hE1 _ K a ts' (by omega) h3 r hr
  ·obtain ⟨k,rfl⟩:∃ j,K=j+1:=⟨K - 1,by omega⟩
   exact ⟨a,by dsimp only; rw [La h3]; rfl⟩
theorem V2 (hKl:l.length+20≤K) {S:SP} (hS:Hm S) {g:Nat} (hE:Fy l S.ex (Ah.upto K g).Al) (hE1:Fy l S.ex (Ah.upto K (g+1)).Al) (hPs:Fy l (Gl [125] S.pr) (Ah.upto K (g+1)).Be) :
  Fy l (pmF S) (Ah.upto K (g+2)).Ba:=by
 intro ts h r hr;show Gs l (Ba.F K (Ah.upto K (g+1)) (rst l ts false)) r;unfold Ba.F;unfold pmF at hr;obtain ⟨t,u,rfl⟩:=h.gd.head;obtain ⟨g1,g2,g3⟩:=M0 h;dsimp only;rw [if_neg (by simp),if_pos ⟨g1,g2⟩,g3,h.succ];simp only [Jb] at hr;by_cases h3:t.Kind=3
 ·rw [if_pos h3] at hr ⊢; cases hr; rfl
 rw [if_neg h3] at hr ⊢;by_cases h4:t.Kind=4
 ·rw [if_pos h4] at hr ⊢; cases hr; rfl
 rw [if_neg h4] at hr ⊢;by_cases h5:t.Kind=1
 ·rw [if_pos h5];have hl:Fl Iq (t :: u)=none:=by
   simp [Iq,Fl,isS,h5]
  rw [hl] at hr;simp only [Gm,if_pos h5] at hr;have h6:Sx l u:=h.eat (d:=1) ⟨List.suffix_cons t u,by simp,h.gd.tl (by omega)⟩;replace hr:(if isS [40] u=true then Hq S 10 t.Text u else pok ⟨6,t.Text,0,[],[]⟩ u)=some r:=hr;refine Fw h6 hr (fun h1 h2 hr=>?_) fun hr=>Fx hr
  unfold Hq Ee at hr;rw [if_pos h1] at hr;exact E7 h2 hr (fun r=>F4 hS.ex _ h2.gd r) (fun r hx=>Kd hKl hS.ex hE _ h2 _ hx) (fun ks ts' h3 h4 hr=>Fx hr) fun ks ts' h3=>⟨_,rfl⟩
 rw [if_neg h5];have hr':(if isS [116,114,117,101] (t :: u)=true then pok (nd 2 []) u else if isS [102,97,108,115,101] (t :: u)=true then pok (nd 3 []) u else if isS [110,117,108,108] (t :: u)=true then pok (nd 1 []) u else
   if isS [91] (t :: u)=true then bnd (Gl [93] S.ex u) fun ks ts=>pok (nd 7 ks) ts
   else if isS [123] (t :: u)=true then bnd (Gl [125] S.pr u) fun ks ts=>pok (nd 8 ks) ts
   else bnd (Ee [40] (t :: u)) fun _ ts=>bnd (S.ex ts) fun a ts=>bnd (Ee [41] ts) fun _ ts=>pok a ts)=some r:=by
  rw [← hr];simp only [Iq,Fl];by_cases a1:isS [110,117,108,108] (t :: u)=true
  ·rw [if_neg (Ju (by decide) a1),if_neg (Ju (by decide) a1),if_pos a1,if_pos a1]
  rw [if_neg a1,if_neg a1];by_cases a2:isS [116,114,117,101] (t :: u)=true
  ·rw [if_pos a2,if_pos a2]
  rw [if_neg a2,if_neg a2];by_cases a3:isS [102,97,108,115,101] (t :: u)=true
  ·rw [if_pos a3,if_pos a3]
  rw [if_neg a3,if_neg a3];simp only [Gm,if_neg h5];rfl
 clear hr;refine Fw h hr' (fun h1 h2 hr=>Fx hr) fun hr=>Fw h hr (fun h1 h2 hr=>Fx hr) fun hr=>Fw h hr (fun h1 h2 hr=>Fx hr) fun hr=>Fw h hr (fun h1 h2 hr=>?_) fun hr=>Fw h hr (fun h1 h2 hr=>?_) fun hr=>?_
 ·exact E7 h2 hr (fun r=>F4 hS.ex _ h2.gd r) (fun r hx=>Kd hKl hS.ex hE _ h2 _ hx) (fun ks ts' h3 h4 hr=>Fx hr) fun ks ts' h3=>⟨_,rfl⟩
 ·exact E7 h2 hr (fun r=>F4 hS.pr _ h2.gd r) (fun r hx=>hPs _ h2 _ hx) (fun ks ts' h3 h4 hr=>Fx hr) fun ks ts' h3=>⟨_,rfl⟩
 ·unfold Ee at hr;have hr:(if isS [40] (t :: u)=true then bnd (S.ex u) (fun a ts=>bnd (Ee [41] ts) fun _ ts=>pok a ts) else some (.error (t :: u)))=some r:=by
   rw [← hr]; unfold Ee; split <;> rfl
  refine Fw h hr (fun h1 h2 hr=>?_) fun hr=>by cases hr; exact ⟨_,rfl⟩
  exact E7 h2 hr (fun r=>hS.ex _ h2.gd r) (fun r hx=>hE1 _ h2 _ hx) (fun a ts' h3 h4 hr=>G0 h3 hr (fun h1 h2 hr=>Fx hr) ⟨_,rfl⟩) fun a ts' h3=>by
   dsimp only;rw [G9 h3]; exact ⟨_,rfl⟩
end
theorem Lw {K:Nat} (hK:1000≤K) {l:List Tk} (hKl:l.length+20≤K):∀ (f g:Nat),2 * f+8≤g→RK K l (SPu f) (Ah.upto K g)
 | 0,g,h=>⟨fun _ _ _ h=>(by cases h),fun _ _ _ h=>(by cases h),fun _ _ _ h=>(by cases h),fun _ _ _ h=>(by cases h),fun _ _ _ h=>(by cases h),fun _ _ _ h=>(by cases h),fun _ _ _ h=>(by cases h),fun ts hx r hr=>by
   obtain ⟨g,rfl⟩:∃ j,g=j+1:=⟨g - 1,by omega⟩
   show Gs l (Be.F K (Ah.upto K g) (rst l ts false)) r;unfold Be.F;refine Fw hx hr (fun h1 h2 hr=>Fx hr) fun hr=>by cases hr⟩
 | f+1,g,h=>by
  obtain ⟨g,rfl⟩:∃ j,g=j+2:=⟨g - 2,by omega⟩
  have h0:=Lw hK hKl f g (by omega);have h1:=Lw hK hKl f (g+1) (by omega);have hS:=So f;have hb:Gh l (Ah.upto K (g+1)).Al:=by
   obtain ⟨j,rfl⟩:∃ j,g=j+6:=⟨g - 6,by omega⟩
   exact (badU (by omega) j).2.2.2.2.2.2
  exact ⟨Ji hKl (fin:=fun a p=>(p.l,p.at_,p.bad,a.Op,a.Name,a.Int,a.Text,a.Kids)) (T:=fun o=>Option.bind o fun (x0,x1,x2,y0,y1,y2,y3,y4)=>some ((⟨y0,y1,y2,y3,y4⟩:Aa),(⟨x0,x1,x2⟩:RP))) (fun a p=>by cases a; rfl) (L:=Al.l7 K (Ah.upto K (g+1))) (fun k l i b b0 b1 b2 b3 b4=>rfl) (fun p=>rfl) hS.cj h1.cj,
   Ji hKl (fin:=fun a p=>(p.l,p.at_,p.bad,a.Op,a.Name,a.Int,a.Text,a.Kids)) (T:=fun o=>Option.bind o fun (x0,x1,x2,y0,y1,y2,y3,y4)=>some ((⟨y0,y1,y2,y3,y4⟩:Aa),(⟨x0,x1,x2⟩:RP))) (fun a p=>by cases a; rfl) (L:=Bj.l7 K (Ah.upto K (g+1))) (fun k l i b b0 b1 b2 b3 b4=>rfl) (fun p=>rfl) hS.nt h1.nt,
   W9 hK hS h1.nt h1.sm,
   Ji hKl (fin:=fun a p=>X3.done (a,p)) (T:=fun o=>obind o (fun r=>r) (fun _=>none)) (fun a p=>rfl) (L:=A3.l6 K (Ah.upto K (g+1))) (fun k l i b b0 b1 b2 b3 b4=>rfl) (fun p=>rfl) hS.pd h1.pd,
   Ji hKl (fin:=fun a p=>X3.done (a,p)) (T:=fun o=>obind o (fun r=>r) (fun _=>none)) (fun a p=>rfl) (L:=A7.l6 K (Ah.upto K (g+1))) (fun k l i b b0 b1 b2 b3 b4=>rfl) (fun p=>rfl) hS.un h1.un,
   Xm hKl hS h0.ex h1.ex h1.un h1.pm,
   V2 hKl hS h0.ex h1.ex h1.ps,
   Qg hKl hS h1.ex hb⟩
end Go.Proofs.YtifjagfmfkemmaaGreatDoor
