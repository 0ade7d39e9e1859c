import Derived.Test.YtifjagfmfkemmaaGreatDoorLwP
set_option linter.unusedVariables false
set_option linter.unusedSimpArgs false
set_option maxHeartbeats 4000000
namespace Go.Proofs.YtifjagfmfkemmaaGreatDoor
open Eng Go
section
variable {K:Nat} {l:List Tk}
theorem N1 {R:GR} {ts:List Tk} (h:Sx l ts) (a:Nd):∀ (k i:Nat),6 < i+k→i≤6→Aw.l21 K R a k i l (pos l ts) false=match Fl (F3.drop i) ts with
  | some op=>Option.bind (R.A1 (rst l ts.tail false)) (fun (b,p)=>some (Q9.done (nd op [a,b],p)))
  | none=>some (Q9.go (l,pos l ts,false))
 | 0,i,h1,h2=>by omega
 | k+1,i,h1,h2=>by
  rw [Aw.l21]
  by_cases hi:i < 6
  ·rw [if_pos (by simp; omega),if_pos (by simp; omega)]
   show Option.bind (Ah K _ (rst l ts false)) _=_
   have hd:F3.drop i=(F3.getD i ([],0)) :: F3.drop (i+1):=by
    have:i=0∨i=1∨i=2∨i=3∨i=4∨i=5:=by omega
    rcases this with rfl | rfl | rfl | rfl | rfl | rfl <;> rfl
   have e1:([[60],[60,61],[62],[62,61],[61,61],[33,61]]:List (List UInt8)).getD (Int.toNat (i:Int)) ([]:List UInt8)=(F3.getD i ([],0)).1:=by
    have:i=0∨i=1∨i=2∨i=3∨i=4∨i=5:=by omega
    rcases this with rfl | rfl | rfl | rfl | rfl | rfl <;> rfl
   have e2:([20,21,22,23,24,25]:List Int).getD (Int.toNat (i:Int)) (0:Int)=(F3.getD i ([],0)).2:=by
    have:i=0∨i=1∨i=2∨i=3∨i=4∨i=5:=by omega
    rcases this with rfl | rfl | rfl | rfl | rfl | rfl <;> rfl
   rw [e1,hd,Fl]
   by_cases hs:isS (F3.getD i ([],0)).1 ts=true
   ·rw [Is h hs,if_pos hs,Option.bind_some]
    dsimp only
    rw [if_pos rfl,if_pos (by simp; omega),e2]
    cases R.A1 (rst l ts.tail false) with
    | none=>rfl
    | some p=>simp only [Option.bind_some,Jh]
   ·rw [It h hs,if_neg hs,Option.bind_some]
    show Aw.l21 K R a k (IntKind.i64.wrap ((i:Int)+1)) l (pos l ts) false=_
    rw [w64 (by omega) (by omega)]
    exact N1 h a k (i+1) (by omega) (by omega)
  ·rw [if_neg (by simp; omega),List.drop_eq_nil_iff.2 (by simp [F3]; omega)]; rfl
structure RK (K:Nat) (l:List Tk) (S:SP) (R:GR):Prop where
 ex:F8 l S.ex R.Am
 cj:F8 l S.cj R.Bc
 nt:F8 l S.nt R.Aw
 sm:F8 l S.sm R.A1
 pd:F8 l S.pd R.A2
 un:F8 l S.un R.Av
 pm:F8 l S.pm R.Ba
 ps:F8 l (Gb [125] S.pr) R.A8
theorem P3 (hK:1000≤K) {S:SP} (hS:Hh S) {R:GR} (hN:F8 l S.nt R.Aw) (hM:F8 l S.sm R.A1):F8 l (ntF S) (Aw.F K R):=by
 intro ts h r hr
 unfold Aw.F
 unfold ntF at hr
 refine F2 h hr (fun h1 h2 hr=>?_) fun hr=>?_
 ·refine Ga h2 hr (fun r=>hS.nt _ h2.gd r) (fun r hx=>hN _ h2 _ hx) (fun a ts' h3 h4 hr=>?_) fun a ts' h3=>?_
  ·dsimp only; rw [G0]; exact F7 hr
  ·dsimp only; rw [G0]; exact ⟨_,rfl⟩
 ·refine Ga h hr (fun r=>hS.sm _ h.gd r) (fun r hx=>hM _ h _ hx) (fun a ts' h3 h4 hr=>?_) fun a ts' h3=>?_
  ·have:=N1 (K:=K) (R:=R) h3 a K 0 (by omega) (by omega)
   replace this:Aw.l21 K R a K 0 l (pos l ts') false=_:=this
   rw [List.drop_zero] at this
   show Gp l (obind (Aw.l21 K R a K 0 l (pos l ts') false) _ _) r
   rw [this]
   cases hf:Fl F3 ts' with
   | none=>rw [hf] at hr; exact F7 hr
   | some op =>
    rw [hf] at hr
    obtain ⟨s,hs'⟩:=Fr hf
    have h6:=h3.is hs'
    replace hr:bnd (S.sm ts'.tail) (fun b ts=>pok (nd op [a,b]) ts)=some r:=hr
    dsimp only
    rcases Fq (γ:=Nd) h6 (fun r=>hS.sm _ h6.gd r) hr with ⟨e,hx,rfl⟩ |⟨b,ts'',hx,h4,h5,hr⟩
    ·obtain ⟨b,hb⟩:=hM _ h6 _ hx
     rw [hb]; exact ⟨_,rfl⟩
    ·have hb:R.A1 (rst l ts'.tail false)=some (b,rst l ts'' false):=hM _ h6 _ hx
     rw [hb]; cases hr; rfl
  ·have:=J9 (K:=K) (R:=R) h3 a K 0 (by omega) (by omega)
   replace this:Aw.l21 K R a K 0 l (pos l ts') true=_:=this
   refine ⟨a,?_⟩
   show obind (Aw.l21 K R a K 0 l (pos l ts') true) _ _=_
   rw [this]; rfl
theorem O5 {R:GR} {ex:List Tk→Rs Nd} (hs:Snd 1 ex) (hq:F8 l ex R.Am):∀ (k k':Nat) (a:Nd) (ts:List Tk),k < k'→Sx l ts→∀ r,Gk ex k a ts=some r →
  Gp l (obind (Av.l34 K R k' l (pos l ts) false a.Op a.Name a.Int a.Text a.Kids) (fun r=>r) (fun _=>none)) r:=by
 intro k
 induction k with
 | zero=>intro k' a ts hk h r hr; cases hr
 | succ k ih =>
  intro k' a ts hk h r hr
  obtain ⟨k',rfl⟩:∃ j,k'=j+1:=⟨k' - 1,by omega⟩
  have bad:∀ (b:Nd) us,Sx l us→∃ c,obind (Av.l34 K R k' l (pos l us) true b.Op b.Name b.Int b.Text b.Kids) (fun r=>r) (fun _=>none)=some (c,rst l us true):=fun b us hu=>by
   obtain ⟨j,rfl⟩:∃ j,k'=j+1:=⟨k' - 1,by omega⟩
   exact ⟨b,by rw [Jr hu]; rfl⟩
  rw [Av.l34]
  unfold Gk at hr
  show Gp l (obind (Option.bind (Ah K [46] (rst l ts false)) _) _ _) r
  by_cases h1:isS [46] ts=true
  ·rw [if_pos h1] at hr
   rw [Is h h1,Option.bind_some]
   dsimp only
   rw [if_pos rfl,Ff,G0,Option.bind_some]
   have h2:=h.is h1
   rcases Fq (γ:=Nd) h2 (fun r=>Gd _ h2.gd r) hr with ⟨e,hx,rfl⟩ |⟨s,ts',hx,h4,h5,hr⟩
   ·obtain ⟨s,hs'⟩:=Jo (K:=K) h2 hx
    rw [hs']
    exact bad ⟨29,s,0,[],[a]⟩ e (h2.eat (Gd _ h2.gd _ hx))
   ·have hb:Bd K (rst l ts.tail false)=some (s,rst l ts' false):=Jo h2 hx
    rw [hb]
    exact ih k' ⟨29,s,0,[],[a]⟩ ts' (by omega) h4 r hr
  ·rw [if_neg h1] at hr
   rw [It h h1,Option.bind_some]
   dsimp only
   rw [if_neg (by simp)]
   by_cases h1:isS [91] ts=true
   ·rw [if_pos h1] at hr
    rw [Is h h1,Option.bind_some]
    dsimp only
    rw [if_pos rfl]
    have h2:=h.is h1
    rcases Fq (γ:=Nd) h2 (fun r=>hs _ h2.gd r) hr with ⟨e,hx,rfl⟩ |⟨b,ts',hx,h4,h5,hr⟩
    ·obtain ⟨b,hb⟩:=hq _ h2 _ hx
     have he:Eat 0 _ e:=hs _ h2.gd _ hx
     have h3:=h2.eat he
     rw [hb,Option.bind_some]
     dsimp only
     rw [Ff,Jh,Option.bind_some,Ie h3]
     exact bad (nd 28 [a,b]) e h3
    ·have hb:R.Am (rst l ts.tail false)=some (b,rst l ts' false):=hq _ h2 _ hx
     rw [hb,Option.bind_some]
     dsimp only
     rw [Ff,Jh,Option.bind_some]
     unfold Fa at hr
     by_cases h5:isS [93] ts'=true
     ·rw [if_pos h5] at hr
      rw [Jl h4 h5]
      exact ih k' (nd 28 [a,b]) ts'.tail (by omega) (h4.is h5) r hr
     ·rw [if_neg h5] at hr
      rw [Jd h4 h5]
      cases hr
      exact bad (nd 28 [a,b]) ts' h4
   ·rw [if_neg h1] at hr
    rw [It h h1]
    cases hr
    simp only [Option.bind_some,Ff]; rfl
theorem Oc (hKl:l.length+20≤K) {S:SP} (hS:Hh S) {R:GR} (hE:F8 l S.ex R.Am) {op:Int} {s:List UInt8} {ts:List Tk} (h:Sx l ts) {r:Except (List Tk) (Nd×List Tk)} (hr:G8 S op s ts=some r) :
  Gp l (Option.bind (Ar K [40] (rst l ts false)) fun p=>Option.bind (A5.F K R [41] p) fun (ks,p)=>some (⟨op,s,0,[],ks⟩,p)) r:=by
 refine Ld h hr (fun h1 h2 hr=>?_) ?_
 ·exact Ga h2 hr (fun r=>F1 hS.ex _ h2.gd r) (fun r hx=>Jc hKl hS.ex hE _ h2 _ hx) (fun ks ts' h3 h4 hr=>F7 hr) fun ks ts' h3=>⟨_,rfl⟩
 ·obtain ⟨ks,hb⟩:=Ni (K:=K) (R:=R) (by omega) [41] ts h
  dsimp only
  rw [hb]; exact ⟨_,rfl⟩
theorem Qi (hKl:l.length+20≤K) {S:SP} (hS:Hh S) {g:Nat} (hE:F8 l S.ex (Ag.upto K g).Am) (hE1:F8 l S.ex (Ag.upto K (g+1)).Am) (hU:F8 l S.un (Ag.upto K (g+1)).Av)
  (hP:F8 l S.pm (Ag.upto K (g+1)).Ba):F8 l (unF S) (Ag.upto K (g+2)).Av:=by
 intro ts h r hr
 show Gp l (Av.F K (Ag.upto K (g+1)) (rst l ts false)) r
 unfold Av.F
 unfold unF at hr
 refine F2 h hr (fun h1 h2 hr=>?_) fun hr=>F2 h hr (fun h1 h2 hr=>?_) fun hr=>F2 h hr (fun h1 h2 hr=>?_) fun hr=>?_
 ·refine Ga h2 hr (fun r=>hS.un _ h2.gd r) (fun r hx=>hU _ h2 _ hx) (fun a ts' h3 h4 hr=>?_) fun a ts' h3=>?_
  ·dsimp only; rw [G0]; exact F7 hr
  ·dsimp only; rw [G0]; exact ⟨_,rfl⟩
 ·refine Ga h2 hr (fun r=>hS.un _ h2.gd r) (fun r hx=>hU _ h2 _ hx) (fun a ts' h3 h4 hr=>?_) fun a ts' h3=>?_
  ·dsimp only; rw [G0]; exact F7 hr
  ·dsimp only; rw [G0]; exact ⟨_,rfl⟩
 ·refine Ga h2 hr (fun r=>Gd _ h2.gd r) (fun r hx=>Jo h2 hx) (fun s ts' h3 h4 hr=>Oc hKl hS hE h3 hr) fun s ts' h3=>?_
  obtain ⟨ks,hb⟩:=Ni (K:=K) (R:=Ag.upto K g) (by omega) [41] ts' h3
  dsimp only
  rw [Ie h3,Option.bind_some]
  replace hb:(Ag.upto K (g+1)).A5 [41] (rst l ts' true)=_:=hb
  rw [hb]; exact ⟨_,rfl⟩
 ·refine Ga h hr (fun r=>hS.pm _ h.gd r) (fun r hx=>hP _ h _ hx) (fun a ts' h3 h4 hr=>?_) fun a ts' h3=>?_
  ·have:=h3.len
   exact O5 hS.ex hE1 _ K a ts' (by omega) h3 r hr
  ·obtain ⟨k,rfl⟩:∃ j,K=j+1:=⟨K - 1,by omega⟩
   exact ⟨a,by dsimp only; rw [Jr h3]; rfl⟩
theorem Qr (hKl:l.length+20≤K) {S:SP} (hS:Hh S) {g:Nat} (hE:F8 l S.ex (Ag.upto K g).Am) (hE1:F8 l S.ex (Ag.upto K (g+1)).Am) (hPs:F8 l (Gb [125] S.pr) (Ag.upto K (g+1)).A8) :
  F8 l (pmF S) (Ag.upto K (g+2)).Ba:=by
 intro ts h r hr
 show Gp l (Ba.F K (Ag.upto K (g+1)) (rst l ts false)) r
 unfold Ba.F
 unfold pmF at hr
 obtain ⟨t,u,rfl⟩:=h.gd.head
 obtain ⟨g1,g2,g3⟩:=M0 h
 dsimp only
 rw [if_neg (by simp),if_pos ⟨g1,g2⟩,g3,h.succ]
 simp only [Km] at hr
 by_cases h3:t.Kind=3
 ·rw [if_pos h3] at hr ⊢; cases hr; rfl
 rw [if_neg h3] at hr ⊢
 by_cases h4:t.Kind=4
 ·rw [if_pos h4] at hr ⊢; cases hr; rfl
 rw [if_neg h4] at hr ⊢
 by_cases h5:t.Kind=1
 ·rw [if_pos h5]
  have hl:Fl G9 (t :: u)=none:=by
   simp [G9,Fl,isS,h5]
  rw [hl] at hr
  simp only [F6,if_pos h5] at hr
  have h6:Sx l u:=h.eat (d:=1) ⟨List.suffix_cons t u,by simp,h.gd.tl (by omega)⟩
  replace hr:(if isS [40] u=true then G8 S 10 t.Text u else pok ⟨6,t.Text,0,[],[]⟩ u)=some r:=hr
  refine F2 h6 hr (fun h1 h2 hr=>?_) fun hr=>F7 hr
  unfold G8 Fa at hr
  rw [if_pos h1] at hr
  exact Ga h2 hr (fun r=>F1 hS.ex _ h2.gd r) (fun r hx=>Jc hKl hS.ex hE _ h2 _ hx) (fun ks ts' h3 h4 hr=>F7 hr) fun ks ts' h3=>⟨_,rfl⟩
 rw [if_neg h5]
 have hr':(if isS [116,114,117,101] (t :: u)=true then pok (nd 2 []) u else if isS [102,97,108,115,101] (t :: u)=true then pok (nd 3 []) u else if isS [110,117,108,108] (t :: u)=true then pok (nd 1 []) u else
   if isS [91] (t :: u)=true then bnd (Gb [93] S.ex u) fun ks ts=>pok (nd 7 ks) ts
   else if isS [123] (t :: u)=true then bnd (Gb [125] S.pr u) fun ks ts=>pok (nd 8 ks) ts
   else bnd (Fa [40] (t :: u)) fun _ ts=>bnd (S.ex ts) fun a ts=>bnd (Fa [41] ts) fun _ ts=>pok a ts)=some r:=by
  rw [← hr]
  simp only [G9,Fl]
  by_cases a1:isS [110,117,108,108] (t :: u)=true
  ·rw [if_neg (L3 (by decide) a1),if_neg (L3 (by decide) a1),if_pos a1,if_pos a1]
  rw [if_neg a1,if_neg a1]
  by_cases a2:isS [116,114,117,101] (t :: u)=true
  ·rw [if_pos a2,if_pos a2]
  rw [if_neg a2,if_neg a2]
  by_cases a3:isS [102,97,108,115,101] (t :: u)=true
  ·rw [if_pos a3,if_pos a3]
  rw [if_neg a3,if_neg a3]
  simp only [F6,if_neg h5]
  rfl
 clear hr
 refine F2 h hr' (fun h1 h2 hr=>F7 hr) fun hr=>F2 h hr (fun h1 h2 hr=>F7 hr) fun hr=>F2 h hr (fun h1 h2 hr=>F7 hr) fun hr=>F2 h hr (fun h1 h2 hr=>?_) fun hr=>F2 h hr (fun h1 h2 hr=>?_) fun hr=>?_
 ·exact Ga h2 hr (fun r=>F1 hS.ex _ h2.gd r) (fun r hx=>Jc hKl hS.ex hE _ h2 _ hx) (fun ks ts' h3 h4 hr=>F7 hr) fun ks ts' h3=>⟨_,rfl⟩
 ·exact Ga h2 hr (fun r=>F1 hS.pr _ h2.gd r) (fun r hx=>hPs _ h2 _ hx) (fun ks ts' h3 h4 hr=>F7 hr) fun ks ts' h3=>⟨_,rfl⟩
 ·unfold Fa at hr
  have hr:(if isS [40] (t :: u)=true then bnd (S.ex u) (fun a ts=>bnd (Fa [41] ts) fun _ ts=>pok a ts) else some (.error (t :: u)))=some r:=by
   rw [← hr]; unfold Fa; split <;> rfl
  refine F2 h hr (fun h1 h2 hr=>?_) fun hr=>by cases hr; exact ⟨_,rfl⟩
  exact Ga h2 hr (fun r=>hS.ex _ h2.gd r) (fun r hx=>hE1 _ h2 _ hx) (fun a ts' h3 h4 hr=>Ld h3 hr (fun h1 h2 hr=>F7 hr) ⟨_,rfl⟩) fun a ts' h3=>by
   dsimp only
   rw [Ie h3]; exact ⟨_,rfl⟩
end
theorem Lt {K:Nat} (hK:1000≤K) {l:List Tk} (hKl:l.length+20≤K):∀ (f g:Nat),2 * f+8≤g→RK K l (SPu f) (Ag.upto K g)
 | 0,g,h=>⟨fun _ _ _ h=>(by cases h),fun _ _ _ h=>(by cases h),fun _ _ _ h=>(by cases h),fun _ _ _ h=>(by cases h),fun _ _ _ h=>(by cases h),fun _ _ _ h=>(by cases h),fun _ _ _ h=>(by cases h),fun ts hx r hr=>by
   obtain ⟨g,rfl⟩:∃ j,g=j+1:=⟨g - 1,by omega⟩
   show Gp l (A8.F K (Ag.upto K g) (rst l ts false)) r
   unfold A8.F
   refine F2 hx hr (fun h1 h2 hr=>F7 hr) fun hr=>by cases hr⟩
 | f+1,g,h=>by
  obtain ⟨g,rfl⟩:∃ j,g=j+2:=⟨g - 2,by omega⟩
  have h0:=Lt hK hKl f g (by omega)
  have h1:=Lt hK hKl f (g+1) (by omega)
  have hS:=Np f
  have hb:Gm l (Ag.upto K (g+1)).Am:=by
   obtain ⟨j,rfl⟩:∃ j,g=j+6:=⟨g - 6,by omega⟩
   exact (badU (by omega) j).2.2.2.2.2.2
  exact ⟨Hp hKl (fin:=fun a p=>(p.l,p.at_,p.bad,a.Op,a.Name,a.Int,a.Text,a.Kids)) (T:=fun o=>Option.bind o fun (x0,x1,x2,y0,y1,y2,y3,y4)=>some ((⟨y0,y1,y2,y3,y4⟩:Aa),(⟨x0,x1,x2⟩:RP))) (fun a p=>by cases a; rfl) (L:=Am.l7 K (Ag.upto K (g+1))) (fun k l i b b0 b1 b2 b3 b4=>rfl) (fun p=>rfl) hS.cj h1.cj,
   Hp hKl (fin:=fun a p=>(p.l,p.at_,p.bad,a.Op,a.Name,a.Int,a.Text,a.Kids)) (T:=fun o=>Option.bind o fun (x0,x1,x2,y0,y1,y2,y3,y4)=>some ((⟨y0,y1,y2,y3,y4⟩:Aa),(⟨x0,x1,x2⟩:RP))) (fun a p=>by cases a; rfl) (L:=Bc.l7 K (Ag.upto K (g+1))) (fun k l i b b0 b1 b2 b3 b4=>rfl) (fun p=>rfl) hS.nt h1.nt,
   P3 hK hS h1.nt h1.sm,
   Hp hKl (fin:=fun a p=>Q9.done (a,p)) (T:=fun o=>obind o (fun r=>r) (fun _=>none)) (fun a p=>rfl) (L:=A1.l6 K (Ag.upto K (g+1))) (fun k l i b b0 b1 b2 b3 b4=>rfl) (fun p=>rfl) hS.pd h1.pd,
   Hp hKl (fin:=fun a p=>Q9.done (a,p)) (T:=fun o=>obind o (fun r=>r) (fun _=>none)) (fun a p=>rfl) (L:=A2.l6 K (Ag.upto K (g+1))) (fun k l i b b0 b1 b2 b3 b4=>rfl) (fun p=>rfl) hS.un h1.un,
   Qi hKl hS h0.ex h1.ex h1.un h1.pm,
   Qr hKl hS h0.ex h1.ex h1.ps,
   Mu hKl hS h1.ex hb⟩
end Go.Proofs.YtifjagfmfkemmaaGreatDoor
