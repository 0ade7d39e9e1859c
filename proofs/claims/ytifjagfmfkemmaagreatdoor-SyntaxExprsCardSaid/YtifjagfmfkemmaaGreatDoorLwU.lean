import Derived.Test.YtifjagfmfkemmaaGreatDoorLwT
set_option linter.unusedVariables false
set_option linter.unusedSimpArgs false
set_option maxHeartbeats 4000000
namespace Go.Proofs.YtifjagfmfkemmaaGreatDoor
open Eng Go
theorem K8 {s rest:List UInt8} {t:Al} (h:H8 s=.ok (t,rest)) (hne:s≠[]) (hs:s.length < 4000000):∃ n,0 < n∧n≤s.length∧rest=s.drop n:=by
 have ho:=Ll (K:=s.length+1001) (by omega) hne (by omega) (by omega)
 rw [h] at ho
 obtain ⟨n,h1,h2,h3,_⟩:=ho
 exact ⟨n,h1,h2,h3⟩
theorem Lk {s:List UInt8} {e:Int} (h:H8 s=.error e) (hne:s≠[]) (hs:s.length < 4000000):e≠0:=by
 have ho:=Ll (K:=s.length+1001) (by omega) hne (by omega) (by omega)
 rw [h] at ho
 exact ho.1
theorem Pj (acc s:List UInt8):∀ t r,Gz acc s=.ok (t,r)→t.length≤4096:=by
 fun_induction Gz acc s <;> intro t r h
 all_goals first | cases h; done |(cases h; omega) |(rename_i ih; exact ih t r h)
theorem Pe {s rest:List UInt8} {t:Al} (h:H8 s=.ok (t,rest)):TOK t∧t.Kind≠0:=by
 unfold H8 at h
 by_cases h1:F5 isL s=true
 ·rw [if_pos h1] at h
  unfold Od at h
  by_cases h2:64 <(s.takeWhile isW).length
  ·rw [if_pos h2] at h; cases h
  ·rw [if_neg h2] at h
   cases h
   by_cases h3:isK (s.takeWhile isW)=true
   ·rw [if_pos h3]
    exact ⟨⟨fun e=>(by cases e),fun e=>(by cases e),fun e=>(by cases e)⟩,by simp⟩
   ·rw [if_neg h3]
    refine ⟨⟨fun _=>?_,fun e=>(by cases e),fun e=>(by cases e)⟩,by simp⟩
    have hw:F5 isW s=true:=by
     cases s with
     | nil=>cases h1
     | cons c r=>show isW c=true; unfold isW; rw [show isL c=true from h1]; rfl
    refine ⟨?_,by show (s.takeWhile isW).length≤64; omega,by simpa using h3,?_,G3 s isW⟩
    ·have:=H2 hw
     intro e
     have e':s.takeWhile isW=[]:=e
     rw [e'] at this; exact absurd this (by simp)
    ·show F5 isD (s.takeWhile isW)=false
     cases s with
     | nil=>cases h1
     | cons c r =>
      rw [List.takeWhile_cons,if_pos (show isW c=true from hw)]
      show isD c=false
      have hL:=(O8 c).1 h1
      cases hD:isD c with
      | false=>rfl
      | true=>have:=(Mp c).1 hD; omega
 ·rw [if_neg h1] at h
  by_cases h2:F5 isD s=true
  ·rw [if_pos h2] at h
   unfold Nk at h
   by_cases h3:Jt s=true
   ·rw [if_pos h3] at h; cases h
   ·rw [if_neg h3] at h
    by_cases h4:Ii (s.takeWhile isD)=true
    ·rw [if_pos h4] at h
     cases h
     have hne:s.takeWhile isD≠[]:=by
      have:=H2 h2
      intro h0; rw [h0] at this; exact absurd this (by simp)
     obtain ⟨g1,g2⟩:=J8 hne (G3 s isD)
     rw [g1] at h4
     have h4:=of_decide_eq_true h4
     rw [g2 h4]
     exact ⟨⟨fun e=>(by cases e),fun e=>(by cases e),fun _=>by show (0:Int)≤((Gn 0 (s.takeWhile isD):Nat):Int); omega⟩,by simp⟩
    ·rw [if_neg h4] at h; cases h
  ·rw [if_neg h2] at h
   by_cases h3:hd s=34
   ·rw [if_pos h3] at h
    cases hl:Gz [] s.tail with
    | error e=>rw [hl] at h; cases h
    | ok p =>
     obtain ⟨x,y⟩:=p
     rw [hl] at h
     cases h
     have:=Pj _ _ _ _ hl
     exact ⟨⟨fun e=>(by cases e),fun _=>by show (x.length:Int)≤4096; omega,fun e=>(by cases e)⟩,by simp⟩
   ·rw [if_neg h3] at h
    by_cases h4:F0 s=0
    ·rw [if_pos h4] at h; cases h
    ·rw [if_neg h4] at h
     cases h
     exact ⟨⟨fun e=>(by cases e),fun e=>(by cases e),fun e=>(by cases e)⟩,by simp⟩
theorem Nj (s:List UInt8) (c:UInt8) (r:List UInt8) (h:s.dropWhile isB=c :: r):s=s.takeWhile isB++c :: r:=by
 rw [← h]; exact List.takeWhile_append_dropWhile.symm
theorem Ku {s:List UInt8} {c:UInt8} {r rest:List UInt8} {t:Al} (hs:s.dropWhile isB=c :: r) (hl:H8 (c :: r)=.ok (t,rest)) (hb:s.length < 4000000) :
  ∃ n,0 < n∧n≤(c :: r).length∧rest=(c :: r).drop n∧rest.length+n=(c :: r).length∧s.length=(s.takeWhile isB).length+(c :: r).length:=by
 have e1:=Nj s c r hs
 have hsl:s.length=(s.takeWhile isB).length+(c :: r).length:=by
  have:=congrArg List.length e1
  rw [List.length_append] at this
  exact this
 obtain ⟨n,h1,h2,rfl⟩:=K8 hl (by simp) (by omega)
 exact ⟨n,h1,h2,rfl,by rw [List.length_drop]; omega,hsl⟩
theorem Iz:∀ (f:Nat) (s:List UInt8) (i:Nat) (acc l:List Al),F9 f s i acc=.ok l→s.length < 4000000→∃ b,l=acc++b∧Gl b∧(∀ t∈b,TOK t)∧b.length≤s.length+1
 | 0,s,i,acc,l,h,_=>by cases h
 | f+1,s,i,acc,l,h,hb=>by
  unfold F9 at h
  cases hs:s.dropWhile isB with
  | nil =>
   rw [hs] at h
   cases h
   refine ⟨_,rfl,rfl,?_,by simp⟩
   intro t ht
   rw [List.mem_singleton.1 ht]
   exact ⟨fun e=>(by cases e),fun e=>(by cases e),fun e=>(by cases e)⟩
  | cons c r =>
   rw [hs] at h
   simp only at h
   cases hl:H8 (c :: r) with
   | error e=>rw [hl] at h; cases h
   | ok p =>
    obtain ⟨t,rest⟩:=p
    rw [hl] at h
    obtain ⟨n,h1,h2,h3,h4,h5⟩:=Ku hs hl hb
    obtain ⟨b,hb1,hb2,hb3,hb4⟩:=Iz f rest _ _ l h (by omega)
    obtain ⟨k1,k2⟩:=Pe hl
    refine ⟨⟨t.Kind,((i+(s.takeWhile isB).length:Nat):Int),t.Text,t.Int⟩ :: b,by rw [hb1]; simp,?_,?_,by simp; omega⟩
    ·obtain ⟨u,v,rfl⟩:=hb2.head
     exact hb2
    ·intro x hx
     rcases List.mem_cons.1 hx with rfl | hx
     ·exact k1
     ·exact hb3 x hx
theorem Ic:∀ (f:Nat) (s:List UInt8) (i:Nat) (acc:List Al) (a e:Int),s.length < f→s.length < 4000000→F9 f s i acc=.error (a,e)→e≠0
 | 0,s,i,acc,a,e,h,_,_=>by omega
 | f+1,s,i,acc,a,e,h,hb,hx=>by
  unfold F9 at hx
  cases hs:s.dropWhile isB with
  | nil=>rw [hs] at hx; cases hx
  | cons c r =>
   rw [hs] at hx
   simp only at hx
   have hsl:s.length=(s.takeWhile isB).length+(c :: r).length:=by
    have:=congrArg List.length (Nj s c r hs)
    rw [List.length_append] at this
    exact this
   cases hl:H8 (c :: r) with
   | error e2 =>
    rw [hl] at hx
    cases hx
    exact Lk hl (by simp) (by omega)
   | ok p =>
    obtain ⟨t,rest⟩:=p
    rw [hl] at hx
    obtain ⟨n,h1,h2,h3,h4,h5⟩:=Ku hs hl hb
    exact Ic f rest _ _ a e (by omega) (by omega) hx
def fin (r:Except (List Tk) (Nd×List Tk)):Nd×Int×Int:=match r with
 | .error e=>(B3,atE e,29)
 | .ok (a,ts)=>if hdK 0 ts=true then (if 4000 < nsz a then (B3,0,6) else if 40 < ndp a then (B3,0,7) else (a,0,0)) else (B3,atE ts,29)
def O1 (p:List Tk→Rs Nd) (l:List Tk):Nd×Int×Int:=match p l with
 | some r=>fin r
 | none=>(B3,0,0)
def H6 (p:List Tk→Rs Nd) (src:List UInt8):Nd×Int×Int:=if 16384 < src.length then (B3,0,6) else match F9 (src.length+1) src 0 [] with
 | .error (a,e)=>(B3,a,e)
 | .ok l=>O1 p l
def N7 (K:Nat) (a1:Int ⊕ (Aa×Ab)):Option (Int ⊕ (Aa×Int×Int)):=match a1 with |(Sum.inl a1)=>some (Sum.inl a1) |(Sum.inr (a1_0,a1_1))=>(Option.bind (Bx K a1_1) (fun a2=>(if a2.Kind≠0 then (Option.bind (Bl K a1_1) (fun a3=>some (Sum.inl a3))) else (Option.bind (C7 K a1_0) (fun a4=>(if a4 > 4000 then some (Sum.inr ((⟨0,[],0,[],([]:List Aa)⟩:Aa),0,6)) else (Option.bind (C6 K a1_0) (fun a5=>(if a5 > 40 then some (Sum.inr ((⟨0,[],0,[],([]:List Aa)⟩:Aa),0,7)) else some (Sum.inr (a1_0,0,0)))))))))))
theorem Oo {K:Nat} (hb:K≤9000000000) {l:List Tk} {r:Except (List Tk) (Nd×List Tk)} (hl:Sx l l) (hA:Ate 0 l r) (hs:∀ a ts,r=.ok (a,ts)→nsz a≤K):∃ x,N7 K (cR l r)=some x∧Gi x=fin r:=by
 match r,hA,hs with
 | .error e,hA,hs=>exact ⟨_,rfl,rfl⟩
 | .ok (a,ts),hA,hs =>
  have h:=hl.eat (show Eat 0 l ts from hA)
  obtain ⟨t,u,rfl⟩:=h.gd.head
  have hn:=hs a _ rfl
  have hp:=Gu (K:=K) h
  have hf:=I5 (K:=K) h
  unfold N7 fin
  simp only [cR,hp,hf,Option.bind_some,Px hb a hn,N3 hb a hn]
  by_cases hk:t.Kind=0
  ·rw [if_neg (by simpa using hk),if_pos (show hdK 0 (t :: u)=true by simpa [hdK] using hk)]
   by_cases h1:4000 < nsz a
   ·rw [if_pos (by omega),if_pos h1]; exact ⟨_,rfl,rfl⟩
   ·rw [if_neg (by omega),if_neg h1]
    by_cases h2:40 < ndp a
    ·rw [if_pos (by omega),if_pos h2]; exact ⟨_,rfl,rfl⟩
    ·rw [if_neg (by omega),if_neg h2]; exact ⟨_,rfl,rfl⟩
  ·rw [if_pos hk,if_neg (show ¬ hdK 0 (t :: u)=true by simpa [hdK] using hk)]
   exact ⟨_,rfl,rfl⟩
def Ou (K:Nat) (l0:List Tk) (o:Option (Aa×RP)):Option (Aa×Int×Int):=Option.bind (Option.bind o (fun (a3_0,a3_1)=>some (a3_1.l,a3_1.at_,a3_1.bad,a3_0.Op,a3_0.Name,a3_0.Int,a3_0.Text,a3_0.Kids))) (fun (x23401_0,x23401_1,x23401_2,x23402_0,x23402_1,x23402_2,x23402_3,x23402_4)=>(Option.bind (A7 K (⟨x23401_0,x23401_1,x23401_2⟩:Ad) 0) (fun a4=>(if a4=true then (Option.bind (B9 K (⟨x23402_0,x23402_1,x23402_2,x23402_3,x23402_4⟩:Aa)) (fun a5=>(if a5 > 4000 then some ((⟨0,[],0,[],([]:List Aa)⟩:Aa),0,6) else (Option.bind (B2 K (⟨x23402_0,x23402_1,x23402_2,x23402_3,x23402_4⟩:Aa)) (fun a6=>(if a6 > 40 then some ((⟨0,[],0,[],([]:List Aa)⟩:Aa),0,7) else some ((⟨x23402_0,x23402_1,x23402_2,x23402_3,x23402_4⟩:Aa),0,0))))))) else (if (0:Int)≤x23401_1∧(x23401_1:Int) <(l0.length:Int) then some ((⟨0,[],0,[],([]:List Aa)⟩:Aa),(l0.getD (Int.toNat x23401_1) Dr).At,29) else none)))))
theorem Nu {K:Nat} (hb:K≤9000000000) {l:List Tk} {r:Except (List Tk) (Nd×List Tk)} {o:Option (Aa×RP)} (hl:Sx l l) (hA:Ate 0 l r) (hs:∀ a ts,r=.ok (a,ts)→nsz a≤K) (ho:Gp l o r):Ou K l o=some (fin r):=by
 unfold Ou fin
 match r,hA,hs,ho with
 | .error e,hA,hs,⟨a,ho⟩ =>
  have h:=hl.eat (show Eat 0 l e from hA)
  obtain ⟨t,u,rfl⟩:=h.gd.head
  obtain ⟨g1,g2,g3⟩:=M0 h
  rw [ho]
  simp only [Option.bind_some]
  have:=Oz (K:=K) (l:=l) (ts:=t :: u) 0
  rw [this]
  simp only [Option.bind_some]
  rw [if_neg (by simp),if_pos ⟨g1,g2⟩,g3]; rfl
 | .ok (a,ts),hA,hs,ho =>
  have h:=hl.eat (show Eat 0 l ts from hA)
  obtain ⟨t,u,rfl⟩:=h.gd.head
  obtain ⟨g1,g2,g3⟩:=M0 h
  have hn:=hs a _ rfl
  replace ho:o=some (a,rst l (t :: u) false):=ho
  rw [ho]
  simp only [Option.bind_some,Ff]
  have:=Jb (K:=K) h 0
  rw [this]
  simp only [Option.bind_some,rsize hb a hn,Qm hb a hn]
  by_cases hk:t.Kind=0
  ·rw [if_pos (show hdK 0 (t :: u)=true by simpa [hdK] using hk)]
   simp only [hk,decide_true,if_true]
   by_cases h1:4000 < nsz a
   ·rw [if_pos (by omega),if_pos h1]
   ·rw [if_neg (by omega),if_neg h1]
    by_cases h2:40 < ndp a
    ·rw [if_pos (by omega),if_pos h2]
    ·rw [if_neg (by omega),if_neg h2]
  ·have hk':¬ decide (t.Kind=0)=true:=by simpa using hk
   rw [if_neg hk',if_neg (show ¬ hdK 0 (t :: u)=true from hk'),if_pos ⟨g1,g2⟩,g3]; rfl
section
variable {K:Nat} (hK:20000≤K) (hb:K < 8000000) {p:List Tk→Rs Nd} (hs:Snd 0 p) (ht:Tot 16385 p) {P:Nd→Prop} (hv:Vl P nsz 1 p)
include hK hb hs ht hv
theorem Nv {q:Ab→Option (Int ⊕ (Nd×Ab))} (hq:∀ l,l.length≤16385→Gg l p q) (src:List UInt8) :
  Option.bind (El K src) (fun (a,b,c)=>if c≠0 then some (B3,b,c) else Option.bind (Option.bind (q ⟨a,0⟩) (N7 K)) (fun x=>some (Gi x)))=some (H6 p src):=by
 unfold H6
 by_cases h1:16384 < src.length
 ·rw [if_pos h1]
  unfold El
  rw [if_pos (by omega)]; rfl
 ·rw [if_neg h1,Ns (by omega) hK hb]
  cases h:F9 (src.length+1) src 0 [] with
  | error p =>
   obtain ⟨a,e⟩:=p
   have:=Ic _ _ _ _ _ _ (by omega) (by omega) h
   simp only [ans,Option.bind_some]
   rw [if_pos this]
  | ok l =>
   obtain ⟨b,e,h2,h3,h4⟩:=Iz _ _ _ _ _ h (by omega)
   obtain rfl:l=b:=by simpa using e
   have hx:Sx l l:=⟨List.suffix_refl _,h2,by omega⟩
   obtain ⟨r,hr⟩:=ht l h2 (by omega)
   have hA:=hs l h2 r hr
   simp only [ans,Option.bind_some]
   rw [if_neg (by decide)]
   have e0:(⟨l,0⟩:Ab)=st l l:=by simp [st,pos]
   rw [e0,hq l (by omega) l hx r hr,Option.bind_some]
   obtain ⟨x,e1,e2⟩:=Oo (K:=K) (by omega) hx hA (fun a ts e=>by subst e; have:=(hv l a ts h3 hr).2.1; omega)
   rw [e1,Option.bind_some,e2]
   unfold O1
   rw [hr]
theorem Pl {q:RP→Option (Nd×RP)} (hq:∀ l,l.length≤16385→F8 l p q) (src:List UInt8) :
  Option.bind (Cz K src) (fun (a,b,c)=>if c≠0 then some (B3,b,c) else Ou K a (q ⟨a,0,false⟩))=some (H6 p src):=by
 unfold H6
 by_cases h1:16384 < src.length
 ·rw [if_pos h1]
  unfold Cz
  rw [if_pos (by omega)]; rfl
 ·rw [if_neg h1,N8 (by omega) hK hb]
  cases h:F9 (src.length+1) src 0 [] with
  | error p =>
   obtain ⟨a,e⟩:=p
   have:=Ic _ _ _ _ _ _ (by omega) (by omega) h
   simp only [ans,Option.bind_some]
   rw [if_pos this]
  | ok l =>
   obtain ⟨b,e,h2,h3,h4⟩:=Iz _ _ _ _ _ h (by omega)
   obtain rfl:l=b:=by simpa using e
   have hx:Sx l l:=⟨List.suffix_refl _,h2,by omega⟩
   obtain ⟨r,hr⟩:=ht l h2 (by omega)
   have hA:=hs l h2 r hr
   simp only [ans,Option.bind_some]
   rw [if_neg (by decide)]
   have e0:(⟨l,0,false⟩:RP)=rst l l false:=by simp [rst,pos]
   rw [e0,Nu (K:=K) (by omega) hx hA (fun a ts e=>by subst e; have:=(hv l a ts h3 hr).2.1; omega) (hq l (by omega) l hx r hr)]
   unfold O1
   rw [hr]
omit hK hb hs ht hv in
theorem nz:nsz B3≤4000:=by decide
omit hK hb hs in
theorem N5 (src:List UInt8):nsz (H6 p src).1≤4000∧((H6 p src).2.2=0→Small (H6 p src).1∧P (H6 p src).1):=by
 unfold H6
 by_cases h1:16384 < src.length
 ·rw [if_pos h1]; exact ⟨nz,fun h=>by cases h⟩
 ·rw [if_neg h1]
  cases h:F9 (src.length+1) src 0 [] with
  | error p =>
   obtain ⟨a,e⟩:=p
   have:=Ic _ _ _ _ _ _ (by omega) (by omega) h
   exact ⟨nz,fun h=>absurd h this⟩
  | ok l =>
   obtain ⟨b,e,h2,h3,h4⟩:=Iz _ _ _ _ _ h (by omega)
   obtain rfl:l=b:=by simpa using e
   obtain ⟨r,hr⟩:=ht l h2 (by omega)
   dsimp only
   unfold O1 fin
   rw [hr]
   dsimp only
   match r,hr with
   | .error e,hr=>exact ⟨nz,fun h=>by cases h⟩
   | .ok (a,ts),hr =>
    dsimp only
    split
    ·split
     ·exact ⟨nz,fun h=>by cases h⟩
     ·split
      ·exact ⟨nz,fun h=>by cases h⟩
      ·exact ⟨by dsimp only; omega,fun _=>⟨⟨show nsz a≤4000 by omega,show ndp a≤40 by omega⟩,(hv l a ts h3 hr).2.2⟩⟩
    ·exact ⟨nz,fun h=>by cases h⟩
end
def Iu:List Tk→Rs Nd:=(SPu 163859).ex
theorem J1:Snd 0 Iu:=(Np _).ex.le
theorem Ik:Tot 16385 Iu:=(Qc 163859 16385).1 (by omega)
theorem Jm:Vl IsE nsz 1 Iu:=(valU _).ex.le (by omega)
theorem Qe {K:Nat} (hK:500000≤K) (hb:K < 8000000) (src:List UInt8):E8 K src=some (H6 Iu src):=by
 have h:=Nv (K:=K) (by omega) hb J1 Ik Jm (q:=Ax K) (fun l hl=>(Ka (by omega) (by omega) _ K (by omega)).ex) src
 unfold E8
 show Option.bind (Fw K src) _=_
 replace h:Fw K src=_:=h
 rw [h]; rfl
theorem Ph {K:Nat} (hK:500000≤K) (hb:K < 8000000) (src:List UInt8):Ew K src=some (H6 Iu src):=by
 have h:=Pl (K:=K) (by omega) hb J1 Ik Jm (q:=Am K) (fun l hl=>(Lt (by omega) (by omega) _ K (by omega)).ex) src
 unfold Ew
 show Option.bind (Er K src false) _=_
 replace h:Er K src false=_:=h
 rw [h]; rfl
theorem My {K:Nat} (hK:500000≤K) (hb:K < 8000000) (hw:D5 K=some true) (src:List UInt8):D3 K src=some true:=by
 unfold D3
 rw [hw]
 by_cases h:(src.length:Int) > 20000
 ·rw [if_pos h]; rfl
 rw [if_neg h,Qe hK hb,Ph hK hb]
 obtain ⟨h1,h2⟩:=N5 Ik Jm src
 have h3:=(Ng K (by omega) (H6 Iu src).1 (H6 Iu src).1 (by omega)).self
 generalize H6 Iu src=v at *
 obtain ⟨a,b,c⟩:=v
 simp only [Option.bind_some,if_true] at *
 rw [h3]
 simp only [Option.bind_some,if_true]
 by_cases hc:c=0
 ·rw [if_neg (by simpa using hc),O2 (by omega) (by omega) a (by omega)]
  simp only [Option.bind_some]
  rw [if_pos (Ju (h2 hc))]
 ·rw [if_pos hc]
theorem Kn (src:List UInt8):D3 5000000 src=some true:=My (by omega) (by omega) M7 src
end Go.Proofs.YtifjagfmfkemmaaGreatDoor
