import Derived.Test.YtifjagfmfkemmaaGreatDoorLwT
set_option linter.unusedVariables false
set_option linter.unusedSimpArgs false
set_option maxHeartbeats 4000000
namespace Go.Proofs.YtifjagfmfkemmaaGreatDoor
open Eng Go
theorem Lk {s rest:List UInt8} {t:Aq} (h:H7 s=.ok (t,rest)) (hne:s≠[]) (hs:s.length < 4000000):∃ n,0 < n∧n≤s.length∧rest=s.drop n:=by
 have hp:=List.length_pos_iff.2 hne;have ho:=K4 (K:=s.length+1001) (src:=s) (i:=0) (by omega) (by omega) (by omega) (by omega) hp;rw [List.drop_zero,h] at ho;obtain ⟨n,h1,h2,h3,_⟩:=ho;exact ⟨n,h1,h2,h3⟩
theorem Mo {s:List UInt8} {e:Int} (h:H7 s=.error e) (hne:s≠[]) (hs:s.length < 4000000):e≠0:=by
 have hp:=List.length_pos_iff.2 hne;have ho:=K4 (K:=s.length+1001) (src:=s) (i:=0) (by omega) (by omega) (by omega) (by omega) hp;rw [List.drop_zero,h] at ho;exact ho.1
theorem Q5 (acc s:List UInt8):∀ t r,Gz acc s=.ok (t,r)→t.length≤4096:=by
 fun_induction Gz acc s <;> intro t r h
 all_goals first | cases h; done |(cases h; omega) |(rename_i ih; exact ih t r h)
theorem Nk {s rest:List UInt8} {t:Aq} (h:H7 s=.ok (t,rest)):TOK t∧t.Kind≠0:=by
 unfold H7 at h;by_cases h1:F1 isL s=true
 ·rw [if_pos h1] at h;unfold Pq at h;by_cases h2:64 <(s.takeWhile isW).length
  ·rw [if_pos h2] at h; cases h
  ·rw [if_neg h2] at h;cases h;by_cases h3:isK (s.takeWhile isW)=true
   ·rw [if_pos h3];exact ⟨⟨fun e=>(by cases e),fun e=>(by cases e),fun e=>(by cases e)⟩,by simp⟩
   ·rw [if_neg h3];refine ⟨⟨fun _=>?_,fun e=>(by cases e),fun e=>(by cases e)⟩,by simp⟩;have hw:F1 isW s=true:=by
     cases s with
     | nil=>cases h1
     | cons c r=>show isW c=true; unfold isW; rw [show isL c=true from h1]; rfl
    refine ⟨?_,by show (s.takeWhile isW).length≤64; omega,by simpa using h3,?_,H1 s isW⟩
    ·have:=K1 hw
     intro e;have e':s.takeWhile isW=[]:=e;rw [e'] at this; exact absurd this (by simp)
    ·show F1 isD (s.takeWhile isW)=false;cases s with
     | nil=>cases h1
     | cons c r =>
      rw [List.takeWhile_cons,if_pos (show isW c=true from hw)];show isD c=false;have hL:=(Re c).1 h1;cases hD:isD c with
      | false=>rfl
      | true=>have:=(Rd c).1 hD; omega
 ·rw [if_neg h1] at h;by_cases h2:F1 isD s=true
  ·rw [if_pos h2] at h;unfold P2 at h;by_cases h3:L5 s=true
   ·rw [if_pos h3] at h; cases h
   ·rw [if_neg h3] at h;by_cases h4:Jz (s.takeWhile isD)=true
    ·rw [if_pos h4] at h;cases h;have hne:s.takeWhile isD≠[]:=by
      have:=K1 h2
      intro h0; rw [h0] at this; exact absurd this (by simp)
     obtain ⟨g1,g2⟩:=Ob hne (H1 s isD);rw [g1] at h4;have h4:=of_decide_eq_true h4;rw [g2 h4];exact ⟨⟨fun e=>(by cases e),fun e=>(by cases e),fun _=>by show (0:Int)≤((Hb 0 (s.takeWhile isD):Nat):Int); omega⟩,by simp⟩
    ·rw [if_neg h4] at h; cases h
  ·rw [if_neg h2] at h;by_cases h3:hd s=34
   ·rw [if_pos h3] at h;cases hl:Gz [] s.tail with
    | error e=>rw [hl] at h; cases h
    | ok p =>
     obtain ⟨x,y⟩:=p;rw [hl] at h;cases h
     have:=Q5 _ _ _ _ hl
     exact ⟨⟨fun e=>(by cases e),fun _=>by show (x.length:Int)≤4096; omega,fun e=>(by cases e)⟩,by simp⟩
   ·rw [if_neg h3] at h;by_cases h4:F4 s=0
    ·rw [if_pos h4] at h; cases h
    ·rw [if_neg h4] at h;cases h;exact ⟨⟨fun e=>(by cases e),fun e=>(by cases e),fun e=>(by cases e)⟩,by simp⟩
theorem Mn (s:List UInt8) (c:UInt8) (r:List UInt8) (h:s.dropWhile isB=c :: r):s=s.takeWhile isB++c :: r:=by
 rw [← h]; exact List.takeWhile_append_dropWhile.symm
theorem J0 {s:List UInt8} {c:UInt8} {r rest:List UInt8} {t:Aq} (hs:s.dropWhile isB=c :: r) (hl:H7 (c :: r)=.ok (t,rest)) (hb:s.length < 4000000) :
  ∃ n,0 < n∧n≤(c :: r).length∧rest=(c :: r).drop n∧rest.length+n=(c :: r).length∧s.length=(s.takeWhile isB).length+(c :: r).length:=by
 have e1:=Mn s c r hs;have hsl:s.length=(s.takeWhile isB).length+(c :: r).length:=by
  have:=congrArg List.length e1
  rw [List.length_append] at this;exact this
 obtain ⟨n,h1,h2,rfl⟩:=Lk hl (by simp) (by omega);exact ⟨n,h1,h2,rfl,by rw [List.length_drop]; omega,hsl⟩
theorem Jk:∀ (f:Nat) (s:List UInt8) (i:Nat) (acc l:List Aq),Fq f s i acc=.ok l→s.length < 4000000→∃ b,l=acc++b∧Fh b∧(∀ t∈b,TOK t)∧b.length≤s.length+1
 | 0,s,i,acc,l,h,_=>by cases h
 | f+1,s,i,acc,l,h,hb=>by
  unfold Fq at h;cases hs:s.dropWhile isB with
  | nil =>
   rw [hs] at h;cases h;refine ⟨_,rfl,rfl,?_,by simp⟩;intro t ht;rw [List.mem_singleton.1 ht];exact ⟨fun e=>(by cases e),fun e=>(by cases e),fun e=>(by cases e)⟩
  | cons c r =>
   rw [hs] at h;simp only at h;cases hl:H7 (c :: r) with
   | error e=>rw [hl] at h; cases h
   | ok p =>
    obtain ⟨t,rest⟩:=p;rw [hl] at h;obtain ⟨n,h1,h2,h3,h4,h5⟩:=J0 hs hl hb;obtain ⟨b,hb1,hb2,hb3,hb4⟩:=Jk f rest _ _ l h (by omega);obtain ⟨k1,k2⟩:=Nk hl;refine ⟨⟨t.Kind,((i+(s.takeWhile isB).length:Nat):Int),t.Text,t.Int⟩ :: b,by rw [hb1]; simp,?_,?_,by simp; omega⟩
    ·obtain ⟨u,v,rfl⟩:=hb2.head;exact hb2
    ·intro x hx;rcases List.mem_cons.1 hx with rfl | hx
     ·exact k1
     ·exact hb3 x hx
theorem J5:∀ (f:Nat) (s:List UInt8) (i:Nat) (acc:List Aq) (a e:Int),s.length < f→s.length < 4000000→Fq f s i acc=.error (a,e)→e≠0
 | 0,s,i,acc,a,e,h,_,_=>by omega
 | f+1,s,i,acc,a,e,h,hb,hx=>by
  unfold Fq at hx;cases hs:s.dropWhile isB with
  | nil=>rw [hs] at hx; cases hx
  | cons c r =>
   rw [hs] at hx;simp only at hx;have hsl:s.length=(s.takeWhile isB).length+(c :: r).length:=by
    have:=congrArg List.length (Mn s c r hs)
    rw [List.length_append] at this;exact this
   cases hl:H7 (c :: r) with
   | error e2 =>
    rw [hl] at hx;cases hx;exact Mo hl (by simp) (by omega)
   | ok p =>
    obtain ⟨t,rest⟩:=p;rw [hl] at hx;obtain ⟨n,h1,h2,h3,h4,h5⟩:=J0 hs hl hb;exact J5 f rest _ _ a e (by omega) (by omega) hx
def fin (r:Except (List Tk) (Nd×List Tk)):Nd×Int×Int:=match r with
 | .error e=>(B5,atE e,29)
 | .ok (a,ts)=>if hdK 0 ts=true then (if 4000 < nsz a then (B5,0,6) else if 40 < ndp a then (B5,0,7) else (a,0,0)) else (B5,atE ts,29)
def O1 (p:List Tk→Rs Nd) (l:List Tk):Nd×Int×Int:=match p l with
 | some r=>fin r
 | none=>(B5,0,0)
def Jc (p:List Tk→Rs Nd) (src:List UInt8):Nd×Int×Int:=if 16384 < src.length then (B5,0,6) else match Fq (src.length+1) src 0 [] with
 | .error (a,e)=>(B5,a,e)
 | .ok l=>O1 p l
def Nl (K:Nat) (a1:Int ⊕ (Aa×Ab)):Option (Int ⊕ (Aa×Int×Int)):=match a1 with |(Sum.inl a1)=>some (Sum.inl a1) |(Sum.inr (a,b))=>(Option.bind (Bj K b) (fun a2=>(if a2.Kind≠0 then (Option.bind (Bf K b) (fun a3=>some (Sum.inl a3))) else (Option.bind (C3 K a) (fun a4=>(if a4 > 4000 then some (Sum.inr ((⟨0,[],0,[],([]:List Aa)⟩:Aa),0,6)) else (Option.bind (C1 K a) (fun a5=>(if a5 > 40 then some (Sum.inr ((⟨0,[],0,[],([]:List Aa)⟩:Aa),0,7)) else some (Sum.inr (a,0,0)))))))))))
theorem O0 {K:Nat} (hb:K≤9000000000) {l:List Tk} {r:Except (List Tk) (Nd×List Tk)} (hl:Sx l l) (hA:Ate 0 l r) (hs:∀ a ts,r=.ok (a,ts)→nsz a≤K):∃ x,Nl K (cR l r)=some x∧Fu x=fin r:=by
 match r,hA,hs with
 | .error e,hA,hs=>exact ⟨_,rfl,rfl⟩
 | .ok (a,ts),hA,hs =>
  have h:=hl.eat (show Eat 0 l ts from hA);obtain ⟨t,u,rfl⟩:=h.gd.head;have hn:=hs a _ rfl;have hp:=Gb (K:=K) h;have hf:=Gn (K:=K) h;unfold Nl fin;simp only [cR,hp,hf,Option.bind_some,psize hb a hn,S7 hb a hn];by_cases hk:t.Kind=0
  ·rw [if_neg (by simpa using hk),if_pos (show hdK 0 (t :: u)=true by simpa [hdK] using hk)];by_cases h1:4000 < nsz a
   ·rw [if_pos (by omega),if_pos h1]; exact ⟨_,rfl,rfl⟩
   ·rw [if_neg (by omega),if_neg h1];by_cases h2:40 < ndp a
    ·rw [if_pos (by omega),if_pos h2]; exact ⟨_,rfl,rfl⟩
    ·rw [if_neg (by omega),if_neg h2]; exact ⟨_,rfl,rfl⟩
  ·rw [if_pos hk,if_neg (show ¬ hdK 0 (t :: u)=true by simpa [hdK] using hk)];exact ⟨_,rfl,rfl⟩
theorem Sh:Gm=Fu:=by
 funext x
 match x with
 | .inl a=>rfl
 | .inr (a,b,c)=>rfl
section
variable {K:Nat} (hK:20000≤K) (hb:K < 8000000) {p:List Tk→Rs Nd} (hs:Snd 0 p) (ht:Tot 16385 p) {P:Nd→Prop} (hv:Vl P nsz 1 p)
include hK hb hs ht hv
theorem Ph {q:Ab→Option (Int ⊕ (Nd×Ab))} (hq:∀ l,l.length≤16385→E7 l p q) (src:List UInt8) :
  Option.bind (Ec K src) (fun (a,b,c)=>if c≠0 then some (B5,b,c) else Option.bind (Option.bind (q ⟨a,0⟩) (Nl K)) (fun x=>some (Fu x)))=some (Jc p src):=by
 unfold Jc;by_cases h1:16384 < src.length
 ·rw [if_pos h1];unfold Ec;rw [if_pos (by omega)]; rfl
 ·rw [if_neg h1,Qh (by omega) hK hb];cases h:Fq (src.length+1) src 0 [] with
  | error p =>
   obtain ⟨a,e⟩:=p
   have:=J5 _ _ _ _ _ _ (by omega) (by omega) h
   simp only [ans,Option.bind_some];rw [if_pos this]
  | ok l =>
   obtain ⟨b,e,h2,h3,h4⟩:=Jk _ _ _ _ _ h (by omega);obtain rfl:l=b:=by simpa using e
   have hx:Sx l l:=⟨List.suffix_refl _,h2,by omega⟩
   obtain ⟨r,hr⟩:=ht l h2 (by omega);have hA:=hs l h2 r hr;simp only [ans,Option.bind_some];rw [if_neg (by decide)];have e0:(⟨l,0⟩:Ab)=st l l:=by simp [st,pos]
   rw [e0,hq l (by omega) l hx r hr,Option.bind_some];obtain ⟨x,e1,e2⟩:=O0 (K:=K) (by omega) hx hA (fun a ts e=>by subst e; have:=(hv l a ts h3 hr).2.1; omega);rw [e1,Option.bind_some,e2];unfold O1;rw [hr]
end
def exprG:List Tk→Rs Nd:=(SPu 163859).ex
theorem N5:Tot 16385 exprG:=(Ti 163859 16385).1 (by omega)
end Go.Proofs.YtifjagfmfkemmaaGreatDoor
