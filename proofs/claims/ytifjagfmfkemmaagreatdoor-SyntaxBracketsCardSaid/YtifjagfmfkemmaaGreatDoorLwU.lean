import Derived.Test.YtifjagfmfkemmaaGreatDoorLwT
set_option linter.unusedVariables false
set_option linter.unusedSimpArgs false
set_option maxHeartbeats 4000000
namespace Go.Proofs.YtifjagfmfkemmaaGreatDoor
open Eng Go
theorem Kl {s rest:List UInt8} {t:Ap} (h:Gw s=.ok (t,rest)) (hne:s≠[]) (hs:s.length < 4000000):∃ n,0 < n∧n≤s.length∧rest=s.drop n:=by
 have ho:=Ml (K:=s.length+1001) (by omega) hne (by omega) (by omega);rw [h] at ho;obtain ⟨n,h1,h2,h3,_⟩:=ho;exact ⟨n,h1,h2,h3⟩
theorem K2 {s:List UInt8} {e:Int} (h:Gw s=.error e) (hne:s≠[]) (hs:s.length < 4000000):e≠0:=by
 have ho:=Ml (K:=s.length+1001) (by omega) hne (by omega) (by omega);rw [h] at ho;exact ho.1
theorem Nx (acc s:List UInt8):∀ t r,F3 acc s=.ok (t,r)→t.length≤4096:=by
 fun_induction F3 acc s <;> intro t r h
 all_goals first | cases h; done |(cases h; omega) |(rename_i ih; exact ih t r h)
theorem Ln {s rest:List UInt8} {t:Ap} (h:Gw s=.ok (t,rest)):TOK t∧t.Kind≠0:=by
 unfold Gw at h;by_cases h1:Fq isL s=true
 ·rw [if_pos h1] at h;unfold L6 at h;by_cases h2:64 <(s.takeWhile isW).length
  ·rw [if_pos h2] at h; cases h
  ·rw [if_neg h2] at h;cases h;by_cases h3:isK (s.takeWhile isW)=true
   ·rw [if_pos h3];exact ⟨⟨fun e=>(by cases e),fun e=>(by cases e),fun e=>(by cases e)⟩,by simp⟩
   ·rw [if_neg h3];refine ⟨⟨fun _=>?_,fun e=>(by cases e),fun e=>(by cases e)⟩,by simp⟩;have hw:Fq isW s=true:=by
     cases s with
     | nil=>cases h1
     | cons c r=>show isW c=true; unfold isW; rw [show isL c=true from h1]; rfl
    refine ⟨?_,by show (s.takeWhile isW).length≤64; omega,by simpa using h3,?_,Gb s isW⟩
    ·have:=Hj hw
     intro e;have e':s.takeWhile isW=[]:=e;rw [e'] at this; exact absurd this (by simp)
    ·show Fq isD (s.takeWhile isW)=false;cases s with
     | nil=>cases h1
     | cons c r =>
      rw [List.takeWhile_cons,if_pos (show isW c=true from hw)];show isD c=false;have hL:=(Ny c).1 h1;cases hD:isD c with
      | false=>rfl
      | true=>have:=(Nu c).1 hD; omega
 ·rw [if_neg h1] at h;by_cases h2:Fq isD s=true
  ·rw [if_pos h2] at h;unfold L1 at h;by_cases h3:H9 s=true
   ·rw [if_pos h3] at h; cases h
   ·rw [if_neg h3] at h;by_cases h4:H5 (s.takeWhile isD)=true
    ·rw [if_pos h4] at h;cases h;have hne:s.takeWhile isD≠[]:=by
      have:=Hj h2
      intro h0; rw [h0] at this; exact absurd this (by simp)
     obtain ⟨g1,g2⟩:=Je hne (Gb s isD);rw [g1] at h4;have h4:=of_decide_eq_true h4;rw [g2 h4];exact ⟨⟨fun e=>(by cases e),fun e=>(by cases e),fun _=>by show (0:Int)≤((F9 0 (s.takeWhile isD):Nat):Int); omega⟩,by simp⟩
    ·rw [if_neg h4] at h; cases h
  ·rw [if_neg h2] at h;by_cases h3:hd s=34
   ·rw [if_pos h3] at h;cases hl:F3 [] s.tail with
    | error e=>rw [hl] at h; cases h
    | ok p =>
     obtain ⟨x,y⟩:=p;rw [hl] at h;cases h
     have:=Nx _ _ _ _ hl
     exact ⟨⟨fun e=>(by cases e),fun _=>by show (x.length:Int)≤4096; omega,fun e=>(by cases e)⟩,by simp⟩
   ·rw [if_neg h3] at h;by_cases h4:Fp s=0
    ·rw [if_pos h4] at h; cases h
    ·rw [if_neg h4] at h;cases h;exact ⟨⟨fun e=>(by cases e),fun e=>(by cases e),fun e=>(by cases e)⟩,by simp⟩
theorem Ku (s:List UInt8) (c:UInt8) (r:List UInt8) (h:s.dropWhile isB=c :: r):s=s.takeWhile isB++c :: r:=by
 rw [← h]; exact List.takeWhile_append_dropWhile.symm
theorem Ir {s:List UInt8} {c:UInt8} {r rest:List UInt8} {t:Ap} (hs:s.dropWhile isB=c :: r) (hl:Gw (c :: r)=.ok (t,rest)) (hb:s.length < 4000000) :
  ∃ n,0 < n∧n≤(c :: r).length∧rest=(c :: r).drop n∧rest.length+n=(c :: r).length∧s.length=(s.takeWhile isB).length+(c :: r).length:=by
 have e1:=Ku s c r hs;have hsl:s.length=(s.takeWhile isB).length+(c :: r).length:=by
  have:=congrArg List.length e1
  rw [List.length_append] at this;exact this
 obtain ⟨n,h1,h2,rfl⟩:=Kl hl (by simp) (by omega);exact ⟨n,h1,h2,rfl,by rw [List.length_drop]; omega,hsl⟩
theorem Hw:∀ (f:Nat) (s:List UInt8) (i:Nat) (acc l:List Ap),Ff f s i acc=.ok l→s.length < 4000000→∃ b,l=acc++b∧Fu b∧(∀ t∈b,TOK t)∧b.length≤s.length+1
 | 0,s,i,acc,l,h,_=>by cases h
 | f+1,s,i,acc,l,h,hb=>by
  unfold Ff at h;cases hs:s.dropWhile isB with
  | nil =>
   rw [hs] at h;cases h;refine ⟨_,rfl,rfl,?_,by simp⟩;intro t ht;rw [List.mem_singleton.1 ht];exact ⟨fun e=>(by cases e),fun e=>(by cases e),fun e=>(by cases e)⟩
  | cons c r =>
   rw [hs] at h;simp only at h;cases hl:Gw (c :: r) with
   | error e=>rw [hl] at h; cases h
   | ok p =>
    obtain ⟨t,rest⟩:=p;rw [hl] at h;obtain ⟨n,h1,h2,h3,h4,h5⟩:=Ir hs hl hb;obtain ⟨b,hb1,hb2,hb3,hb4⟩:=Hw f rest _ _ l h (by omega);obtain ⟨k1,k2⟩:=Ln hl;refine ⟨⟨t.Kind,((i+(s.takeWhile isB).length:Nat):Int),t.Text,t.Int⟩ :: b,by rw [hb1]; simp,?_,?_,by simp; omega⟩
    ·obtain ⟨u,v,rfl⟩:=hb2.head;exact hb2
    ·intro x hx;rcases List.mem_cons.1 hx with rfl | hx
     ·exact k1
     ·exact hb3 x hx
theorem Ht:∀ (f:Nat) (s:List UInt8) (i:Nat) (acc:List Ap) (a e:Int),s.length < f→s.length < 4000000→Ff f s i acc=.error (a,e)→e≠0
 | 0,s,i,acc,a,e,h,_,_=>by omega
 | f+1,s,i,acc,a,e,h,hb,hx=>by
  unfold Ff at hx;cases hs:s.dropWhile isB with
  | nil=>rw [hs] at hx; cases hx
  | cons c r =>
   rw [hs] at hx;simp only at hx;have hsl:s.length=(s.takeWhile isB).length+(c :: r).length:=by
    have:=congrArg List.length (Ku s c r hs)
    rw [List.length_append] at this;exact this
   cases hl:Gw (c :: r) with
   | error e2 =>
    rw [hl] at hx;cases hx;exact K2 hl (by simp) (by omega)
   | ok p =>
    obtain ⟨t,rest⟩:=p;rw [hl] at hx;obtain ⟨n,h1,h2,h3,h4,h5⟩:=Ir hs hl hb;exact Ht f rest _ _ a e (by omega) (by omega) hx
def fin (r:Except (List Tk) (Nd×List Tk)):Nd×Int×Int:=match r with
 | .error e=>(Ca,atE e,29)
 | .ok (a,ts)=>if hdK 0 ts=true then (if 4000 < nsz a then (Ca,0,6) else if 40 < ndp a then (Ca,0,7) else (a,0,0)) else (Ca,atE ts,29)
def L8 (p:List Tk→Rs Nd) (l:List Tk):Nd×Int×Int:=match p l with
 | some r=>fin r
 | none=>(Ca,0,0)
def Hf (p:List Tk→Rs Nd) (src:List UInt8):Nd×Int×Int:=if 16384 < src.length then (Ca,0,6) else match Ff (src.length+1) src 0 [] with
 | .error (a,e)=>(Ca,a,e)
 | .ok l=>L8 p l
def Na (K:Nat) (a1:Int ⊕ (Aa×Ab)):Option (Int ⊕ (Aa×Int×Int)):=match a1 with |(Sum.inl a1)=>some (Sum.inl a1) |(Sum.inr (a,b))=>(Option.bind (Bq K b) (fun a2=>(if a2.Kind≠0 then (Option.bind (Bf K b) (fun a3=>some (Sum.inl a3))) else (Option.bind (C2 K a) (fun a4=>(if a4 > 4000 then some (Sum.inr ((⟨0,[],0,[],([]:List Aa)⟩:Aa),0,6)) else (Option.bind (Cz K a) (fun a5=>(if a5 > 40 then some (Sum.inr ((⟨0,[],0,[],([]:List Aa)⟩:Aa),0,7)) else some (Sum.inr (a,0,0)))))))))))
theorem Mw {K:Nat} (hb:K≤9000000000) {l:List Tk} {r:Except (List Tk) (Nd×List Tk)} (hl:Sx l l) (hA:Ate 0 l r) (hs:∀ a ts,r=.ok (a,ts)→nsz a≤K):∃ x,Na K (cR l r)=some x∧F6 x=fin r:=by
 match r,hA,hs with
 | .error e,hA,hs=>exact ⟨_,rfl,rfl⟩
 | .ok (a,ts),hA,hs =>
  have h:=hl.eat (show Eat 0 l ts from hA);obtain ⟨t,u,rfl⟩:=h.gd.head;have hn:=hs a _ rfl;have hp:=Gj (K:=K) h;have hf:=Ik (K:=K) h;unfold Na fin;simp only [cR,hp,hf,Option.bind_some,psize hb a hn,Ov hb a hn];by_cases hk:t.Kind=0
  ·rw [if_neg (by simpa using hk),if_pos (show hdK 0 (t :: u)=true by simpa [hdK] using hk)];by_cases h1:4000 < nsz a
   ·rw [if_pos (by omega),if_pos h1]; exact ⟨_,rfl,rfl⟩
   ·rw [if_neg (by omega),if_neg h1];by_cases h2:40 < ndp a
    ·rw [if_pos (by omega),if_pos h2]; exact ⟨_,rfl,rfl⟩
    ·rw [if_neg (by omega),if_neg h2]; exact ⟨_,rfl,rfl⟩
  ·rw [if_pos hk,if_neg (show ¬ hdK 0 (t :: u)=true by simpa [hdK] using hk)];exact ⟨_,rfl,rfl⟩
section
variable {K:Nat} (hK:20000≤K) (hb:K < 8000000) {p:List Tk→Rs Nd} (hs:Snd 0 p) (ht:Tot 16385 p) {P:Nd→Prop} (hv:Vl P nsz 1 p)
include hK hb hs ht hv
theorem J0 {q:Ab→Option (Int ⊕ (Nd×Ab))} (hq:∀ l,l.length≤16385→F0 l p q) (src:List UInt8) :
  Option.bind (Ed K src) (fun (a,b,c)=>if c≠0 then some (Ca,b,c) else Option.bind (Option.bind (q ⟨a,0⟩) (Na K)) (fun x=>some (F6 x)))=some (Hf p src):=by
 unfold Hf;by_cases h1:16384 < src.length
 ·rw [if_pos h1];unfold Ed;rw [if_pos (by omega)]; rfl
 ·rw [if_neg h1,Nb (by omega) hK hb];cases h:Ff (src.length+1) src 0 [] with
  | error p =>
   obtain ⟨a,e⟩:=p
   have:=Ht _ _ _ _ _ _ (by omega) (by omega) h
   simp only [ans,Option.bind_some];rw [if_pos this]
  | ok l =>
   obtain ⟨b,e,h2,h3,h4⟩:=Hw _ _ _ _ _ h (by omega);obtain rfl:l=b:=by simpa using e
   have hx:Sx l l:=⟨List.suffix_refl _,h2,by omega⟩
   obtain ⟨r,hr⟩:=ht l h2 (by omega);have hA:=hs l h2 r hr;simp only [ans,Option.bind_some];rw [if_neg (by decide)];have e0:(⟨l,0⟩:Ab)=st l l:=by simp [st,pos]
   rw [e0,hq l (by omega) l hx r hr,Option.bind_some];obtain ⟨x,e1,e2⟩:=Mw (K:=K) (by omega) hx hA (fun a ts e=>by subst e; have:=(hv l a ts h3 hr).2.1; omega);rw [e1,Option.bind_some,e2];unfold L8;rw [hr]
omit hK hb hs ht hv in
theorem nz:nsz Ca≤4000:=by decide
omit hK hb hs in
theorem Mp (src:List UInt8):nsz (Hf p src).1≤4000∧((Hf p src).2.2=0→Small (Hf p src).1∧P (Hf p src).1):=by
 unfold Hf;by_cases h1:16384 < src.length
 ·rw [if_pos h1]; exact ⟨nz,fun h=>by cases h⟩
 ·rw [if_neg h1];cases h:Ff (src.length+1) src 0 [] with
  | error p =>
   obtain ⟨a,e⟩:=p
   have:=Ht _ _ _ _ _ _ (by omega) (by omega) h
   exact ⟨nz,fun h=>absurd h this⟩
  | ok l =>
   obtain ⟨b,e,h2,h3,h4⟩:=Hw _ _ _ _ _ h (by omega);obtain rfl:l=b:=by simpa using e
   obtain ⟨r,hr⟩:=ht l h2 (by omega);dsimp only;unfold L8 fin;rw [hr];dsimp only
   match r,hr with
   | .error e,hr=>exact ⟨nz,fun h=>by cases h⟩
   | .ok (a,ts),hr =>
    dsimp only;split
    ·split
     ·exact ⟨nz,fun h=>by cases h⟩
     ·split
      ·exact ⟨nz,fun h=>by cases h⟩
      ·exact ⟨by dsimp only; omega,fun _=>⟨⟨show nsz a≤4000 by omega,show ndp a≤40 by omega⟩,(hv l a ts h3 hr).2.2⟩⟩
    ·exact ⟨nz,fun h=>by cases h⟩
end
def Jj:List Tk→Rs Nd:=(SPu 163859).ex
theorem Jd:Snd 0 Jj:=(Ly _).ex.le
theorem H3:Tot 16385 Jj:=(N5 163859 16385).1 (by omega)
theorem J9:Vl IsE nsz 1 Jj:=(O1 _).ex.le (by omega)
theorem Oz {K:Nat} (hK:500000≤K) (hb:K < 8000000) (src:List UInt8):Em K src=some (Hf Jj src):=by
 have h:=J0 (K:=K) (by omega) hb Jd H3 J9 (q:=As K) (fun l hl=>(I0 (by omega) (by omega) _ K (by omega)).ex) src;unfold Em;show Option.bind (Fh K src) _=_;replace h:Fh K src=_:=h;rw [h]; rfl
end Go.Proofs.YtifjagfmfkemmaaGreatDoor
