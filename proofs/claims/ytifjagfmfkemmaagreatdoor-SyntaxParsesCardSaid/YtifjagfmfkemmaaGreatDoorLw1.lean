import Derived.Test.YtifjagfmfkemmaaGreatDoorLwZ
set_option linter.unusedVariables false
set_option linter.unusedSimpArgs false
set_option maxHeartbeats 4000000
namespace Go.Proofs.YtifjagfmfkemmaaGreatDoor
open Eng Go
section
variable {K:Nat} {l:List Tk} (qP:∀ ts,Sx l ts→∀ a u,Jb ts=some (a,u)→Ba K (rst l ts false)=some (a,rst l u false)) (bP:Gh l (Ba K))
theorem Rx {ts:List Tk} (h:Sx l ts):Option.bind (A4 K (rst l ts false) 3) (fun a5=>(if a5=true then some true else (Option.bind (A4 K (rst l ts false) 4) (fun a6=>(if a6=true then some true else (Option.bind (B2 K (rst l ts false) [116,114,117,101]) (fun a7=>(if a7=true then some true else (Option.bind (B2 K (rst l ts false) [102,97,108,115,101]) (fun a8=>(if a8=true then some true else (Option.bind (B2 K (rst l ts false) [110,117,108,108]) (fun a9=>some a9)))))))))))))=some (Jb ts).isSome:=by
 obtain ⟨t,u,rfl⟩:=h.gd.head;rw [Hr h,Hr h,Io h,Io h,Io h];simp only [Option.bind_some,Jb,Iq,Fl,Bool.not_false,Bool.true_and];by_cases h3:t.Kind=3
 ·simp [h3]
 by_cases h4:t.Kind=4
 ·simp [h3,h4]
 by_cases a1:isS [110,117,108,108] (t :: u)=true
 ·simp [h3,h4,a1]
 by_cases a2:isS [116,114,117,101] (t :: u)=true
 ·simp [h3,h4,a1,a2]
 by_cases a3:isS [102,97,108,115,101] (t :: u)=true
 ·simp [h3,h4,a1,a2,a3]
 simp [h3,h4,a1,a2,a3]
theorem Qf:Gh l (Cl K):=fun ts h=>by
 unfold Cl;refine Tp h ?_;dsimp only;rw [if_pos rfl,Option.bind_some]
 try dsimp only
 have e3:∀ k,A4 K (⟨l,pos l ts,true⟩:RP) k=some false:=fun k=>Mv k
 have ei:∀ s,B2 K (⟨l,pos l ts,true⟩:RP) s=some false:=fun s=>Io h true s
 simp only [e3,ei,Option.bind_some];exact ⟨_,rfl⟩
include qP bP in
theorem Qm:Fy l Jt (Cl K):=fun ts h r hr=>by
 unfold Cl;refine Fw h hr (fun h1 h hr=>?_) fun hr=>?_
 ·obtain ⟨t,u,e⟩:=h.gd.head;rw [e] at h hr ⊢;dsimp only;have ek:=Hr (K:=K) h 3;change A4 K (⟨l,pos l (t :: u),false⟩:RP) 3=_ at ek;rw [if_neg (by simp),if_pos rfl,ek,Option.bind_some];replace hr:bnd (Gm 3 (t :: u)) (fun t=>pok (nd 14 [⟨4,[],t.Int,[],[]⟩]))=some r:=hr;simp only [Gm] at hr;by_cases hk:t.Kind=3
  ·rw [if_pos hk] at hr;rw [if_pos (by simpa using hk),Option.bind_some]
   try dsimp only
   rw [if_pos rfl];have e2:=qP (t :: u) h ⟨4,[],t.Int,[],[]⟩ u (by simp [Jb,hk]);change Ba K (⟨l,pos l (t :: u),false⟩:RP)=_ at e2;rw [e2,Option.bind_some];dsimp only;rw [Ga];exact Fx hr
  ·rw [if_neg hk] at hr;rw [if_neg (by simpa using hk),Option.bind_some]
   try dsimp only
   rw [if_pos rfl];obtain ⟨a,e2⟩:=bP (t :: u) h;change Ba K (⟨l,pos l (t :: u),true⟩:RP)=_ at e2;rw [e2,Option.bind_some];dsimp only;rw [Ga];cases hr; exact ⟨_,rfl⟩
 ·dsimp only;rw [if_neg (by simp),if_neg (by simp),Option.bind_some]
  try dsimp only
  rw [if_neg (by simp)];have e:=Rx (K:=K) h;change Option.bind (A4 K (⟨l,pos l ts,false⟩:RP) 3) _=_ at e;rw [e,Option.bind_some];unfold Mw at hr;cases hl:Jb ts with
  | none =>
   rw [hl] at hr;rw [if_neg (by simp)];cases hr; exact ⟨_,rfl⟩
  | some p =>
   obtain ⟨a,u⟩:=p;rw [hl] at hr;rw [if_pos (by simp)];have e2:=qP ts h a u hl;change Ba K (⟨l,pos l ts,false⟩:RP)=_ at e2;rw [e2];exact Fx hr
theorem Qp:∀ (k k':Nat) (acc:List Nd) (ts:List Tk),k < k'→acc.length+ts.length≤9000010→Sx l ts→∀ r,Gz [41] H7 k acc ts=some r →
  Iv l 9000011 (Bw.l12 K k' l (pos l ts) false acc) r:=by
 intro k
 induction k with
 | zero=>intro k' a ts hk hn h r hr; cases hr
 | succ k ih =>
  intro k' acc ts hk hn h r hr;obtain ⟨k',rfl⟩:∃ j,k'=j+1:=⟨k' - 1,by omega⟩
  rw [Bw.l12,if_neg (by simp)];unfold Gz H7 sq at hr;rw [Gv] at hr;have hl:=h.len; have hh:=h.hl;have bad:∀ (x:Nd) us,Sx l us→Iv l 9000011 (Option.bind (Aq K [44] (rst l us true)) (fun a6=>Bw.l12 K k' a6.l a6.at_ a6.bad (acc++[x]))) (.error us):=by
   intro x us hu;rw [G9 hu,Option.bind_some];obtain ⟨k',rfl⟩:∃ j,k'=j+1:=⟨k' - 1,by omega⟩
   rw [Bw.l12,if_pos rfl];exact ⟨_,by simp; omega,rfl⟩
  rcases Fd (γ:=Nd) h (fun r=>D0 _ h.gd r) hr with ⟨er,hx,rfl⟩ |⟨s,ts',hx,h3,h4,hr⟩
  ·obtain ⟨b,hb⟩:=Gq (K:=K) h hx;have he:Eat 0 _ er:=D0 _ h.gd _ hx;have h2:=h.eat he;change A1 K (⟨l,pos l ts,false⟩:RP)=_ at hb;rw [hb,Option.bind_some];dsimp only;rw [if_pos (by simp; omega),Gi h2,Option.bind_some];dsimp only;rw [if_neg (by simp)];exact bad _ er h2
  ·have hb:A1 K (⟨l,pos l ts,false⟩:RP)=some (s,rst l ts' false):=Gq h hx
   have:=h4.2.1
   rw [hb,Option.bind_some];dsimp only;rw [if_pos (by simp; omega)];replace hr:(if isS [41] ts'=true then pok (acc++[⟨6,s,0,[],[]⟩]) ts'.tail else bnd (Ee [44] ts') fun _ ts=>Gz [41] H7 k (acc++[⟨6,s,0,[],[]⟩]) ts)=some r:=hr;by_cases h1:isS [41] ts'=true
   ·rw [if_pos h1] at hr;rw [Hk h3 h1]; cases hr; rfl
   ·rw [if_neg h1] at hr;rw [He h3 h1,Option.bind_some];dsimp only;rw [if_neg (by simp)];unfold Ee at hr;by_cases h5:isS [44] ts'=true
    ·rw [if_pos h5] at hr;rw [H4 h3 h5,Option.bind_some]
     have:=h3.len
     replace hr:Gz [41] H7 k (acc++[⟨6,s,0,[],[]⟩]) ts'.tail=some r:=hr;exact ih k' (acc++[⟨6,s,0,[],[]⟩]) ts'.tail (by omega) (by simp; omega) (h3.is h5) r hr
    ·rw [if_neg h5] at hr;rw [Iu h3 h5,← G9 (K:=K) h3 [44]];cases hr;exact bad _ ts' h3
variable {bl:List Tk→Rs Nd} (hs:Snd 1 bl) (hb:Fy l bl (Ak K)) (bb:Gh l (Ak K))
def Ns (K:Nat) (s:List UInt8) (x:List Tk×Int×Bool×List Nd):Option (Aa×RP):=match x with |(c,d,e,b)=>(Option.bind (Ak K (⟨c,d,e⟩:Ad)) (fun (a,f)=>(if (b.length+([(⟨a.Op,a.Name,a.Int,a.Text,a.Kids⟩:Aa)]:List Aa).length) * 72≤140737488355328 then some ((⟨62,s,0,[],(b++([(⟨a.Op,a.Name,a.Int,a.Text,a.Kids⟩:Aa)]:List Aa))⟩:Aa),f) else none)))
include bb in
theorem P3 (s:List UInt8) {ks:List Nd} (hk:ks.length≤9000011) {ts:List Tk} (h:Sx l ts):∃ b,Ns K s (l,pos l ts,true,ks)=some (b,rst l ts true):=by
 unfold Ns;refine Gw bb h fun a=>?_
 dsimp only;rw [if_pos (by simp; omega)];exact ⟨_,rfl⟩
def Qu (K:Nat) (p:RP):Option (List Tk×Int×Bool×List Nd):=Option.bind (Ag K [41] p) (fun (f,a)=>(if f=true then some (a.l,a.at_,a.bad,([]:List Aa)) else (Option.bind (Bw.l12 K K a.l a.at_ a.bad ([]:List Aa):Option ((List Ar)×Int×Bool×(List Aa))) (fun (b,c,d,e)=>some (b,c,d,e)))))
theorem Vy (hK:1≤K) {ts:List Tk} (h:Sx l ts):Qu K (rst l ts true)=some (l,pos l ts,true,[]):=by
 unfold Qu;rw [Gi h,Option.bind_some];dsimp only;obtain ⟨k,rfl⟩:∃ j,K=j+1:=⟨K - 1,by omega⟩
 rw [if_neg (by simp),Bw.l12,if_pos rfl];rfl
theorem Tt (hKl:l.length+20≤K) {ts:List Tk} (h:Sx l ts) {r:Except (List Tk) (List Nd×List Tk)} (hr:Gl [41] H7 ts=some r):Iv l 9000011 (Qu K (rst l ts false)) r:=by
 unfold Qu;unfold Gl at hr
 have:=h.len; have:=h.hl
 by_cases h1:isS [41] ts=true
 ·rw [if_pos h1] at hr;rw [Hk h h1]; cases hr; rfl
 ·rw [if_neg h1] at hr;rw [He h h1,Option.bind_some];dsimp only;rw [if_neg (by simp)];have e:=Qp (K:=K) _ K [] ts (by omega) (by simp only [List.length_nil]; omega) h r hr
  match r,e with
  | .error er,⟨ks,hn,e⟩=>exact ⟨ks,hn,by rw [e]; rfl⟩
  | .ok (ks,us),e =>
   replace e:Bw.l12 K K l (pos l ts) false []=some (l,pos l us,false,ks):=e;rw [e]; rfl
include hs hb bb
theorem Wd (hKl:l.length+20≤K):Fy l (fnS bl) (Bw K):=fun ts h r hr=>by
 unfold Bw;have e1:∀ (s:List UInt8) us,Sx l us→∃ b,Option.bind (Qu K (rst l us true)) (Ns K s)=some (b,rst l us true):=fun s us h=>by
  rw [Vy (by omega) h]; exact P3 bb s (by simp) h
 refine E7 h hr (fun r=>D0 _ h.gd r) (fun r hx=>Gq h hx) (fun s ts' h hx hr=>?_) fun s ts' h=>Gr h (e1 s ts' h)
 refine G0 h hr (fun _ h hr=>?_) (e1 s ts' h);show Gs l (Option.bind (Qu K (rst l ts'.tail false)) (Ns K s)) r;have hl:=h.len; have hh:=h.hl;refine Iv.bnd (d:=1) h hr (fun r=>F4 Hf _ h.gd r) (fun r hx=>Tt hKl h hx) (fun ks us hx h hr=>?_) fun ks us hn h=>P3 bb s hn h
 have hn:=L6 Hf ‹Sx l ts'.tail›.gd hx;unfold Ns;refine E7 h hr (fun r=>hs _ h.gd r) (fun r hx=>hb _ h _ hx) (fun b ts' h hx hr=>?_) fun b ts' h=>?_
 ·dsimp only;rw [if_pos (by simp; omega),Ed];exact Fx hr
 ·dsimp only;rw [if_pos (by simp; omega)];exact ⟨_,rfl⟩
end
end Go.Proofs.YtifjagfmfkemmaaGreatDoor
