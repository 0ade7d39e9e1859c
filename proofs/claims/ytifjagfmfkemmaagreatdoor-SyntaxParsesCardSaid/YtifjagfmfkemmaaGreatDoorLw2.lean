import Derived.Test.YtifjagfmfkemmaaGreatDoorLw1
set_option linter.unusedVariables false
set_option linter.unusedSimpArgs false
set_option maxHeartbeats 4000000
namespace Go.Proofs.YtifjagfmfkemmaaGreatDoor
open Eng Go
def Ql (K:Nat) (op:Int) (p:RP):Option (List Tk×Int×Bool×List Nd):=Option.bind ((if op=65 then (Option.bind (Ag K [99,104,101,99,107] p) (fun (h,e)=>some (h,e.l,e.at_,e.bad))) else some (false,p.l,p.at_,p.bad)):Option (Bool×(List Ar)×Int×Bool)) (fun (f,b,c,d)=>(if f=true then (Option.bind (Ak K (⟨b,c,d⟩:Ad)) (fun (a,g)=>(if ([(⟨a.Op,a.Name,a.Int,a.Text,a.Kids⟩:Aa)]:List Aa).length * 72≤140737488355328 then some (g.l,g.at_,g.bad,([(⟨a.Op,a.Name,a.Int,a.Text,a.Kids⟩:Aa)]:List Aa)) else none))) else some (b,c,d,([]:List Aa))))
def Nt (K:Nat) (op:Int) (s x:List UInt8) (y:List Tk×Int×Bool×List Nd):Option (Nd×RP):=match y with |(c,d,e,b)=>(Option.bind (Ak K (⟨c,d,e⟩:Ad)) (fun (a,f)=>(if (b.length+([(⟨a.Op,a.Name,a.Int,a.Text,a.Kids⟩:Aa)]:List Aa).length) * 72≤140737488355328 then some ((⟨op,s,0,x,(b++([(⟨a.Op,a.Name,a.Int,a.Text,a.Kids⟩:Aa)]:List Aa))⟩:Aa),f) else none)))
def hrest (K:Nat) (op:Int) (p:RP):Option (Nd×RP):=Option.bind (A1 K p) (fun (s,p)=>Option.bind (Aq K [40] p) (fun p=>Option.bind (A1 K p) (fun (x,p)=>Option.bind (Aq K [41] p) (fun p=>Option.bind (Ql K op p) (Nt K op s x)))))
section
variable {K:Nat} {l:List Tk} {bl:List Tk→Rs Nd} (hs:Snd 1 bl) (hb:Fy l bl (Ak K)) (bb:Gh l (Ak K))
theorem Sd (op:Int) {ts:List Tk} (h:Sx l ts):Ql K op (rst l ts true)=some (l,pos l ts,true,[]):=by
 unfold Ql;by_cases ho:op=65
 ·rw [if_pos ho,Gi h]; rfl
 ·rw [if_neg ho]; rfl
include bb in
theorem Mu (op:Int) (s x:List UInt8) {ks:List Nd} (hk:ks.length≤9000011) {ts:List Tk} (h:Sx l ts):∃ b,Nt K op s x (l,pos l ts,true,ks)=some (b,rst l ts true):=by
 unfold Nt;refine Gw bb h fun a=>?_
 dsimp only;rw [if_pos (by simp; omega)];exact ⟨_,rfl⟩
include bb in
theorem Po (op:Int) {ts:List Tk} (h:Sx l ts):∃ b,hrest K op (rst l ts true)=some (b,rst l ts true):=by
 unfold hrest;refine Gw Iz h fun s=>Gr h (Gw Iz h fun x=>Gr h ?_)
 rw [Sd op h]; exact Mu bb op s x (by simp) h
include hs hb in
theorem T4 (op:Int) {ts:List Tk} (h:Sx l ts) {r:Except (List Tk) (List Nd×List Tk)} (hr:Ls bl op ts=some r):Iv l 1 (Ql K op (rst l ts false)) r:=by
 unfold Ql;unfold Ls at hr;by_cases ho:op=65
 ·rw [if_pos ho] at hr ⊢;replace hr:(if isS [99,104,101,99,107] ts=true then bnd (bl ts.tail) (fun b=>pok [b]) else pok [] ts)=some r:=hr;by_cases hc:isS [99,104,101,99,107] ts=true
  ·rw [if_pos hc] at hr;rw [Hk h hc];have h2:=h.is hc;show Iv l 1 (Option.bind (Ak K (rst l ts.tail false)) _) r;rcases Fd (γ:=Nd) h2 (fun r=>hs _ h2.gd r) hr with ⟨e,hx,rfl⟩ |⟨b,us,hx,h3,h4,hr⟩
   ·obtain ⟨b,e2⟩:=hb _ h2 _ hx;rw [e2,Option.bind_some];dsimp only;rw [if_pos (by simp)];exact ⟨_,by simp,rfl⟩
   ·have e2:Ak K (rst l ts.tail false)=some (b,rst l us false):=hb _ h2 _ hx;rw [e2,Option.bind_some];dsimp only;rw [if_pos (by simp),Ed];cases hr; rfl
  ·rw [if_neg hc] at hr;rw [He h hc];cases hr; rfl
 ·rw [if_neg ho] at hr ⊢;cases hr; rfl
include hs hb bb
theorem K9 (op:Int) {ts:List Tk} (h:Sx l ts) {r:Except (List Tk) (Nd×List Tk)} (hr:Rb bl op ts=some r):Gs l (hrest K op (rst l ts false)) r:=by
 unfold hrest;have e1:∀ (s x:List UInt8) us,Sx l us→∃ b,Option.bind (Ql K op (rst l us true)) (Nt K op s x)=some (b,rst l us true):=fun s x us h=>by
  rw [Sd op h]; exact Mu bb op s x (by simp) h
 refine E7 h hr (fun r=>D0 _ h.gd r) (fun r hx=>Gq h hx) (fun s ts' h hx hr=>?_) fun s ts' h=>Gr h (Gw Iz h fun x=>Gr h (e1 s x _ h))
 refine G0 h hr (fun _ h hr=>?_) (Gw Iz h fun x=>Gr h (e1 s x _ h));refine E7 h hr (fun r=>D0 _ h.gd r) (fun r hx=>Gq h hx) (fun x ts' h hx hr=>?_) fun x ts' h=>Gr h (e1 s x _ h)
 refine G0 h hr (fun _ h hr=>?_) (e1 s x _ h);refine Iv.bnd (d:=0) h hr (fun r=>M5 hs op _ h.gd r) (fun r hx=>T4 hs hb op h hx) (fun ks us hx h hr=>?_) fun ks us hn h=>Mu bb op s x (by omega) h
 have hn:ks.length≤1:=by
  unfold Ls at hx;split at hx
  ·unfold al at hx;split at hx
   ·obtain ⟨b,vs,_,hy⟩:=J0 hx;cases hy; simp
   ·cases hx; simp
  ·cases hx; simp
 unfold Nt;refine E7 h hr (fun r=>hs _ h.gd r) (fun r hx=>hb _ h _ hx) (fun b ts' h hx hr=>?_) fun b ts' h=>?_
 ·dsimp only;rw [if_pos (by simp; omega),Ed];exact Fx hr
 ·dsimp only;rw [if_pos (by simp; omega)];exact ⟨_,rfl⟩
theorem U4:Fy l (Ko bl) (Da K):=fun ts h r hr=>by
 unfold Da;unfold Ko at hr;simp only [Ii,Fl] at hr;by_cases h1:isS [113,117,101,114,121] ts=true
 ·rw [if_neg (Ju (by decide) h1),if_pos h1] at hr;rw [Hk h h1];exact K9 hs hb bb 64 (h.is h1) hr
 rw [if_neg h1] at hr;rw [He h h1,Option.bind_some];dsimp only;rw [if_neg (by simp)];by_cases h2:isS [117,112,100,97,116,101] ts=true
 ·rw [if_neg (Ju (by decide) h2),if_pos h2] at hr;rw [Hk h h2];exact K9 hs hb bb 65 (h.is h2) hr
 rw [if_neg h2] at hr;rw [He h h2,Option.bind_some];dsimp only;rw [if_neg (by simp)];by_cases h3:isS [115,105,103,110,97,108] ts=true
 ·rw [if_pos h3] at hr;rw [H4 h h3];exact K9 hs hb bb 63 (h.is h3) hr
 ·rw [if_neg h3] at hr;rw [Iu h h3];cases hr;exact Po bb 63 h
omit hs hb in
theorem Ui:Gh l (Da K):=fun ts h=>by
 unfold Da;rw [Gi h,Option.bind_some];dsimp only;rw [if_neg (by simp),Gi h,Option.bind_some];dsimp only;rw [if_neg (by simp),G9 h];exact Po bb 63 h
variable (qC:Fy l Jt (Cl K)) (bC:Gh l (Cl K))
def Ts (K:Nat) (p:RP):Option (Nd×RP):=Option.bind (A1 K p) (fun (s,p)=>Option.bind (Aq K [61] p) (fun p=>Option.bind (Cl K p) (fun (a,p)=>Option.bind (B5 K 61 a) (fun n=>Option.bind (Bf K (⟨n.Op,s,n.Int,n.Text,n.Kids⟩:Aa) p) (fun (x,p)=>some (x,p))))))
include qC bC in
omit hs hb bb in
theorem Uc {ts:List Tk} (h:Sx l ts) {r:Except (List Tk) (Nd×List Tk)} (hr:Nx ts=some r):Gs l (Ts K (rst l ts false)) r:=by
 unfold Ts;have e1:∀ (s:List UInt8) us,Sx l us→∃ b,Option.bind (Cl K (rst l us true)) (fun (a,p)=>Option.bind (B5 K 61 a) (fun n=>Option.bind (Bf K (⟨n.Op,s,n.Int,n.Text,n.Kids⟩:Aa) p) (fun (x,p)=>some (x,p))))=some (b,rst l us true):=fun s us h=>Gw bC h fun a=>by
  dsimp only; rw [Ga]; exact Ig h _
 refine E7 h hr (fun r=>D0 _ h.gd r) (fun r hx=>Gq h hx) (fun s ts' h hx hr=>?_) fun s ts' h=>Gr h (e1 s _ h)
 refine G0 h hr (fun _ h hr=>?_) (e1 s _ h);refine E7 h hr (fun r=>Jn _ h.gd r) (fun r hx=>qC _ h _ hx) (fun a ts' h hx hr=>?_) fun a ts' h=>by dsimp only; rw [Ga]; exact Ig h _
 dsimp only; rw [Ga]; exact K6 h hr
def Nc (K k:Nat) (acc:List Nd) (x:Nd×RP):Option (List Tk×Int×Bool×List Nd):=match x with |(a,p)=>if (acc.length+([(⟨a.Op,a.Name,a.Int,a.Text,a.Kids⟩:Aa)]:List Aa).length) * 72≤140737488355328 then Bu.l7 K k p.l p.at_ p.bad (acc++([(⟨a.Op,a.Name,a.Int,a.Text,a.Kids⟩:Aa)]:List Aa)) else none
omit hs hb bb in
theorem Xj (k:Nat) (acc:List Nd) (p:RP):Option.bind (A1 K p) (fun (d,e)=>(Option.bind (Aq K [61] e) (fun a4=>(Option.bind (Cl K a4) (fun (f,g)=>(Option.bind (B5 K 61 f) (fun a6=>(Option.bind (Bf K (⟨a6.Op,d,a6.Int,a6.Text,a6.Kids⟩:Aa) g) (fun (b,c)=>(if (acc.length+([(⟨b.Op,b.Name,b.Int,b.Text,b.Kids⟩:Aa)]:List Aa).length) * 72≤140737488355328 then Bu.l7 K k c.l c.at_ c.bad (acc++([(⟨b.Op,b.Name,b.Int,b.Text,b.Kids⟩:Aa)]:List Aa)) else none))))))))))=Option.bind (Ts K p) (Nc K k acc):=by
 unfold Ts;cases A1 K p with
 | none=>rfl
 | some x =>
  obtain ⟨s,p⟩:=x;simp only [Option.bind_some];cases Aq K [61] p with
  | none=>rfl
  | some p =>
   simp only [Option.bind_some];cases Cl K p with
   | none=>rfl
   | some x =>
    obtain ⟨a,p⟩:=x;simp only [Option.bind_some,Ga];cases Bf K (⟨61,s,0,[],[a]⟩:Aa) p with
    | none=>rfl
    | some x=>rfl
include hs hb bb qC bC
theorem Uv (hKl:l.length+20≤K):∀ (k k':Nat) (acc:List Nd) (ts:List Tk),k < k'→acc.length+ts.length≤9000010→Sx l ts→∀ r,Hw bl k acc ts=some r →
  Iv l 9000011 (Bu.l7 K k' l (pos l ts) false acc) r:=by
 intro k
 induction k with
 | zero=>intro k' acc ts hk hn h r hr; cases hr
 | succ k ih =>
  intro k' acc ts hk hn h r hr;obtain ⟨k',rfl⟩:∃ j,k'=j+1:=⟨k' - 1,by omega⟩
  have hl:=h.len; have hh:=h.hl;have stepb:∀ (a:Nd) us,Sx l us→Iv l 9000011 (Nc K k' acc (a,rst l us true)) (.error us):=by
   intro a us hu;unfold Nc;dsimp only;rw [if_pos (by simp; omega)];obtain ⟨k',rfl⟩:∃ j,k'=j+1:=⟨k' - 1,by omega⟩
   rw [Bu.l7,if_pos rfl];exact ⟨_,by simp; omega,rfl⟩
  have step:∀ {x:Rs Nd} {vs:List Tk} {d:Nat},Sx l vs→vs.length+1≤ts.length→∀ {o:Option (Nd×RP)},(∀ r,x=some r→Ate d vs r)→(∀ r,x=some r→Gs l o r)→bnd x (fun a=>Hw bl k (acc++[a]))=some r→Iv l 9000011 (Option.bind o (Nc K k' acc)) r:=by
   intro x vs d hv hvl o hx ho hr;rcases Fd (γ:=Nd) hv hx hr with ⟨e,hx',rfl⟩ |⟨a,us,hx',h3,h4,hr⟩
   ·obtain ⟨a,e1⟩:=ho _ hx';rw [e1];exact stepb a e (hv.eat (show Eat 0 vs e from hx _ hx'))
   ·have e1:o=some (a,rst l us false):=ho _ hx';rw [e1,Option.bind_some];unfold Nc;dsimp only
    have:=h4.2.1
    rw [if_pos (by simp; omega),Ed];exact ih k' (acc++[a]) us (by omega) (by simp; omega) h3 r hr
  rw [Bu.l7,if_neg (by simp)];obtain ⟨t,u,rfl⟩:=h.gd.head;have ek:=Hr (K:=K) h 0;change A4 K (⟨l,pos l (t :: u),false⟩:RP) 0=_ at ek;rw [ek,Option.bind_some];simp only [Hw] at hr;by_cases hk0:t.Kind=0
  ·rw [if_pos (show hdK 0 (t :: u)=true by simpa [hdK] using hk0)] at hr;rw [if_pos (by simpa using hk0)];cases hr; rfl
  rw [if_neg (show ¬ hdK 0 (t :: u)=true by simpa [hdK] using hk0)] at hr;rw [if_neg (by simpa using hk0)];replace hr:bnd (if isS [118,97,114] (t :: u)=true then Nx (t :: u).tail else if isS [102,117,110,99] (t :: u)=true then fnS bl (t :: u).tail else bnd (Ee [111,110] (t :: u)) fun _=>Ko bl) (fun a=>Hw bl k (acc++[a]))=some r:=hr;generalize t :: u=ts at *;have hlt:ts.tail.length+1≤ts.length:=by simp only [List.length_tail]; omega
  rw [Ly] at hr;show Iv l 9000011 (Option.bind (Ag K [118,97,114] (rst l ts false)) _) r;by_cases h1:isS [118,97,114] ts=true
  ·rw [if_pos h1] at hr;rw [Hk h h1,Option.bind_some];dsimp only;rw [if_pos rfl,Xj];have h2:=h.is h1;exact step h2 hlt (fun r=>P5 _ h2.gd r) (fun r hx=>Uc qC bC h2 hx) hr
  rw [if_neg h1,Ly] at hr;rw [He h h1,Option.bind_some];dsimp only;rw [if_neg (by simp)];by_cases h3:isS [102,117,110,99] ts=true
  ·rw [if_pos h3] at hr;rw [Hk h h3,Option.bind_some];dsimp only;rw [if_pos rfl];have h2:=h.is h3;exact step h2 hlt (fun r=>Sj hs _ h2.gd r) (fun r hx=>Wd hs hb bb hKl _ h2 _ hx) hr
  rw [if_neg h3,Gv] at hr;rw [He h h3,Option.bind_some];dsimp only;rw [if_neg (by simp)];by_cases h4:isS [111,110] ts=true
  ·rw [H4 h h4,Option.bind_some];have h2:=h.is h4;simp only [Ee,if_pos h4,O9] at hr;exact step h2 hlt (fun r=>My hs _ h2.gd r) (fun r hx=>U4 hs hb bb _ h2 _ hx) hr
  ·rw [Iu h h4,Option.bind_some];simp only [Ee,if_neg h4] at hr;cases hr;obtain ⟨a,e⟩:=Ui (K:=K) bb ts h;rw [e];exact stepb a ts h
theorem Rf (hKl:l.length+20≤K):Fy l (Ma bl) (Bu K):=fun ts h r hr=>by
 unfold Bu
 have:=h.len; have:=h.hl
 exact Iv.bnd (d:=0) h hr (fun r=>Jl hs _ _ _ h.gd r) (fun r hx=>Uv hs hb bb qC bC hKl _ K [] ts (by omega) (by simp only [List.length_nil]; omega) h r hx) (fun ks us hx h hr=>Fx hr) fun ks us hn h=>⟨_,rfl⟩
end
def L3:SP:=SPu 163859
def Lr:List Tk→Rs Nd:=(SBu L3 40000).bl
def Jp:List Tk→Rs Nd:=Ma Lr
theorem H2:Hm L3:=So _
theorem I8:Snd 1 Lr:=(Oh H2 _).bl
theorem Mh:Snd 0 Jp:=Sz I8
theorem Kk:Tot 16385 Jp:=Rl I8 ((Wu H2 40000 16385 Qj).1 (by omega))
theorem Qy:Qz L3:=valU 163859
theorem Qx:Vl IsB nsz 0 Lr:=(Ur Qy 40000).bl
theorem Lc:Vl PRs nsz 1 Jp:=T0 Qx
section
variable {K:Nat} (hK:600000≤K) (hb:K < 8000000) {l:List Tk} (hl:l.length≤16385)
include hK hl
theorem pE:F1 l L3.ex (Av K):=(Lh (by omega) (by omega) _ K (by omega)).ex
theorem pC (op:Int) (s:List UInt8):Nn l (Hq L3 op s) (Bv K op s):=by
 obtain ⟨g,rfl⟩:∃ j,K=j+2:=⟨K - 2,by omega⟩
 exact Ms (by omega) H2 (Lh (by omega) (by omega) _ g (by omega)).ex op s
theorem pB:F1 l Lr (As K):=(Pc H2 (pE hK hl) (pC hK hl) (by omega) 40000 K (by omega)).bl
theorem pP:F1 l Jp (Bt K):=Wn I8 (pB hK hl) (by omega) (by omega)
theorem rE:Fy l L3.ex (Al K):=(Lw (by omega) (by omega) _ K (by omega)).ex
omit hl in
theorem rEb:Gh l (Al K):=by
 obtain ⟨g,rfl⟩:∃ j,K=j+7:=⟨K - 7,by omega⟩
 exact (badU (by omega) g).2.2.2.2.2.2
theorem rL:Fy l (Gl [41] L3.ex) (A8 K [41]):=by
 obtain ⟨g,rfl⟩:∃ j,K=j+1:=⟨K - 1,by omega⟩
 exact Kd (by omega) H2.ex (Lw (by omega) (by omega) _ g (by omega)).ex
omit hl in
theorem rLb:Gh l (A8 K [41]):=by
 obtain ⟨g,rfl⟩:∃ j,K=j+1:=⟨K - 1,by omega⟩
 exact Ow (by omega) [41]
omit hl in
theorem rPb:Gh l (Ba K):=by
 obtain ⟨g,rfl⟩:∃ j,K=j+1:=⟨K - 1,by omega⟩
 exact R0 _
theorem rPq:∀ ts,Sx l ts→∀ a u,Jb ts=some (a,u)→Ba K (rst l ts false)=some (a,rst l u false):=fun ts h a u e =>
 (Lw (K:=K) (l:=l) (by omega) (by omega) 1 K (by omega)).pm ts h (.ok (a,u)) (by show pmF (SPu 0) ts=_; unfold pmF; rw [e])
theorem rB:Fy l Lr (Ak K):=(O1 H2 (rE hK hl) (rEb hK) (rL hK hl) (rLb hK) (by omega) 40000 K (by omega)).bl
omit hl in
theorem rBb:Gh l (Ak K):=by
 obtain ⟨g,rfl⟩:∃ j,K=j+1:=⟨K - 1,by omega⟩
 exact M3 (by omega) _
theorem rP:Fy l Jp (Bu K):=Rf I8 (rB hK hl) (rBb hK) (Qm (rPq hK hl) (rPb hK)) Qf (by omega)
end
theorem Uf {K:Nat} (hK:600000≤K) (hb:K < 8000000) (src:List UInt8):Fu K src=some (J3 Jp src):=by
 have h:=Sq (K:=K) (by omega) hb Mh Kk Lc (q:=Bt K) (fun l hl=>pP hK hl) src;unfold Fu;show Option.bind (F2 K src) _=_;have e:F2 K src=Option.bind (Ev K src) (fun (a,b,c)=>if c≠0 then some (A9,b,c) else Option.bind (Option.bind (Bt K ⟨a,0⟩) (P1 K)) (fun x=>some (Gu x))):=by
  unfold F2;rw [Ws]; rfl
 rw [e,h]; rfl
theorem Ul {K:Nat} (hK:600000≤K) (hb:K < 8000000) (src:List UInt8):E4 K src=some (J3 Jp src):=by
 have h:=U1 (K:=K) (by omega) hb Mh Kk Lc (q:=Bu K) (fun l hl=>rP hK hl) src;unfold E4;show Option.bind (E2 K src true) _=_;replace h:E2 K src true=_:=h;rw [h]; rfl
theorem O5 {K:Nat} (hK:600000≤K) (hb:K < 8000000) (hw:Ec K=some true) (src:List UInt8):D5 K src=some true:=by
 unfold D5;rw [hw];by_cases h:(src.length:Int) > 20000
 ·rw [if_pos h]; rfl
 rw [if_neg h,Uf hK hb,Ul hK hb];obtain ⟨h1,h2⟩:=Q8 Kk Lc src;have h3:=(Ta K (by omega) (J3 Jp src).1 (J3 Jp src).1 (by omega)).self;generalize J3 Jp src=v at *;obtain ⟨a,b,c⟩:=v;simp only [Option.bind_some,if_true] at *;rw [h3];simp only [Option.bind_some,if_true];by_cases hc:c=0
 ·rw [if_neg (by simpa using hc),Wa (by omega) (by omega) a (by omega)];simp only [Option.bind_some];rw [if_pos (show dc (IsR a)=true from Kx ⟨(h2 hc).1,(h2 hc).2⟩)]
 ·rw [if_pos hc]
theorem Mp (src:List UInt8):D5 5000000 src=some true:=O5 (by omega) (by omega) Qs src
end Go.Proofs.YtifjagfmfkemmaaGreatDoor
