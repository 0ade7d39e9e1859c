import Derived.Test.YtifjagfmfkemmaaGreatDoorLwY
set_option linter.unusedVariables false
set_option linter.unusedSimpArgs false
set_option maxHeartbeats 4000000
namespace Go.Proofs.YtifjagfmfkemmaaGreatDoor
open Eng Go
section
variable {K:Nat} {l:List Tk} {E:SP} (hE:Hm E) (qE:Fy l E.ex (Al K)) (bE:Gh l (Al K)) (qL:Fy l (Gl [41] E.ex) (A8 K [41])) (bL:Gh l (A8 K [41]))
theorem N4 {ts:List Tk} {o:Option (Nd×RP)} {r:Except (List Tk) (Nd×List Tk)} (h:Gs l o r):Gs l (Option.bind o (fun (a,p)=>some (a,p))) r:=by
 match r,h with
 | .error e,⟨a,h⟩=>exact ⟨a,by rw [h]; rfl⟩
 | .ok (a,ts),h =>
  replace h:o=some (a,rst l ts false):=h;rw [h]; rfl
include hE qE bE
omit bE in
theorem T2 {op:Int} {s:List UInt8} {ts:List Tk} (h:Sx l ts) {r:Except (List Tk) (Nd×List Tk)} (hr:sq (J6 E) (fun a=>pok ⟨op,s,0,[],[a]⟩) ts=some r) :
  Gs l (Option.bind (Al K (rst l ts false)) (fun (b,c)=>(Option.bind (B5 K op b) (fun a8=>(Option.bind (Bf K (⟨a8.Op,s,a8.Int,a8.Text,a8.Kids⟩:Aa) c) (fun (d,e)=>some (d,e))))))) r:=by
 unfold sq J6 sq at hr;simp only [Gv,sq] at hr;refine E7 h hr (fun r=>hE.ex _ h.gd r) (fun r hx=>qE _ h _ hx) (fun a ts' h hx hr=>?_) fun a ts' h=>?_
 ·dsimp only;rw [Ga];exact K6 h hr
 ·dsimp only;rw [Ga];exact Ig h _
omit bE in
theorem Ll {op:Int} {ts:List Tk} (h:Sx l ts) {r:Except (List Tk) (Nd×List Tk)} (hr:sq (J6 E) (fun a=>pok (nd op [a])) ts=some r) :
  Gs l (Option.bind (Al K (rst l ts false)) (fun (b,c)=>(Option.bind (B5 K op b) (fun a8=>(Option.bind (Bf K a8 c) (fun (d,e)=>some (d,e))))))) r:=by
 unfold sq J6 sq at hr;simp only [Gv,sq] at hr;refine E7 h hr (fun r=>hE.ex _ h.gd r) (fun r hx=>qE _ h _ hx) (fun a ts' h hx hr=>?_) fun a ts' h=>?_
 ·dsimp only;rw [Ga];exact K6 h hr
 ·dsimp only;rw [Ga];exact Ig h _
omit hE qE in
theorem bend {op:Int} {s:List UInt8} {ts:List Tk} (h:Sx l ts):∃ b,(Option.bind (Al K (rst l ts true)) (fun (c,d)=>(Option.bind (B5 K op c) (fun a8=>(Option.bind (Bf K (⟨a8.Op,s,a8.Int,a8.Text,a8.Kids⟩:Aa) d) (fun (e,f)=>some (e,f)))))))=some (b,rst l ts true):=by
 refine Gw bE h fun a=>?_
 dsimp only;rw [Ga];exact Ig h _
theorem Pq {op:Int} {ts:List Tk} (h:Sx l ts) {r:Except (List Tk) (Nd×List Tk)} (hr:sq Gg (M7 E op) ts=some r) :
  Gs l (Option.bind (A1 K (rst l ts false)) (fun (a,b)=>(Option.bind (Aq K [61] b) (fun a6=>(Option.bind (Al K a6) (fun (c,d)=>(Option.bind (B5 K op c) (fun a8=>(Option.bind (Bf K (⟨a8.Op,a,a8.Int,a8.Text,a8.Kids⟩:Aa) d) (fun (e,f)=>some (e,f))))))))))) r:=by
 refine E7 h hr (fun r=>D0 _ h.gd r) (fun r hx=>Gq h hx) (fun s ts' h hx hr=>?_) fun s ts' h=>Gr h (bend bE h)
 exact G0 h hr (fun _ h hr=>T2 hE qE h hr) (bend bE h)
include qL bL
theorem V7 {S:SB} (hS:Ki S) {R:BP} (hb:Fy l S.bl R.Ak) (bb:Gh l R.Ak) (hc:∀ ts,Sx l ts→isS [105,102] ts=true→∀ r,S.cd ts.tail=some r→Gs l (R.Br (rst l ts false)) r) (hs:Fy l (chS E S.bl) R.A6) :
  Fy l (smF E S) (Cj.F K R):=fun ts h r hr=>by
 unfold Cj.F;rw [Io h,Option.bind_some];have ha:=Pp (K:=K) h;by_cases h1:isS [108,101,116] ts=true
 ·rw [if_pos (show (!false && isS [108,101,116] ts)=true by simpa using h1),Option.bind_some];dsimp only;rw [if_pos rfl,Hk h h1];replace hr:(if isS [108,101,116] ts=true then sq Gg (M7 E 40) ts.tail else _)=some r:=hr;rw [if_pos h1] at hr;exact Pq hE qE bE (h.is h1) hr
 rw [if_neg (show ¬ (!false && isS [108,101,116] ts)=true by simpa using h1),ha,Option.bind_some];by_cases hA:Kc ts=true
 ·rw [if_pos hA,He h h1];have hr:sq Gg (M7 E 41) ts=some r:=by
   rw [← hr];unfold smF al N2 ia;simp only [if_neg (Ue hA _),if_pos hA]
  exact Pq hE qE bE h hr
 rw [if_neg hA];replace hr:(if isS [108,101,116] ts=true then _ else _)=some r:=hr;rw [if_neg h1] at hr;rw [Io h,Option.bind_some];replace hr:(if isS [105,102] ts=true then _ else _)=some r:=hr;by_cases h2:isS [105,102] ts=true
 ·rw [if_pos h2] at hr;rw [if_pos (show (!false && isS [105,102] ts)=true by simpa using h2)];exact N4 (ts:=ts) (hc ts h h2 r hr)
 rw [if_neg h2] at hr;rw [if_neg (show ¬ (!false && isS [105,102] ts)=true by simpa using h2)];refine Fw h hr (fun h1 h hr=>?_) fun hr=>?_
 ·refine E7 h hr (fun r=>hE.ex _ h.gd r) (fun r hx=>qE _ h _ hx) (fun a ts' h hx hr=>?_) fun a ts' h=>Gw bb h fun b=>by dsimp only; rw [Hh]; exact ⟨_,rfl⟩
  refine E7 h hr (fun r=>hS.bl _ h.gd r) (fun r hx=>hb _ h _ hx) (fun b ts' h hx hr=>?_) fun b ts' h=>by dsimp only; rw [Hh]; exact ⟨_,rfl⟩
  dsimp only; rw [Hh]; exact Fx hr
 refine Fw h hr (fun h1 h hr=>?_) fun hr=>?_
 ·exact Fw h hr (fun h1 h hr=>Fx hr) fun hr=>Ll hE qE h hr
 refine Fw h hr (fun h1 h hr=>Ll hE qE h hr) fun hr=>?_
 refine Fw h hr (fun h1 h hr=>?_) fun hr=>?_
 ·have e1:∀ (a:Nd) (s:List UInt8) us,Sx l us→∃ b:Nd,Option.bind (R.Ak (rst l us true)) (fun (c,d)=>(Option.bind (A5 K 46 a c) (fun a30=>some ((⟨a30.Op,s,a30.Int,a30.Text,a30.Kids⟩:Aa),d))))=some (b,rst l us true):=fun a s us h=>Gw bb h fun b=>by dsimp only; rw [Hh]; exact ⟨_,rfl⟩
  refine E7 h hr (fun r=>hS.bl _ h.gd r) (fun r hx=>hb _ h _ hx) (fun a ts' h hx hr=>?_) fun a ts' h=>Gr h (Gw Iz h fun s=>e1 a s _ h)
  refine G0 h hr (fun _ h hr=>?_) (Gw Iz h fun s=>e1 a s _ h);refine E7 h hr (fun r=>D0 _ h.gd r) (fun r hx=>Gq h hx) (fun s ts' h hx hr=>?_) fun s ts' h=>e1 a s _ h
  refine E7 h hr (fun r=>hS.bl _ h.gd r) (fun r hx=>hb _ h _ hx) (fun b ts' h hx hr=>?_) fun b ts' h=>by dsimp only; rw [Hh]; exact ⟨_,rfl⟩
  dsimp only; rw [Hh]; exact Fx hr
 refine Fw h hr (fun h1 h hr=>?_) fun hr=>?_
 ·refine E7 h hr (fun r=>hS.bl _ h.gd r) (fun r hx=>hb _ h _ hx) (fun b ts' h hx hr=>?_) fun b ts' h=>by dsimp only; rw [Ga]; exact ⟨_,rfl⟩
  dsimp only; rw [Ga]; exact Fx hr
 refine Fw h hr (fun h1 h hr=>?_) fun hr=>?_
 ·refine E7 h hr (fun r=>D0 _ h.gd r) (fun r hx=>Gq h hx) (fun s ts' h hx hr=>?_) fun s ts' h=>Gr h (Gw bL h fun ks=>Ig h _)
  have hr:bnd (Ee [40] ts') (fun _ ts=>bnd (Gl [41] E.ex ts) fun ks ts=>bnd (Ee [59] ts) fun _=>pok ⟨48,s,0,[],ks⟩)=some r:=by
   rw [← hr];show _=bnd (bnd (Ee [40] ts') fun _ ts=>bnd (Gl [41] E.ex ts) fun ks ts=>pok (⟨48,s,0,[],ks⟩:Nd) ts) (fun a=>sq (Ee [59]) fun _=>pok a);simp only [Gv];rfl
  refine G0 h hr (fun _ h hr=>?_) (Gw bL h fun ks=>Ig h _);exact E7 h hr (fun r=>F4 hE.ex _ h.gd r) (fun r hx=>qL _ h _ hx) (fun ks ts' h hx hr=>K6 h hr) fun ks ts' h=>Ig h _
 refine Fw h hr (fun h1 h hr=>N4 (ts:=ts) (hs _ h _ hr)) fun hr=>?_
 unfold N2 ia at hr;rw [if_neg hA] at hr;exact Ll hE qE h hr
structure RB (l:List Tk) (S:SB) (R:BP):Prop where
 bl:Fy l S.bl R.Ak
 sm:Fy l S.sm R.Cj
 cd:∀ ts,Sx l ts→isS [105,102] ts=true→∀ r,S.cd ts.tail=some r→Gs l (R.Br (rst l ts false)) r
theorem O1 (hKl:l.length+20≤K):∀ (f g:Nat),2 * f+2≤g→RB l (SBu E f) (A2.upto K g)
 | 0,g,h=>⟨fun _ _ _ h=>(by cases h),fun _ _ _ h=>(by cases h),fun _ _ _ _ h=>(by cases h)⟩
 | f+1,g,h=>by
  obtain ⟨g,rfl⟩:∃ j,g=j+2:=⟨g - 2,by omega⟩
  have h0:=O1 hKl f g (by omega);have h1:=O1 hKl f (g+1) (by omega);have hS:=Oh hE f;have b1:Gh l (A2.upto K (g+1)).Ak:=M3 (K:=K) (l:=l) (by omega) (A2.upto K g);have b0:Gh l (A2.upto K g).Ak:=by
   obtain ⟨j,rfl⟩:∃ j,g=j+1:=⟨g - 1,by omega⟩
   exact M3 (K:=K) (l:=l) (by omega) (A2.upto K j)
  exact ⟨Xk hKl hS h1.sm,V7 hE qE bE qL bL hS h1.bl b1 h1.cd (show Fy l (chS E (SBu E f).bl) (A6.F K (A2.upto K g)) from Ty hE qE hKl hS.bl h0.bl b0),fun ts h hi r hr=>Wk hE qE hS h1.bl b1 h1.cd h hi hr⟩
end
end Go.Proofs.YtifjagfmfkemmaaGreatDoor
