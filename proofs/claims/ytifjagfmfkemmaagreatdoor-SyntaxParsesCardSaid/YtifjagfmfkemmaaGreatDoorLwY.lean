import Derived.Test.YtifjagfmfkemmaaGreatDoorLwX
set_option linter.unusedVariables false
set_option linter.unusedSimpArgs false
set_option maxHeartbeats 4000000
namespace Go.Proofs.YtifjagfmfkemmaaGreatDoor
open Eng Go
section
variable {K:Nat} {l:List Tk} {E:SP} (hE:Hm E) (qE:Fy l E.ex (Al K)) (bE:Gh l (Al K))
theorem P2 {bl:List Tk→Rs Nd}:∀ (k:Nat) (acc:List Nd) (ts:List Tk) (ks:List Nd) (us:List Tk),chL E bl k acc ts=some (.ok (ks,us))→acc.length≤16→ks.length≤16
 | 0,acc,ts,ks,us,h,_=>by cases h
 | k+1,acc,ts,ks,us,h,ha=>by
  simp only [chL] at h;split at h
  ·split at h
   ·cases h
   ·obtain ⟨a,vs,_,hy⟩:=J0 h;exact P2 k _ vs ks us hy (by simp; omega)
  ·cases h; exact ha
theorem Ub (hK:1≤K) (R:BP):Gh l (A6.F K R):=fun ts h=>by
 unfold A6.F;refine Gr h ?_;obtain ⟨k,rfl⟩:∃ j,K=j+1:=⟨K - 1,by omega⟩
 dsimp only;rw [A6.l9,if_pos (by decide)];have e:=Gi (K:=k+1) h [99,97,115,101];change Ag (k+1) _ (⟨l,pos l ts,true⟩:RP)=_ at e;rw [e,Option.bind_some];dsimp only;rw [if_neg (by simp),Option.bind_some];dsimp only;have e:=Gi (K:=k+1) h [101,108,115,101];change Ag (k+1) _ (⟨l,pos l ts,true⟩:RP)=_ at e;rw [e,Option.bind_some];dsimp only;rw [if_neg (by simp),Option.bind_some];dsimp only;rw [if_pos (by simp)];have e:=G9 (K:=k+1) h [125];change Aq (k+1) _ (⟨l,pos l ts,true⟩:RP)=_ at e;rw [e];exact ⟨_,rfl⟩
include hE qE
theorem Ty (hKl:l.length+20≤K) {bl:List Tk→Rs Nd} (hs:Snd 1 bl) {R:BP} (hb:Fy l bl R.Ak) (bb:Gh l R.Ak):Fy l (chS E bl) (A6.F K R):=fun ts h r hr=>by
 have hbd:=Ub (K:=K) (l:=l) (by omega) R ts h;unfold A6.F at hbd ⊢;rw [G9 h] at hbd;refine G0 h hr (fun h1 h hr=>?_) hbd;clear hbd h1;have fin:∀ (ks:List Nd) us,Sx l us→chE ks us=some r→Gs l (if (ks.length:Int)=0 then (Option.bind (Aq K [125] (⟨l,pos l us,true⟩:Ad)) (fun a13=>some ((⟨49,[],0,[],ks⟩:Aa),a13))) else (Option.bind (Aq K [125] (⟨l,pos l us,false⟩:Ad)) (fun a14=>some ((⟨49,[],0,[],ks⟩:Aa),a14)))) r:=by
  intro ks us h hr;unfold chE at hr;by_cases h0:ks.length=0
  ·rw [if_pos h0] at hr;rw [if_pos (by omega)];have e:=G9 (K:=K) h [125];change Aq K _ (⟨l,pos l us,true⟩:RP)=_ at e;rw [e]; cases hr; exact ⟨_,rfl⟩
  ·rw [if_neg h0] at hr;rw [if_neg (by omega)];exact G0 h hr (fun _ _ hr=>Fx hr) ⟨_,rfl⟩
 have finb:∀ (ks:List Nd) us,Sx l us→∃ b:Nd,(if (ks.length:Int)=0 then (Option.bind (Aq K [125] (⟨l,pos l us,true⟩:Ad)) (fun a13=>some ((⟨49,[],0,[],ks⟩:Aa),a13))) else (Option.bind (Aq K [125] (⟨l,pos l us,true⟩:Ad)) (fun a14=>some ((⟨49,[],0,[],ks⟩:Aa),a14))))=some (b,rst l us true):=by
  intro ks us h;have e:=G9 (K:=K) h [125];change Aq K _ (⟨l,pos l us,true⟩:RP)=_ at e;rw [e];split <;> exact ⟨_,rfl⟩
 have hl:=h.len; have hh:=h.hl;dsimp only;generalize ts.tail=ts at *;replace hr:bnd (chL E bl (ts.length+1) [] ts) (fun ks=>sq (elS bl ks) chE)=some r:=hr;have hsn:∀ r,chL E bl (ts.length+1) [] ts=some r→Ate 0 ts r:=fun r=>K4 hE hs _ _ _ h.gd r
 cases hx:chL E bl (ts.length+1) [] ts with
 | none=>rw [hx] at hr; cases hr
 | some x =>
  rw [hx] at hr;have hat:=hsn _ hx;rcases Vd hE qE hs hb bb _ K [] ts (by omega) (by simp) h x hx with hT |⟨_,ks,us,hu,h16,hc,rfl,e⟩
  ·match x,hr,hat,hT with
   | .error e,hr,hat,⟨ks,hn,hT⟩ =>
    cases hr;have h2:=h.eat (show Eat 0 _ e from hat);rw [hT,Option.bind_some];dsimp only;have e1:=Gi (K:=K) h2 [101,108,115,101];change Ag K _ (⟨l,pos l e,true⟩:RP)=_ at e1;rw [e1,Option.bind_some];dsimp only;rw [if_neg (by simp),Option.bind_some];exact finb ks e h2
   | .ok (ks,us),hr,hat,hT =>
    have h2:=h.eat (show Eat 0 _ us from hat);replace hT:A6.l9 K R K l (pos l ts) false []=some (l,pos l us,false,ks):=hT;rw [hT,Option.bind_some];dsimp only;replace hr:bnd (if isS [101,108,115,101] us=true then bnd (bl us.tail) (fun b=>pok (ks++[nd 51 [b]])) else pok ks us) chE=some r:=hr;rw [Ly,Gv] at hr;have hks:ks.length≤16:=by
     have:=P2 (E:=E) (bl:=bl) (ts.length+1) [] ts ks us hx (by simp)
     exact this
    show Gs l (Option.bind (Option.bind (Ag K [101,108,115,101] (rst l us false)) _) _) r;by_cases h5:isS [101,108,115,101] us=true
    ·rw [if_pos h5] at hr;rw [Hk h2 h5,Option.bind_some];dsimp only;rw [if_pos rfl];have h3:=h2.is h5;rcases Fd (γ:=Nd) h3 (fun r=>hs _ h3.gd r) hr with ⟨e,hx,rfl⟩ |⟨b,ts'',hx,h5,h6,hr⟩
     ·obtain ⟨b,hb'⟩:=hb _ h3 _ hx;have h4:=h3.eat (show Eat 0 _ e from hs _ h3.gd _ hx);rw [hb',Option.bind_some];dsimp only;rw [Ga,Option.bind_some,if_pos (by simp; omega),Option.bind_some];exact finb _ e h4
     ·have hb':R.Ak (rst l us.tail false)=some (b,rst l ts'' false):=hb _ h3 _ hx;rw [hb',Option.bind_some];dsimp only;rw [Ga,Option.bind_some,if_pos (by simp; omega),Option.bind_some];exact fin _ _ h5 hr
    ·rw [if_neg h5] at hr;rw [He h2 h5,Option.bind_some];dsimp only;rw [if_neg (by simp),Option.bind_some];exact fin _ _ h2 hr
  ·cases hr;rw [e,Option.bind_some];dsimp only;have e1:=He (K:=K) hu (Ju (s':=[101,108,115,101]) (by decide) hc);change Ag K _ (⟨l,pos l us,false⟩:RP)=_ at e1;rw [e1,Option.bind_some];dsimp only;rw [if_neg (by simp),Option.bind_some];dsimp only;rw [if_neg (by omega)];have e2:=Iu (K:=K) hu (Ju (s':=[125]) (by decide) hc);change Aq K _ (⟨l,pos l us,false⟩:RP)=_ at e2;rw [e2];exact ⟨_,rfl⟩
end
end Go.Proofs.YtifjagfmfkemmaaGreatDoor
