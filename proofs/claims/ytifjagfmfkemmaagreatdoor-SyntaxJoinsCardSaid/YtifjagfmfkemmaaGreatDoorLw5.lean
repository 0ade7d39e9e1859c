import Derived.Test.YtifjagfmfkemmaaGreatDoorLw4
set_option linter.unusedVariables false
set_option linter.unusedSimpArgs false
set_option maxHeartbeats 4000000
namespace Go.Proofs.YtifjagfmfkemmaaGreatDoor
open Eng Go
theorem Snd.sq' {α β:Type} {p:List Tk→Rs α} {f:α→List Tk→Rs β} (hp:Snd 0 p) (hf:∀ a,Snd 1 (f a)):Snd 1 (Go.Proofs.YtifjagfmfkemmaaGreatDoor.sq p f):=fun ts hg r hr=>(Snd.bnd (d:=0) (e:=1) (hp ts hg) hf r hr).le (by omega)
theorem Snd.sq2 {α β:Type} {p:List Tk→Rs α} {f:α→List Tk→Rs β} (hp:Snd 1 p) (hf:∀ a,Snd 1 (f a)):Snd 2 (Go.Proofs.YtifjagfmfkemmaaGreatDoor.sq p f):=fun ts hg r hr=>Snd.bnd (d:=1) (e:=1) (hp ts hg) hf r hr
theorem Lo.wk {α:Type} {A:List UInt8→Prop} {p:List Tk→Rs α} (h:Lo AN p):Lo A p:=fun n=>(h n).mono (fun s h=>h.elim) (Nat.le_refl n)
theorem Ls {α:Type} {A:List UInt8→Prop} {p p':List Tk→Rs α}:Lo2 A 0 p p':=fun pre r pre' r' b g1 g2 g3 g4 hz hA hn hr=>by
 have:=g2.ne
 cases hx:pre'++r' with
 | nil=>exact absurd hx this
 | cons t u=>rw [hx] at hn; simp at hn
theorem Lo.seq1 {α β:Type} {A B:List UInt8→Prop} {p:List Tk→Rs α} {f:α→List Tk→Rs β} (sp:Snd 0 p) (hp:Lo B p) (sf:∀ a,Snd 1 (f a)) (hf:∀ a,Lo A (f a)):Lo A (sq p f):=fun n=>Lo2.seq (d:=0) (e:=1) sp (hp n) sf (fun a=>hf a _) (.inr (Nat.le_refl _))
theorem Lo.seq0 {α β:Type} {A:List UInt8→Prop} {p:List Tk→Rs α} {f:α→List Tk→Rs β} (sp:Snd 0 p) (hp:Lo A p) (sf:∀ a,Snd 0 (f a)) (hf:∀ a,Lo A (f a)):Lo A (sq p f):=fun n=>Lo2.seq (d:=0) (e:=0) sp (hp n) sf (fun a=>hf a _) (.inl fun s h=>h)
theorem Lo.alt {α:Type} {A:List UInt8→Prop} {s:List UInt8} {p q:List Tk→Rs α} (sp:Snd 0 p) (hp:Lo A p) (hq:Lo A q) (h:A s∨Snd 1 q):Lo A (al s p q):=fun n=>Lo2.alt sp (hp _) (hq n) h
theorem Lo.pure {α:Type} {A:List UInt8→Prop} (a:α):Lo A (pok a):=fun n=>Lo2.pure a
theorem Lo.want {A:List UInt8→Prop} (s:List UInt8):Lo A (D5 s):=fun n=>Lo2.want s
theorem Lo.name {A:List UInt8→Prop}:Lo A Fi:=fun n=>Lo2.name
structure LoB (R:SB):Prop where
 bl:Lo AN R.bl
 sm:Lo AT R.sm
 cd:Lo AT R.cd
section
variable {E:SP} (hE:Gp E) (lE:LoR E) {A:List UInt8→Prop}
include hE lE
omit lE in
theorem Nz:Snd 2 (I9 E):=hE.ex.sq2 fun a=>(Cf _).sq fun _=>Cn _
theorem K5:Lo A (I9 E):=Lo.seq1 hE.ex.le lE.ex (fun a=>(Cf _).sq fun _=>Cn _) fun a=>Lo.seq0 (Cf _).le (Lo.want _) (fun _=>Cn _) fun _=>Lo.pure _
omit hE lE in
theorem Kg {sm:List Tk→Rs Nd} (hs:Snd 1 sm) (h:Lo AT sm):∀ (n k k':Nat) (acc:List Nd),n < k'→Lo2 A n (Gh sm k acc) (Gh sm k' acc)
 | n,0,k',a,hk=>fun pre r pre' r' b g1 g2 g3 g4 hz hA hn hr=>by cases hr
 | n,k+1,0,a,hk=>by omega
 | n,k+1,k'+1,acc,hk=>by
  refine Lo2.alt (Cn _) (Lo2.pure _) (Lo2.seq (d:=1) (e:=1) hs (h _) (fun a=>Gf hs k _) (fun a=>?_) (.inr (Nat.le_refl _))) (.inr (hs.sq fun a=>(Gf hs k _).le));by_cases h0:n - 1 < k'
  ·exact Kg hs h _ k k' _ h0
  ·have:n - 1=0:=by omega
   rw [this]; exact Ls
omit hE lE in
theorem lo_bl {R:SB} (hS:Iv R) (h:LoB R):Lo AN (blF R):=Lo.seq0 (Cf _).le (Lo.want _) (fun _=>Snd.sq (fun ts=>(Gf hS.sm _ _).le ts) fun ks=>Cn _) fun _ =>
 Lo.seq0 (p:=fun ts=>Gh R.sm (ts.length+1) [] ts) (fun ts=>(Gf hS.sm _ _).le ts) (fun n=>Lo2.len (p:=fun k=>Gh R.sm k []) (p':=fun k=>Gh R.sm k []) fun m hm k k' hk=>Kg hS.sm h.sm _ _ _ _ hk) (fun ks=>Cn _) fun ks=>Lo.pure _
theorem lo_cd {R:SB} (hS:Iv R) (h:LoB R):Lo AT (cdF E R):=by
 have s0:∀ a b:Nd,Snd 1 (al [105,102] (sq R.cd fun c=>pok (nd 42 [a,b,c])) (sq R.bl fun c=>pok (nd 42 [a,b,c]))):=fun a b=>Snd.al (by omega) (hS.cd.le.sq fun c=>Cn _) (hS.bl.sq fun c=>Cn _)
 have s1:∀ a b:Nd,Snd 0 (al [101,108,115,101] (al [105,102] (sq R.cd fun c=>pok (nd 42 [a,b,c])) (sq R.bl fun c=>pok (nd 42 [a,b,c]))) (pok (nd 42 [a,b]))):=fun a b=>Snd.al (by omega) (s0 a b).le (Cn _)
 exact Lo.seq1 hE.ex.le lE.ex (fun a=>hS.bl.sq fun b=>s1 a b) fun a=>Lo.seq0 hS.bl.le h.bl.wk (s1 a) fun b=>Lo.alt (s0 a b).le (Lo.alt (hS.cd.le.sq fun c=>Cn _) (Lo.seq0 hS.cd.le h.cd (fun c=>Cn _) fun c=>Lo.pure _) (Lo.seq0 hS.bl.le h.bl.wk (fun c=>Cn _) fun c=>Lo.pure _) (.inl trivial)) (Lo.pure _) (.inl trivial)
theorem Nt {bl:List Tk→Rs Nd} (hs:Snd 1 bl) (h:Lo AN bl) (s:List UInt8):Lo A (Jn E bl s):=Lo.seq1 hE.ex.le lE.ex (fun a=>hs.sq fun b=>Cn _) fun a=>Lo.seq0 hs.le h.wk (fun b=>Cn _) fun b=>Lo.pure _
omit lE in
theorem Of {bl:List Tk→Rs Nd} (h:Snd 1 bl) (s:List UInt8):Snd 2 (Jn E bl s):=hE.ex.sq2 fun a=>h.sq fun b=>Cn _
theorem Q7 {bl:List Tk→Rs Nd} (hs:Snd 1 bl) (h:Lo AN bl):Lo A (Ja E bl):=fun n =>
 Lo2.iaa (C6.sq2 fun s=>(Cf _).sq fun _=>(Hr hE hs s).le) (Lo.seq0 C6.le Lo.name (fun s=>(Cf _).le.sq fun _=>(Hr hE hs s).le) (fun s=>Lo.seq0 (Cf _).le (Lo.want _) (fun _=>(Hr hE hs s).le) fun _=>Nt hE lE hs h s) n) (Of hE hs []) (Nt hE lE hs h [] n)
theorem Qa {bl:List Tk→Rs Nd} (hs:Snd 1 bl) (h:Lo AN bl):∀ (n k k':Nat) (acc:List Nd),n < k'→Lo2 AT n (chL E bl k acc) (chL E bl k' acc)
 | n,0,k',a,hk=>fun pre r pre' r' b g1 g2 g3 g4 hz hA hn hr=>by cases hr
 | n,k+1,0,a,hk=>by omega
 | n,k+1,k'+1,acc,hk=>by
  by_cases h16:acc.length=16
  ·intro pre r pre' r' b g1 g2 g3 g4 hz hA hn hr;simp only [chL,if_pos h16] at hr ⊢;have e:=Lj (B:=AT) (r:=r) (r':=r') hz (.inl hA) [99,97,115,101] trivial;rw [← e];by_cases hc:isS [99,97,115,101] (pre++r)=true
   ·rw [if_pos hc] at hr; cases hr
   ·rw [if_neg hc] at hr ⊢;exact Lo2.pure (A:=AT) (n:=n) acc pre r pre' r' b g1 g2 g3 g4 hz hA hn hr
  ·refine Lo2.test (s:=[99,97,115,101]) (p:=sq (Ja E bl) (fun a=>chL E bl k (acc++[a]))) (p':=sq (Ja E bl) (fun a=>chL E bl k' (acc++[a]))) (q:=pok acc) (q':=pok acc) (fun ts=>by simp only [chL,if_neg h16]) (fun ts=>by simp only [chL,if_neg h16]) ((Ii hE hs).le.sq fun a=>He hE hs _ _) ?_ (Lo2.pure _) (.inl trivial);refine Lo2.seq (d:=0) (e:=0) (Ii hE hs).le (Q7 hE lE hs h _) (fun a=>He hE hs _ _) (fun a=>?_) (.inl fun s h=>h);by_cases h0:n - 1 - 0 < k'
   ·exact Qa hs h _ k k' _ h0
   ·have:n - 1 - 0=0:=by omega
    rw [this]; exact Ls
omit hE lE in
theorem Lv (ks:List Nd):Snd 1 (chE ks):=by
 unfold chE;split
 ·exact Ks
 ·exact (Cf _).sq fun _=>Cn _
omit hE lE in
theorem Sg (ks:List Nd):Lo A (chE ks):=by
 unfold chE;split
 ·exact fun n=>Lo2.fail
 ·exact Lo.seq0 (Cf _).le (Lo.want _) (fun _=>Cn _) fun _=>Lo.pure _
omit hE lE in
theorem S6 {bl:List Tk→Rs Nd} (hs:Snd 1 bl) (h:Lo AN bl) (ks:List Nd):Lo AT (elS bl ks):=Lo.alt (hs.le.sq fun b=>Cn _) (Lo.seq0 hs.le h.wk (fun b=>Cn _) fun b=>Lo.pure _) (Lo.pure _) (.inl trivial)
theorem S4 {bl:List Tk→Rs Nd} (hs:Snd 1 bl) (h:Lo AN bl):Lo A (chS E bl):=by
 have s1:∀ ks,Snd 1 (sq (elS bl ks) chE):=fun ks=>(Jh hs ks).sq' Lv
 exact Lo.seq0 (Cf _).le (Lo.want _) (fun _=>Snd.sq (fun ts=>He hE hs _ _ ts) fun ks=>(s1 ks).le) fun _ =>
  Lo.seq1 (B:=AT) (p:=fun ts=>chL E bl (ts.length+1) [] ts) (fun ts=>He hE hs _ _ ts) (fun n=>Lo2.len (p:=fun k=>chL E bl k []) (p':=fun k=>chL E bl k []) fun m hm k k' hk=>Qa hE lE hs h _ _ _ _ hk) s1 fun ks =>
  Lo.seq1 (Jh hs ks) (S6 hs h ks) Lv Sg
theorem Qb (op:Int) (s:List UInt8):Lo A (Mr E op s):=Lo.seq0 (Cf _).le (Lo.want _) (fun _=>(Fg hE).le.sq fun a=>Cn _) fun _=>Lo.seq0 (Fg hE).le (K5 hE lE) (fun a=>Cn _) fun a=>Lo.pure _
theorem Sk:Lo A (Mq E):=fun n=>Lo2.iaa (C6.sq2 fun s=>Hu hE _ s) (Lo.seq0 C6.le Lo.name (fun s=>(Hu hE _ s).le) (fun s=>Qb hE lE _ s) n) ((Nz hE).sq fun a=>Cn _) (Lo.seq0 (Fg hE).le (K5 hE lE) (fun a=>Cn _) (fun a=>Lo.pure _) n)
theorem lo_sm {R:SB} (hS:Iv R) (h:LoB R):Lo AT (smF E R):=by
 have t9:=M8 hE;refine Lo.alt (C6.le.sq fun s=>(Hu hE _ s).le) (Lo.seq0 C6.le Lo.name (fun s=>(Hu hE _ s).le) fun s=>Qb hE lE _ s) ?_ (.inl trivial);refine Lo.alt hS.cd.le h.cd ?_ (.inl trivial);refine Lo.alt (hE.ex.le.sq fun a=>hS.bl.le.sq fun b=>Cn _) (Lo.seq1 hE.ex.le lE.ex (fun a=>hS.bl.sq fun b=>Cn _) fun a=>Lo.seq0 hS.bl.le h.bl.wk (fun b=>Cn _) fun b=>Lo.pure _) ?_ (.inl trivial);refine Lo.alt (Snd.al (by omega) (Cn _) ((Fg hE).le.sq fun a=>Cn _)) (Lo.alt (Cn _) (Lo.pure _) (Lo.seq0 (Fg hE).le (K5 hE lE) (fun a=>Cn _) fun a=>Lo.pure _) (.inl trivial)) ?_ (.inl trivial);refine Lo.alt ((Fg hE).le.sq fun a=>Cn _) (Lo.seq0 (Fg hE).le (K5 hE lE) (fun a=>Cn _) fun a=>Lo.pure _) ?_ (.inl trivial);refine Lo.alt (hS.bl.le.sq fun a=>(Cf _).le.sq fun _=>C6.le.sq fun s=>hS.bl.le.sq fun b=>Cn _) (Lo.seq0 hS.bl.le h.bl.wk (fun a=>(Cf _).le.sq fun _=>C6.le.sq fun s=>hS.bl.le.sq fun b=>Cn _) fun a=>Lo.seq0 (Cf _).le (Lo.want _) (fun _=>C6.le.sq fun s=>hS.bl.le.sq fun b=>Cn _) fun _=>Lo.seq0 C6.le Lo.name (fun s=>hS.bl.le.sq fun b=>Cn _) fun s=>Lo.seq0 hS.bl.le h.bl.wk (fun b=>Cn _) fun b=>Lo.pure _) ?_ (.inl trivial);refine Lo.alt (hS.bl.le.sq fun a=>Cn _) (Lo.seq0 hS.bl.le h.bl.wk (fun a=>Cn _) fun a=>Lo.pure _) ?_ (.inl trivial);refine Lo.alt (C6.le.sq fun s=>(F6 hE _ s).le.sq fun a=>(Cf _).le.sq fun _=>Cn _) (Lo.seq0 C6.le Lo.name (fun s=>(F6 hE _ s).le.sq fun a=>(Cf _).le.sq fun _=>Cn _) fun s=>Lo.seq0 (F6 hE _ s).le (Ns hE lE.ex _ _) (fun a=>(Cf _).le.sq fun _=>Cn _) fun a=>Lo.seq0 (Cf _).le (Lo.want _) (fun _=>Cn _) fun _=>Lo.pure _) ?_ (.inl trivial);exact Lo.alt (Nh hE hS.bl).le (S4 hE lE hS.bl h.bl) (Sk hE lE) (.inl trivial)
theorem loB:∀ f,LoB (SBu E f)
 | 0=>⟨fun _ _ _ _ _ _ _ _ _ _ _ _ _ h=>(by cases h),fun _ _ _ _ _ _ _ _ _ _ _ _ _ h=>(by cases h),fun _ _ _ _ _ _ _ _ _ _ _ _ _ h=>(by cases h)⟩
 | f+1=>⟨lo_bl (Ky hE f) (loB f),lo_sm hE lE (Ky hE f) (loB f),lo_cd hE lE (Ky hE f) (loB f)⟩
end
section
variable {A:List UInt8→Prop}
theorem Ta:Lo A Kd:=fun n=>by
 intro pre r pre' r' b g1 g2 g3 g4 hz hA hn hr;unfold Kd at hr ⊢;cases hlit:Hl (pre++r) with
 | none=>rw [hlit] at hr; cases hr
 | some p =>
  obtain ⟨a,u⟩:=p;rw [hlit] at hr;cases hr;have e:=Jm g1 hlit;have hl:=e.1.2.1
  match pre,hz,g1,hlit,e,hl with
  | [],hz,g1,hlit,e,hl=>simp at hl; omega
  | t :: pre,hz,g1,hlit,e,hl =>
   obtain ⟨t',b',rfl,z1,z2⟩:=Zq.cons hz;have hpre:pre=[]:=by
    have:=congrArg List.length e.2
    simp only [List.tail_cons,List.cons_append,List.length_append] at this;exact List.eq_nil_of_length_eq_zero (by omega)
   subst hpre;obtain rfl:=Zq.nil z2
   have:=L9 z1 ([]++r) ([]++r')
   rw [show Hl (t ::([]++r))=_ from hlit] at this;show (match Hl (t' ::([]++r')) with | some (a,r)=>pok a r | none=>fl (t' ::([]++r')))=_;rw [this]; rfl
theorem Pf:Lo A Ib:=Lo.alt ((Gi (by decide)).le.sq fun t=>Cn _) (fun n=>Lo2.kind (by decide) (fun t=>Cn _) fun t t' z=>by
 have e:t.Int=t'.Int:=congrArg (fun x=>x.2.2) z;rw [e]; exact Lo2.pure _) Ta (.inr M3)
theorem Pv:Lo A H6:=Lo.seq0 C6.le Lo.name (fun s=>Cn _) fun s=>Lo.pure _
variable {bl:List Tk→Rs Nd} (hs:Snd 1 bl) (h:Lo AN bl)
include hs h
theorem R0 (op:Int):Lo AT (J9 bl op):=by
 unfold J9;split
 ·exact Lo.alt (hs.le.sq fun b=>Cn _) (Lo.seq0 hs.le h.wk (fun b=>Cn _) fun b=>Lo.pure _) (Lo.pure _) (.inl trivial)
 ·exact Lo.pure _
theorem Rm (op:Int):Lo A (Mw bl op):=by
 have s3:∀ (s x:List UInt8),Snd 0 (sq (J9 bl op) fun ks=>sq bl fun b=>pok (⟨op,s,0,x,ks++[b]⟩:Nd)):=fun s x=>(Jl hs op).sq fun ks=>hs.le.sq fun b=>Cn _
 exact Lo.seq0 C6.le Lo.name (fun s=>(Cf _).le.sq fun _=>C6.le.sq fun x=>(Cf _).le.sq fun _=>s3 s x) fun s =>
  Lo.seq0 (Cf _).le (Lo.want _) (fun _=>C6.le.sq fun x=>(Cf _).le.sq fun _=>s3 s x) fun _ =>
  Lo.seq0 C6.le Lo.name (fun x=>(Cf _).le.sq fun _=>s3 s x) fun x =>
  Lo.seq0 (Cf _).le (Lo.want _) (fun _=>s3 s x) fun _ =>
  Lo.seq1 (Jl hs op) (R0 hs h op) (fun ks=>hs.sq fun b=>Cn _) fun ks=>Lo.seq0 hs.le h.wk (fun b=>Cn _) fun b=>Lo.pure _
theorem Th:Lo A (Iz bl):=fun n=>Lo2.ops (ops:=G2) (p:=Mw bl) (p':=Mw bl) (q:=fl) (q':=fl) (fun ts=>rfl) (fun ts=>rfl) (fun op=>(Lh hs op).le) (fun op=>Rm hs h op _) Lo2.fail (.inr Ks)
omit hs h in
theorem Su:Lo A Mx:=Lo.seq0 C6.le Lo.name (fun s=>(Cf _).le.sq fun _=>Gr.le.sq fun a=>(Cf _).le.sq fun _=>Cn _) fun s =>
 Lo.seq0 (Cf _).le (Lo.want _) (fun _=>Gr.le.sq fun a=>(Cf _).le.sq fun _=>Cn _) fun _ =>
 Lo.seq0 Gr.le Pf (fun a=>(Cf _).le.sq fun _=>Cn _) fun a=>Lo.seq0 (Cf _).le (Lo.want _) (fun _=>Cn _) fun _=>Lo.pure _
theorem lo_fn:Lo A (fnS bl):=Lo.seq0 C6.le Lo.name (fun s=>(Cf _).le.sq fun _=>(Eo F3).le.sq fun ks=>hs.le.sq fun b=>Cn _) fun s =>
 Lo.seq0 (Cf _).le (Lo.want _) (fun _=>(Eo F3).le.sq fun ks=>hs.le.sq fun b=>Cn _) fun _ =>
 Lo.seq0 (Eo F3).le (Hn (B:=AN) F3 Pv) (fun ks=>hs.le.sq fun b=>Cn _) fun ks=>Lo.seq0 hs.le h.wk (fun b=>Cn _) fun b=>Lo.pure _
theorem Qv:Lo A (Kc bl):=by
 have s2:Snd 1 (sq (D5 [111,110]) fun _=>Iz bl):=(Cf _).sq fun _=>(Je hs).le
 have s1:Snd 1 (al [102,117,110,99] (fnS bl) <| sq (D5 [111,110]) fun _=>Iz bl):=Snd.al (by omega) (Mj hs).le s2;exact Lo.alt M1.le Su (Lo.alt (Mj hs).le (lo_fn hs h) (Lo.seq0 (Cf _).le (Lo.want _) (fun _=>(Je hs).le) fun _=>Th hs h) (.inr s2)) (.inr s1)
theorem Jq:∀ (k:Nat) (acc ks:List Nd) (pre r pre' r':List Tk),Fh (pre++r)→Fh (pre'++r')→Fh r→Fh r'→Zq pre pre'→Fy bl k acc (pre++r)=some (.ok (ks,r))→∀ k',(pre'++r').length < k'→∃ k'',r'.length < k''∧Fy bl k' acc (pre'++r')=Fy bl k'' ks r'
 | 0,acc,ks,pre,r,pre',r',g1,g2,g3,g4,hz,hr,k',hk=>by cases hr
 | k+1,acc,ks,pre,r,pre',r',g1,g2,g3,g4,hz,hr,k',hk=>by
  simp only [Fy] at hr;by_cases h0:hdK 0 (pre++r)=true
  ·rw [if_pos h0] at hr;have hpre:pre=[]:=by
    have hh:some (Except.ok (acc,pre++r))=some (Except.ok (ks,r)):=hr;injection hh with hh;injection hh with hh;injection hh with _ hh
    have:=congrArg List.length hh
    simp only [List.length_append] at this;exact List.eq_nil_of_length_eq_zero (by omega)
   subst hpre;obtain rfl:=Zq.nil hz;cases hr;exact ⟨k',by simpa using hk,rfl⟩
  ·rw [if_neg h0] at hr;obtain ⟨d,ts,hx,hy⟩:=Ha hr;have e1:Eat 1 (pre++r) ts:=Js hs _ g1 _ hx;have e2:Eat 0 ts r:=Ht hs k _ _ e1.2.2 _ hy;obtain ⟨x,hx1⟩:=e1.1;obtain ⟨y,hy1⟩:=e2.1;subst hy1;rw [← List.append_assoc] at hx1;obtain rfl:=List.append_cancel_right hx1;obtain ⟨x',y',rfl,z1,z2⟩:=Zq.app hz;rw [List.append_assoc] at g2 hk hx ⊢;have g5:Fh (y'++r'):=Fh.app g2 (by intro h; simp at h; exact g4.ne h.2);have hx':=Qv (A:=AN) hs h _ x (y++r) x' (y'++r') d (by rw [← List.append_assoc]; exact g1) g2 e1.2.2 g5 z1 (fun s h=>h.elim) (Nat.le_refl _) hx;obtain ⟨k',rfl⟩:∃ j,k'=j+1:=⟨k' - 1,by omega⟩
   have hxl:1≤x.length:=by have:=e1.2.1; simp only [List.length_append] at this; omega
   have hz0:¬ hdK 0 (x'++(y'++r'))=true:=by
    match x,hxl,z1,h0 with
    | t :: x,_,z1,h0 =>
     obtain ⟨t',b',rfl,z3,z4⟩:=Zq.cons z1;have e:t.Kind=t'.Kind:=congrArg (fun x=>x.1) z3;simpa [hdK,e] using h0
   have l1:=z1.len;obtain ⟨k'',h1,h2⟩:=Jq k _ ks y r y' r' e1.2.2 g5 g3 g4 z2 hy k' (by simp only [List.length_append] at hk ⊢; omega);refine ⟨k'',h1,?_⟩;simp only [Fy,if_neg hz0];show bnd (Kc bl (x'++(y'++r'))) _=_;rw [hx']; exact h2
omit hs h in
theorem L8:∀ (k:Nat) (a0 acc:List Nd) (ts:List Tk),Fy bl k (a0++acc) ts=match Fy bl k acc ts with
  | none=>none
  | some (.error e)=>some (.error e)
  | some (.ok (l,us))=>some (.ok (a0++l,us))
 | 0,a0,acc,ts=>rfl
 | k+1,a0,acc,ts=>by
  simp only [Fy];by_cases h0:hdK 0 ts=true
  ·rw [if_pos h0,if_pos h0]
  ·rw [if_neg h0,if_neg h0];unfold sq;cases Kc bl ts with
   | none=>rfl
   | some x =>
    match x with
    | .error e=>rfl
    | .ok (d,us) =>
     show Fy bl k (a0++acc++[d]) us=_;rw [List.append_assoc];exact L8 k a0 (acc++[d]) us
end
end Go.Proofs.YtifjagfmfkemmaaGreatDoor
