import Derived.Test.YtifjagfmfkemmaaGreatDoorLwS
set_option linter.unusedVariables false
set_option linter.unusedSimpArgs false
set_option maxHeartbeats 4000000
namespace Go.Proofs.YtifjagfmfkemmaaGreatDoor
open Eng Go
theorem Kz (op:Int) (s:List UInt8) (a b:Nd):nsz ⟨op,s,0,[],[a,b]⟩=nsz a+nsz b+1:=by simp [nsz,lsz]
theorem H9 (op:Int) (s:List UInt8) (a:Nd):nsz ⟨op,s,0,[],[a]⟩=nsz a+1:=by simp [nsz,lsz]
theorem Py (op:Int) (s:List UInt8) (a b c:Nd):nsz ⟨op,s,0,[],[a,b,c]⟩=nsz a+nsz b+nsz c+1:=by simp [nsz,lsz]; omega
theorem L1 (op:Int) (s x:List UInt8) (l:List Nd):nsz ⟨op,s,0,x,l⟩=lsz l+1:=by simp [nsz]
theorem S_set {op:Int} (h:op=40∨op=41) {s:List UInt8} (hs:Nm s) {a:Nd} (ha:IsE a):IsS ⟨op,s,0,[],[a]⟩:=by
 rw [G5]; unfold SX; simp [Es,ha,h,hs]
theorem Pn {op:Int} (h:op=45∨op=52∨op=44) {a:Nd} (ha:IsE a):IsS (nd op [a]):=by
 rw [G5]; unfold SX; rcases h with h | h | h <;> simp [Es,ha,h]
theorem S_if2 {a b:Nd} (ha:IsE a) (hb:IsB b):IsS (nd 42 [a,b]):=by
 rw [G5]; unfold SX; simp [I3,I2,I1,ha,hb]
theorem Rv {a b c:Nd} (ha:IsE a) (hb:IsB b) (hc:IsB c∨c.Op=42∧IsS c):IsS (nd 42 [a,b,c]):=by
 rw [G5]; unfold SX; simp only [nd,I3,I2,I1]; simp [ha,hb,hc]
theorem Qu {a b:Nd} (ha:IsE a) (hb:IsB b):IsS (nd 43 [a,b]):=by
 rw [G5]; unfold SX; simp [W2,Bs,ha,hb]
theorem S_try {s:List UInt8} (hs:Nm s) {a b:Nd} (ha:IsB a) (hb:IsB b):IsS ⟨46,s,0,[],[a,b]⟩:=by
 rw [G5]; unfold SX; simp [Bs,ha,hb,hs]
theorem Sc {a:Nd} (ha:IsB a):IsS (nd 47 [a]):=by
 rw [G5]; unfold SX; simp [Bs,ha]
theorem R7 {s:List UInt8} (hs:Nm s) {l:List Nd} (hl:∀ x∈l,IsE x):IsS ⟨48,s,0,[],l⟩:=by
 rw [← Kt] at hl;rw [G5]; unfold SX; simp [hl,hs]
theorem Ot {l:List Nd} (h:l≠[]) (hl:Cs l 16):IsS (nd 49 l):=by
 rw [G5]; unfold SX; simp [hl,h]
theorem R8 {s:List UInt8} (hs:s=[]∨Nm s) {a b:Nd} (ha:IsE a) (hb:IsB b):IsC ⟨50,s,0,[],[a,b]⟩:=by
 rw [Rz]; simp [W2,Bs,ha,hb,hs]
theorem S8 {b:Nd} (hb:IsB b):IsZ (nd 51 [b]):=by
 rw [R3]; simp [Bs,hb]
theorem On:∀ {l:List Nd} {r:Nat},(∀ x∈l,IsC x)→l.length≤r→Cs l r
 | [],r,h,hr=>by simp [Cs]
 | x :: l,r,h,hr=>by
  rw [List.length_cons] at hr;rw [Cs];exact .inr ⟨by omega,h x (.head _),On (fun y m=>h y (.tail _ m)) (by omega)⟩
theorem Rg {l:List Nd} (h:∀ x∈l,IsS x):IsB (nd 53 l):=by
 rw [← O4] at h;rw [S0]; exact ⟨rfl,rfl,rfl,rfl,h⟩
theorem Jj {P:Nd→Prop} {l:List Nd} {a:Nd} (h:∀ x∈l,P x) (ha:P a):∀ x∈l++[a],P x:=by
 intro x hx;rcases List.mem_append.1 hx with hx | hx
 ·exact h x hx
 ·rw [List.mem_singleton.1 hx]; exact ha
structure Qq (R:SB):Prop where
 bl:Vl IsB nsz 0 R.bl
 sm:Vl IsS nsz 0 R.sm
 cd:Vl (fun a=>IsS a∧a.Op=42) nsz 1 R.cd
section
variable {E:SP} (hE:Od E)
include hE
theorem K2:Vl IsE (fun a=>nsz a+1) 0 (I9 E):=Vl.sq hE.ex fun a ha=>Vl.sq (Ff _) fun _ _=>Vl.ok ha (by (try dsimp only); omega)
omit hE in
theorem Kn {sm:List Tk→Rs Nd} (h:Vl IsS nsz 0 sm):∀ (k:Nat) (acc:List Nd),(∀ x∈acc,IsS x)→Vl (fun l=>∀ x∈l,IsS x) lsz (lsz acc) (Gh sm k acc)
 | 0,acc,ha=>fun ts b us ht hr=>by cases hr
 | k+1,acc,ha=>Vl.al (Vl.ok ha (by omega)) (Vl.sq h fun a hp=>(Kn h k _ (Jj ha hp)).le (by rw [Gk,G1]; omega))
omit hE in
theorem vl_bl {R:SB} (h:Qq R):Vl IsB nsz 0 (blF R):=Vl.sq (Ff _) fun _ _=>Vl.sq (w:=lsz) (fun ts=>Kn h.sm _ [] (by simp) ts) fun ks hk=>Vl.ok (Rg hk) (by rw [L1]; (try dsimp only); omega)
theorem vl_cd {R:SB} (h:Qq R):Vl (fun a=>IsS a∧a.Op=42) nsz 1 (cdF E R):=Vl.sq hE.ex fun a ha=>Vl.sq h.bl fun b hb =>
 Vl.al (Vl.al (Vl.sq' (P:=fun a=>IsS a∧a.Op=42) (w:=fun c=>nsz c+(nsz b+(nsz a+1)+1)) (fun ts c us ht h'=>by obtain ⟨h1,h2,h3⟩:=h.cd ts c us ht h'; exact ⟨h1,by (try dsimp only); omega,h3⟩) fun c hc=>Vl.ok ⟨Rv ha hb (.inr ⟨hc.2,hc.1⟩),rfl⟩ (by rw [Py]; (try dsimp only); omega))
  (Vl.sq h.bl fun c hc=>Vl.ok ⟨Rv ha hb (.inl hc),rfl⟩ (by rw [Py]; omega))) (Vl.ok ⟨S_if2 ha hb,rfl⟩ (by rw [Kz]; omega))
theorem Nc {bl:List Tk→Rs Nd} (h:Vl IsB nsz 0 bl) {s:List UInt8} (hs:s=[]∨Nm s):Vl IsC nsz 1 (Jn E bl s):=Vl.sq hE.ex fun a ha=>Vl.sq h fun b hb=>Vl.ok (R8 hs ha hb) (by rw [Kz]; omega)
theorem Ra {bl:List Tk→Rs Nd} (h:Vl IsB nsz 0 bl):Vl IsC nsz 1 (Ja E bl):=Vl.ia (Vl.sq Gc fun s hs=>Vl.sq (Ff _) fun _ _=>(Nc hE h (.inr hs)).le (by (try dsimp only); omega)) (Nc hE h (.inl rfl))
theorem P5 {bl:List Tk→Rs Nd} (h:Vl IsB nsz 0 bl):∀ (k:Nat) (acc:List Nd),(∀ x∈acc,IsC x)→acc.length≤16→Vl (fun l=>(∀ x∈l,IsC x)∧l.length≤16) lsz (lsz acc) (chL E bl k acc)
 | 0,acc,ha,hl=>fun ts b us ht hr=>by cases hr
 | k+1,acc,ha,hl=>fun ts b us ht hr=>by
  simp only [chL] at hr;split at hr
  ·split at hr
   ·cases hr
   ·rename_i hs hn;refine Vl.is (p:=sq (Ja E bl) (fun a=>chL E bl k (acc++[a]))) (Vl.sq' (P:=IsC) (w:=fun a=>nsz a+lsz acc) (fun ts c us ht h'=>?_) fun a hp=>(P5 h k _ (Jj ha hp) (by simp; omega)).le (by rw [Gk,G1]; (try dsimp only); omega)) ht hs hr;obtain ⟨h1,h2,h3⟩:=Ra hE h ts c us ht h'; exact ⟨h1,by (try dsimp only); omega,h3⟩
  ·cases hr; exact ⟨List.suffix_refl _,by omega,ha,hl⟩
omit hE in
theorem Sp {bl:List Tk→Rs Nd} (h:Vl IsB nsz 0 bl) {ks:List Nd} (hk:∀ x∈ks,IsC x) (hl:ks.length≤16):Vl (fun l=>Cs l 16) lsz (lsz ks) (elS bl ks) :=
 Vl.al (Vl.sq h fun b hb=>Vl.ok ((My _ _ _).2 ⟨.inl ⟨S8 hb,hl⟩,hk⟩) (by rw [Gk,G1,H9]; omega)) (Vl.ok (On hk hl) (by omega))
omit hE in
theorem S9 {ks:List Nd} (hk:Cs ks 16):Vl IsS nsz (lsz ks+1) (chE ks):=by
 unfold chE;split
 ·exact Vl.fl
 ·rename_i hn;exact Vl.sq (Ff _) fun _ _=>Vl.ok (Ot (by intro e; subst e; exact hn rfl) hk) (by rw [L1]; (try dsimp only); omega)
theorem Sw {bl:List Tk→Rs Nd} (h:Vl IsB nsz 0 bl):Vl IsS nsz 0 (chS E bl):=Vl.sq (Ff _) fun _ _=>Vl.sq (w:=lsz) (fun ts=>P5 hE h _ [] (by simp) (by simp) ts) fun ks hk =>
 Vl.sq' (P:=fun l=>Cs l 16) (w:=fun l=>lsz l+1) (fun ts c us ht h'=>by obtain ⟨h1,h2,h3⟩:=Sp h hk.1 hk.2 ts c us ht h'; exact ⟨h1,by (try dsimp only); omega,h3⟩) fun ks hk=>S9 hk
theorem P7 {op:Int} (h:op=40∨op=41) {s:List UInt8} (hs:Nm s):Vl IsS nsz 0 (Mr E op s):=Vl.sq (Ff _) fun _ _=>Vl.sq (K2 hE) fun a ha=>Vl.ok (S_set h hs ha) (by rw [H9]; (try dsimp only); omega)
theorem Sq:Vl IsS nsz 0 (Mq E):=Vl.ia (Vl.sq Gc fun s hs=>(P7 hE (.inr rfl) hs).le (by omega)) (Vl.sq (K2 hE) fun a ha=>Vl.ok (Pn (by decide) ha) (by rw [H9]; (try dsimp only); omega))
theorem vl_sm {R:SB} (h:Qq R):Vl IsS nsz 0 (smF E R) :=
 Vl.al (Vl.sq Gc fun s hs=>(P7 hE (.inl rfl) hs).le (by omega)) <|
 Vl.al (h.cd.mono fun a h=>h.1) <|
 Vl.al (Vl.sq hE.ex fun a ha=>Vl.sq h.bl fun b hb=>Vl.ok (Qu ha hb) (by rw [Kz]; omega)) <|
 Vl.al (Vl.al (Vl.ok (by rw [G5]; unfold SX; simp [Es]) (by simp [nsz,lsz])) (Vl.sq (K2 hE) fun a ha=>Vl.ok (Pn (by decide) ha) (by rw [H9]; (try dsimp only); omega))) <|
 Vl.al (Vl.sq (K2 hE) fun a ha=>Vl.ok (Pn (by decide) ha) (by rw [H9]; (try dsimp only); omega)) <|
 Vl.al (Vl.sq h.bl fun a ha=>Vl.sq (Ff _) fun _ _=>Vl.sq Gc fun s hs=>Vl.sq h.bl fun b hb=>Vl.ok (S_try hs ha hb) (by rw [Kz]; (try dsimp only); omega)) <|
 Vl.al (Vl.sq h.bl fun a ha=>Vl.ok (Sc ha) (by rw [H9]; omega)) <|
 Vl.al (Vl.sq Gc fun s hs=>Vl.sq (J7 hE (P:=IsS) 48 fun l hl=>R7 hs hl) fun a ha=>Vl.sq (Ff _) fun _ _=>Vl.ok ha (by omega)) <|
 Vl.al ((Sw hE h.bl).le (by omega)) (Sq hE)
theorem Q2:∀ f,Qq (SBu E f)
 | 0=>⟨fun _ _ _ _ h=>(by cases h),fun _ _ _ _ h=>(by cases h),fun _ _ _ _ h=>(by cases h)⟩
 | f+1=>⟨vl_bl (Q2 f),vl_sm hE (Q2 f),vl_cd hE (Q2 f)⟩
end
theorem Q4:Vl (fun a=>IsE a∧1≤a.Op∧a.Op≤5) nsz 0 Kd:=fun ts a us ht hr=>by
 unfold Kd at hr;split at hr
 ·rename_i hl;cases hr;obtain ⟨h1,h2,h3⟩:=Pg ht hl;exact ⟨h1,by omega,h3⟩
 ·cases hr
theorem Qc:Vl IsK nsz 0 Ib:=Vl.al (Vl.sq (Ji 3) fun t h=>Vl.ok ⟨Na (by decide) (by rw [Gw]; unfold EX; simp [h.1.2.2 h.2]),.inr ⟨rfl,rfl⟩⟩ (by simp [nsz,lsz])) (Q4.mono fun a h=>⟨h.1,.inl h.2⟩)
theorem Qi:Vl (fun y=>y.Op=6∧IsE y) nsz 0 H6:=Vl.sq Gc fun s hs=>Vl.ok ⟨rfl,Qe hs⟩ (by simp [nsz,lsz])
theorem D_var {s:List UInt8} (hs:Nm s) {a:Nd} (ha:IsK a):IsD ⟨61,s,0,[],[a]⟩:=⟨hs,rfl,.inl ⟨rfl,rfl,rfl,ha⟩⟩
theorem D_fn {s:List UInt8} (hs:Nm s) {l:List Nd} (hl:∀ y∈l,y.Op=6∧IsE y) {b:Nd} (hb:IsB b):IsD ⟨62,s,0,[],l++[b]⟩:=⟨hs,rfl,.inr (.inl ⟨rfl,rfl,Td.2 ⟨hb,hl⟩⟩)⟩
theorem Ri {ts:List Tk} {op:Int} (h:Ev G2 ts=some op):op=63∨op=64∨op=65:=by
 simp only [G2,Ev] at h
 repeat' split at h
 all_goals cases h
 all_goals decide
section
variable {bl:List Tk→Rs Nd} (h:Vl IsB nsz 0 bl)
include h
theorem Te (op:Int):Vl (fun l=>(l=[]∨(op=65∧l.length=1))∧∀ x∈l,IsB x) lsz 0 (J9 bl op):=by
 unfold J9;split
 ·exact Vl.al (Vl.sq h fun b hb=>Vl.ok ⟨.inr ⟨by assumption,rfl⟩,by simpa using hb⟩ (by rw [G1]; omega)) (Vl.ok ⟨.inl rfl,by simp⟩ (by simp [lsz]))
 ·exact Vl.ok ⟨.inl rfl,by simp⟩ (by simp [lsz])
theorem Q0 {op:Int} (ho:op=63∨op=64∨op=65):Vl IsD nsz 0 (Mw bl op):=Vl.sq Gc fun s hs=>Vl.sq (Ff _) fun _ _=>Vl.sq Gc fun x hx=>Vl.sq (Ff _) fun _ _=>Vl.sq (Te h op) fun ks hk=>Vl.sq h fun b hb=>Vl.ok (by
  have hB:Bs (ks++[b]):=(Pu _).2 (Jj hk.2 hb);refine ⟨hs,rfl,?_⟩;rcases hk.1 with e |⟨e,e2⟩
  ·subst e;rcases ho with e | e | e
   ·exact .inr (.inr (.inl ⟨.inl e,hx,rfl,hB⟩))
   ·exact .inr (.inr (.inl ⟨.inr e,hx,rfl,hB⟩))
   ·exact .inr (.inr (.inr ⟨e,hx,by simp,by simp,hB⟩))
  ·exact .inr (.inr (.inr ⟨e,hx,by simp; omega,by simp; omega,hB⟩))) (by rw [L1,Gk,G1]; (try dsimp only); omega)
theorem Sl:Vl IsD nsz 0 (Iz bl):=fun ts a us ht hr=>by
 unfold Iz at hr;split at hr
 ·cases hr
 ·rename_i ho;obtain ⟨s,hs⟩:=E4 ho;exact Vl.is ((Q0 h (Ri ho)).le (by omega)) ht hs hr
omit h in
theorem Sb:Vl IsD nsz 0 Mx:=Vl.sq Gc fun s hs=>Vl.sq (Ff _) fun _ _=>Vl.sq Qc fun a ha=>Vl.sq (Ff _) fun _ _=>Vl.ok (D_var hs ha) (by rw [H9]; (try dsimp only); omega)
theorem vl_fn:Vl IsD nsz 0 (fnS bl):=Vl.sq Gc fun s hs=>Vl.sq (Ff _) fun _ _=>Vl.sq (Ir Qi) fun ks hk=>Vl.sq h fun b hb=>Vl.ok (D_fn hs hk hb) (by rw [L1,Gk,G1]; (try dsimp only); omega)
theorem Q3:Vl IsD nsz 0 (Kc bl):=Vl.al (Sb.le (by omega)) <| Vl.al ((vl_fn h).le (by omega)) <| Vl.sq (Ff _) fun _ _=>(Sl h).le (by omega)
theorem Lr:∀ (k:Nat) (acc:List Nd),(∀ x∈acc,IsD x)→Vl (fun l=>∀ x∈l,IsD x) lsz (lsz acc) (Fy bl k acc)
 | 0,acc,ha=>fun ts b us ht hr=>by cases hr
 | k+1,acc,ha=>fun ts b us ht hr=>by
  simp only [Fy] at hr;split at hr
  ·cases hr; exact ⟨List.suffix_refl _,by omega,ha⟩
  ·exact Vl.sq (Q3 h) (fun a hp=>(Lr k _ (Jj ha hp)).le (by rw [Gk,G1]; omega)) ts b us ht hr
def PRs (a:Nd):Prop:=a.Op=60∧a.Name=[]∧a.Int=0∧a.Text=[]∧∀ x∈a.Kids,IsD x
theorem Qs:Vl PRs nsz 1 (Lp bl):=Vl.sq (w:=lsz) (fun ts=>Lr h _ [] (by simp) ts) fun ks hk=>Vl.ok ⟨rfl,rfl,rfl,rfl,hk⟩ (by rw [L1]; omega)
end
end Go.Proofs.YtifjagfmfkemmaaGreatDoor
