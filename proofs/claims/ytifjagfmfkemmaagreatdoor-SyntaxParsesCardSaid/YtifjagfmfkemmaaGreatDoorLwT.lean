import Derived.Test.YtifjagfmfkemmaaGreatDoorLwS
set_option linter.unusedVariables false
set_option linter.unusedSimpArgs false
set_option maxHeartbeats 4000000
namespace Go.Proofs.YtifjagfmfkemmaaGreatDoor
open Eng Go
theorem M8 (op:Int) (s:List UInt8) (a b:Nd):nsz ⟨op,s,0,[],[a,b]⟩=nsz a+nsz b+1:=by simp [nsz,lsz]
theorem Jw (op:Int) (s:List UInt8) (a:Nd):nsz ⟨op,s,0,[],[a]⟩=nsz a+1:=by simp [nsz,lsz]
theorem Su (op:Int) (s:List UInt8) (a b c:Nd):nsz ⟨op,s,0,[],[a,b,c]⟩=nsz a+nsz b+nsz c+1:=by simp [nsz,lsz]; omega
theorem Nb (op:Int) (s x:List UInt8) (l:List Nd):nsz ⟨op,s,0,x,l⟩=lsz l+1:=by simp [nsz]
theorem S_set {op:Int} (h:op=40∨op=41) {s:List UInt8} (hs:Nm s) {a:Nd} (ha:IsE a):IsS ⟨op,s,0,[],[a]⟩:=by
 rw [H9]; unfold SX; simp [Es,ha,h,hs]
theorem Tm {op:Int} (h:op=45∨op=52∨op=44) {a:Nd} (ha:IsE a):IsS (nd op [a]):=by
 rw [H9]; unfold SX; rcases h with h | h | h <;> simp [Es,ha,h]
theorem S_if2 {a b:Nd} (ha:IsE a) (hb:IsB b):IsS (nd 42 [a,b]):=by
 rw [H9]; unfold SX; simp [I3,I2,I1,ha,hb]
theorem Vk {a b c:Nd} (ha:IsE a) (hb:IsB b) (hc:IsB c∨c.Op=42∧IsS c):IsS (nd 42 [a,b,c]):=by
 rw [H9]; unfold SX; simp only [nd,I3,I2,I1]; simp [ha,hb,hc]
theorem Uw {a b:Nd} (ha:IsE a) (hb:IsB b):IsS (nd 43 [a,b]):=by
 rw [H9]; unfold SX; simp [W2,Bs,ha,hb]
theorem S_try {s:List UInt8} (hs:Nm s) {a b:Nd} (ha:IsB a) (hb:IsB b):IsS ⟨46,s,0,[],[a,b]⟩:=by
 rw [H9]; unfold SX; simp [Bs,ha,hb,hs]
theorem We {a:Nd} (ha:IsB a):IsS (nd 47 [a]):=by
 rw [H9]; unfold SX; simp [Bs,ha]
theorem W0 {s:List UInt8} (hs:Nm s) {l:List Nd} (hl:∀ x∈l,IsE x):IsS ⟨48,s,0,[],l⟩:=by
 rw [← Lx] at hl;rw [H9]; unfold SX; simp [hl,hs]
theorem Sn {l:List Nd} (h:l≠[]) (hl:Cs l 16):IsS (nd 49 l):=by
 rw [H9]; unfold SX; simp [hl,h]
theorem V6 {s:List UInt8} (hs:s=[]∨Nm s) {a b:Nd} (ha:IsE a) (hb:IsB b):IsC ⟨50,s,0,[],[a,b]⟩:=by
 rw [O3]; simp [W2,Bs,ha,hb,hs]
theorem Wx {b:Nd} (hb:IsB b):IsZ (nd 51 [b]):=by
 rw [O6]; simp [Bs,hb]
theorem Sg:∀ {l:List Nd} {r:Nat},(∀ x∈l,IsC x)→l.length≤r→Cs l r
 | [],r,h,hr=>by simp [Cs]
 | x :: l,r,h,hr=>by
  rw [List.length_cons] at hr;rw [Cs];exact .inr ⟨by omega,h x (.head _),Sg (fun y m=>h y (.tail _ m)) (by omega)⟩
theorem U6 {l:List Nd} (h:∀ x∈l,IsS x):IsB (nd 53 l):=by
 rw [← Oy] at h;rw [S7]; exact ⟨rfl,rfl,rfl,rfl,h⟩
theorem K1 {P:Nd→Prop} {l:List Nd} {a:Nd} (h:∀ x∈l,P x) (ha:P a):∀ x∈l++[a],P x:=by
 intro x hx;rcases List.mem_append.1 hx with hx | hx
 ·exact h x hx
 ·rw [List.mem_singleton.1 hx]; exact ha
structure Tu (R:SB):Prop where
 bl:Vl IsB nsz 0 R.bl
 sm:Vl IsS nsz 0 R.sm
 cd:Vl (fun a=>IsS a∧a.Op=42) nsz 1 R.cd
section
variable {E:SP} (hE:Qz E)
include hE
theorem Mz:Vl IsE (fun a=>nsz a+1) 0 (J6 E):=Vl.sq hE.ex fun a ha=>Vl.sq (F8 _) fun _ _=>Vl.ok ha (by (try dsimp only); omega)
omit hE in
theorem L9 {sm:List Tk→Rs Nd} (h:Vl IsS nsz 0 sm):∀ (k:Nat) (acc:List Nd),(∀ x∈acc,IsS x)→Vl (fun l=>∀ x∈l,IsS x) lsz (lsz acc) (Ib sm k acc)
 | 0,acc,ha=>fun ts b us ht hr=>by cases hr
 | k+1,acc,ha=>Vl.al (Vl.ok ha (by omega)) (Vl.sq h fun a hp=>(L9 h k _ (K1 ha hp)).le (by rw [Hp,Ik]; omega))
omit hE in
theorem vl_bl {R:SB} (h:Tu R):Vl IsB nsz 0 (blF R):=Vl.sq (F8 _) fun _ _=>Vl.sq (w:=lsz) (fun ts=>L9 h.sm _ [] (by simp) ts) fun ks hk=>Vl.ok (U6 hk) (by rw [Nb]; (try dsimp only); omega)
theorem vl_cd {R:SB} (h:Tu R):Vl (fun a=>IsS a∧a.Op=42) nsz 1 (cdF E R):=Vl.sq hE.ex fun a ha=>Vl.sq h.bl fun b hb =>
 Vl.al (Vl.al (Vl.sq' (P:=fun a=>IsS a∧a.Op=42) (w:=fun c=>nsz c+(nsz b+(nsz a+1)+1)) (fun ts c us ht h'=>by obtain ⟨h1,h2,h3⟩:=h.cd ts c us ht h'; exact ⟨h1,by (try dsimp only); omega,h3⟩) fun c hc=>Vl.ok ⟨Vk ha hb (.inr ⟨hc.2,hc.1⟩),rfl⟩ (by rw [Su]; (try dsimp only); omega))
  (Vl.sq h.bl fun c hc=>Vl.ok ⟨Vk ha hb (.inl hc),rfl⟩ (by rw [Su]; omega))) (Vl.ok ⟨S_if2 ha hb,rfl⟩ (by rw [M8]; omega))
theorem Px {bl:List Tk→Rs Nd} (h:Vl IsB nsz 0 bl) {s:List UInt8} (hs:s=[]∨Nm s):Vl IsC nsz 1 (Kj E bl s):=Vl.sq hE.ex fun a ha=>Vl.sq h fun b hb=>Vl.ok (V6 hs ha hb) (by rw [M8]; omega)
theorem Uu {bl:List Tk→Rs Nd} (h:Vl IsB nsz 0 bl):Vl IsC nsz 1 (Ln E bl):=Vl.ia (Vl.sq Hc fun s hs=>Vl.sq (F8 _) fun _ _=>(Px hE h (.inr hs)).le (by (try dsimp only); omega)) (Px hE h (.inl rfl))
theorem R3 {bl:List Tk→Rs Nd} (h:Vl IsB nsz 0 bl):∀ (k:Nat) (acc:List Nd),(∀ x∈acc,IsC x)→acc.length≤16→Vl (fun l=>(∀ x∈l,IsC x)∧l.length≤16) lsz (lsz acc) (chL E bl k acc)
 | 0,acc,ha,hl=>fun ts b us ht hr=>by cases hr
 | k+1,acc,ha,hl=>fun ts b us ht hr=>by
  simp only [chL] at hr;split at hr
  ·split at hr
   ·cases hr
   ·rename_i hs hn;refine Vl.is (p:=sq (Ln E bl) (fun a=>chL E bl k (acc++[a]))) (Vl.sq' (P:=IsC) (w:=fun a=>nsz a+lsz acc) (fun ts c us ht h'=>?_) fun a hp=>(R3 h k _ (K1 ha hp) (by simp; omega)).le (by rw [Hp,Ik]; (try dsimp only); omega)) ht hs hr;obtain ⟨h1,h2,h3⟩:=Uu hE h ts c us ht h'; exact ⟨h1,by (try dsimp only); omega,h3⟩
  ·cases hr; exact ⟨List.suffix_refl _,by omega,ha,hl⟩
omit hE in
theorem V8 {bl:List Tk→Rs Nd} (h:Vl IsB nsz 0 bl) {ks:List Nd} (hk:∀ x∈ks,IsC x) (hl:ks.length≤16):Vl (fun l=>Cs l 16) lsz (lsz ks) (elS bl ks) :=
 Vl.al (Vl.sq h fun b hb=>Vl.ok ((M9 _ _ _).2 ⟨.inl ⟨Wx hb,hl⟩,hk⟩) (by rw [Hp,Ik,Jw]; omega)) (Vl.ok (Sg hk hl) (by omega))
omit hE in
theorem Xa {ks:List Nd} (hk:Cs ks 16):Vl IsS nsz (lsz ks+1) (chE ks):=by
 unfold chE;split
 ·exact Vl.fl
 ·rename_i hn;exact Vl.sq (F8 _) fun _ _=>Vl.ok (Sn (by intro e; subst e; exact hn rfl) hk) (by rw [Nb]; (try dsimp only); omega)
theorem Xi {bl:List Tk→Rs Nd} (h:Vl IsB nsz 0 bl):Vl IsS nsz 0 (chS E bl):=Vl.sq (F8 _) fun _ _=>Vl.sq (w:=lsz) (fun ts=>R3 hE h _ [] (by simp) (by simp) ts) fun ks hk =>
 Vl.sq' (P:=fun l=>Cs l 16) (w:=fun l=>lsz l+1) (fun ts c us ht h'=>by obtain ⟨h1,h2,h3⟩:=V8 h hk.1 hk.2 ts c us ht h'; exact ⟨h1,by (try dsimp only); omega,h3⟩) fun ks hk=>Xa hk
theorem Se {op:Int} (h:op=40∨op=41) {s:List UInt8} (hs:Nm s):Vl IsS nsz 0 (M7 E op s):=Vl.sq (F8 _) fun _ _=>Vl.sq (Mz hE) fun a ha=>Vl.ok (S_set h hs ha) (by rw [Jw]; (try dsimp only); omega)
theorem Wj:Vl IsS nsz 0 (N2 E):=Vl.ia (Vl.sq Hc fun s hs=>(Se hE (.inr rfl) hs).le (by omega)) (Vl.sq (Mz hE) fun a ha=>Vl.ok (Tm (by decide) ha) (by rw [Jw]; (try dsimp only); omega))
theorem vl_sm {R:SB} (h:Tu R):Vl IsS nsz 0 (smF E R) :=
 Vl.al (Vl.sq Hc fun s hs=>(Se hE (.inl rfl) hs).le (by omega)) <|
 Vl.al (h.cd.mono fun a h=>h.1) <|
 Vl.al (Vl.sq hE.ex fun a ha=>Vl.sq h.bl fun b hb=>Vl.ok (Uw ha hb) (by rw [M8]; omega)) <|
 Vl.al (Vl.al (Vl.ok (by rw [H9]; unfold SX; simp [Es]) (by simp [nsz,lsz])) (Vl.sq (Mz hE) fun a ha=>Vl.ok (Tm (by decide) ha) (by rw [Jw]; (try dsimp only); omega))) <|
 Vl.al (Vl.sq (Mz hE) fun a ha=>Vl.ok (Tm (by decide) ha) (by rw [Jw]; (try dsimp only); omega)) <|
 Vl.al (Vl.sq h.bl fun a ha=>Vl.sq (F8 _) fun _ _=>Vl.sq Hc fun s hs=>Vl.sq h.bl fun b hb=>Vl.ok (S_try hs ha hb) (by rw [M8]; (try dsimp only); omega)) <|
 Vl.al (Vl.sq h.bl fun a ha=>Vl.ok (We ha) (by rw [Jw]; omega)) <|
 Vl.al (Vl.sq Hc fun s hs=>Vl.sq (Lg hE (P:=IsS) 48 fun l hl=>W0 hs hl) fun a ha=>Vl.sq (F8 _) fun _ _=>Vl.ok ha (by omega)) <|
 Vl.al ((Xi hE h.bl).le (by omega)) (Wj hE)
theorem Ur:∀ f,Tu (SBu E f)
 | 0=>⟨fun _ _ _ _ h=>(by cases h),fun _ _ _ _ h=>(by cases h),fun _ _ _ _ h=>(by cases h)⟩
 | f+1=>⟨vl_bl (Ur f),vl_sm hE (Ur f),vl_cd hE (Ur f)⟩
end
theorem U7:Vl (fun a=>IsE a∧1≤a.Op∧a.Op≤5) nsz 0 Mw:=fun ts a us ht hr=>by
 unfold Mw at hr;split at hr
 ·rename_i hl;cases hr;obtain ⟨h1,h2,h3⟩:=Rc ht hl;exact ⟨h1,by omega,h3⟩
 ·cases hr
theorem Sv:Vl IsK nsz 0 Jt:=Vl.al (Vl.sq (Kz 3) fun t h=>Vl.ok ⟨Pj (by decide) (by rw [Ho]; unfold EX; simp [h.1.2.2 h.2]),.inr ⟨rfl,rfl⟩⟩ (by simp [nsz,lsz])) (U7.mono fun a h=>⟨h.1,.inl h.2⟩)
theorem Tf:Vl (fun y=>y.Op=6∧IsE y) nsz 0 H7:=Vl.sq Hc fun s hs=>Vl.ok ⟨rfl,S8 hs⟩ (by simp [nsz,lsz])
theorem D_var {s:List UInt8} (hs:Nm s) {a:Nd} (ha:IsK a):IsD ⟨61,s,0,[],[a]⟩:=⟨hs,rfl,.inl ⟨rfl,rfl,rfl,ha⟩⟩
theorem D_fn {s:List UInt8} (hs:Nm s) {l:List Nd} (hl:∀ y∈l,y.Op=6∧IsE y) {b:Nd} (hb:IsB b):IsD ⟨62,s,0,[],l++[b]⟩:=⟨hs,rfl,.inr (.inl ⟨rfl,rfl,S6.2 ⟨hb,hl⟩⟩)⟩
theorem U5 {ts:List Tk} {op:Int} (h:Fl Ii ts=some op):op=63∨op=64∨op=65:=by
 simp only [Ii,Fl] at h
 repeat' split at h
 all_goals cases h
 all_goals decide
section
variable {bl:List Tk→Rs Nd} (h:Vl IsB nsz 0 bl)
include h
theorem Wo (op:Int):Vl (fun l=>(l=[]∨(op=65∧l.length=1))∧∀ x∈l,IsB x) lsz 0 (Ls bl op):=by
 unfold Ls;split
 ·exact Vl.al (Vl.sq h fun b hb=>Vl.ok ⟨.inr ⟨by assumption,rfl⟩,by simpa using hb⟩ (by rw [Ik]; omega)) (Vl.ok ⟨.inl rfl,by simp⟩ (by simp [lsz]))
 ·exact Vl.ok ⟨.inl rfl,by simp⟩ (by simp [lsz])
theorem Vc {op:Int} (ho:op=63∨op=64∨op=65):Vl IsD nsz 0 (Rb bl op):=Vl.sq Hc fun s hs=>Vl.sq (F8 _) fun _ _=>Vl.sq Hc fun x hx=>Vl.sq (F8 _) fun _ _=>Vl.sq (Wo h op) fun ks hk=>Vl.sq h fun b hb=>Vl.ok (by
  have hB:Bs (ks++[b]):=(Oj _).2 (K1 hk.2 hb);refine ⟨hs,rfl,?_⟩;rcases hk.1 with e |⟨e,e2⟩
  ·subst e;rcases ho with e | e | e
   ·exact .inr (.inr (.inl ⟨.inl e,hx,rfl,hB⟩))
   ·exact .inr (.inr (.inl ⟨.inr e,hx,rfl,hB⟩))
   ·exact .inr (.inr (.inr ⟨e,hx,by simp,by simp,hB⟩))
  ·exact .inr (.inr (.inr ⟨e,hx,by simp; omega,by simp; omega,hB⟩))) (by rw [Nb,Hp,Ik]; (try dsimp only); omega)
theorem W1:Vl IsD nsz 0 (Ko bl):=fun ts a us ht hr=>by
 unfold Ko at hr;split at hr
 ·cases hr
 ·rename_i ho;obtain ⟨s,hs⟩:=F0 ho;exact Vl.is ((Vc h (U5 ho)).le (by omega)) ht hs hr
omit h in
theorem V1:Vl IsD nsz 0 Nx:=Vl.sq Hc fun s hs=>Vl.sq (F8 _) fun _ _=>Vl.sq Sv fun a ha=>Vl.sq (F8 _) fun _ _=>Vl.ok (D_var hs ha) (by rw [Jw]; (try dsimp only); omega)
theorem vl_fn:Vl IsD nsz 0 (fnS bl):=Vl.sq Hc fun s hs=>Vl.sq (F8 _) fun _ _=>Vl.sq (J4 Tf) fun ks hk=>Vl.sq h fun b hb=>Vl.ok (D_fn hs hk hb) (by rw [Nb,Hp,Ik]; (try dsimp only); omega)
theorem Tx:Vl IsD nsz 0 (Qc bl):=Vl.al (V1.le (by omega)) <| Vl.al ((vl_fn h).le (by omega)) <| Vl.sq (F8 _) fun _ _=>(W1 h).le (by omega)
theorem N7:∀ (k:Nat) (acc:List Nd),(∀ x∈acc,IsD x)→Vl (fun l=>∀ x∈l,IsD x) lsz (lsz acc) (Hw bl k acc)
 | 0,acc,ha=>fun ts b us ht hr=>by cases hr
 | k+1,acc,ha=>fun ts b us ht hr=>by
  simp only [Hw] at hr;split at hr
  ·cases hr; exact ⟨List.suffix_refl _,by omega,ha⟩
  ·exact Vl.sq (Tx h) (fun a hp=>(N7 k _ (K1 ha hp)).le (by rw [Hp,Ik]; omega)) ts b us ht hr
def PRs (a:Nd):Prop:=a.Op=60∧a.Name=[]∧a.Int=0∧a.Text=[]∧∀ x∈a.Kids,IsD x
theorem T0:Vl PRs nsz 1 (Ma bl):=Vl.sq (w:=lsz) (fun ts=>N7 h _ [] (by simp) ts) fun ks hk=>Vl.ok ⟨rfl,rfl,rfl,rfl,hk⟩ (by rw [Nb]; omega)
end
end Go.Proofs.YtifjagfmfkemmaaGreatDoor
