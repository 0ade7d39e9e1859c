import Derived.Test.YtifjagfmfkemmaaGreatDoorLwF
set_option linter.unusedVariables false
set_option linter.unusedSimpArgs false
set_option maxHeartbeats 4000000
namespace Go.Proofs.YtifjagfmfkemmaaGreatDoor
open Eng Go
theorem sopc (op:Int):op=40∨op=41∨op=42∨op=43∨op=44∨op=45∨op=46∨op=47∨op=48∨op=49∨op=52∨(op≠40∧op≠41∧op≠42∧op≠43∧op≠44∧op≠45∧op≠46∧op≠47∧op≠48∧op≠49∧op≠52):=by omega
theorem Wc {K f:Nat} {l:List Aa} (h:∀ x∈l,(Am.upto K f).C4 x=some (dc (IsS x))) (hl:l.length≤9000000000) (hK:l.length < K):(Am.upto K (f+4)).D1 l=some (dc (Ss l)):=by
 rw [G1 (Oy l)];exact Ia (d:=A9) (L:=Cq.l7 K (Am.upto K (f+1)) l) (f:=(Am.upto K (f+1)).Dh) (fun k i=>rfl) (fun x hx=>by show Option.bind ((Am.upto K f).C4 x) _=_; rw [h x hx]; rfl) hl hK
theorem Rw {K f:Nat} {l:List Aa} (h:∀ x∈l,(Am.upto K f).Bq x=some (dc (IsB x))) (hl:l.length≤9000000000) (hK:l.length < K):(Am.upto K (f+4)).Ds l=some (dc (Bs l)):=by
 rw [G1 (Oj l)];exact Ia (d:=A9) (L:=Co.l7 K (Am.upto K (f+1)) l) (f:=(Am.upto K (f+1)).Dj) (fun k i=>rfl) (fun x hx=>by show Option.bind ((Am.upto K f).Bq x) _=_; rw [h x hx]; rfl) hl hK
theorem Wm {K f:Nat} {l:List Aa} (h:∀ x∈l,(Am.upto K f).D2 x=some (dc (IsC x))) (hl:l.length≤9000000000) (hK:l.length < K):(Am.upto K (f+4)).Dw l=some (dc (∀ x∈l,IsC x)) :=
 Ia (d:=A9) (L:=Cn.l7 K (Am.upto K (f+1)) l) (f:=(Am.upto K (f+1)).Dl) (fun k i=>rfl) (fun x hx=>by show Option.bind ((Am.upto K f).D2 x) _=_; rw [h x hx]; rfl) hl hK
theorem S9 {c p:Prop} [Decidable c]:(if c then some true else some (dc p))=some (dc (c∨p)):=by
 split
 ·rename_i h; rw [Kx (.inl h)]
 ·rename_i h; rw [G1 (show p↔c∨p from ⟨.inr,fun x=>x.resolve_left h⟩)]
theorem ite_t {c:Prop} [Decidable c]:(if c then some true else some false)=some (dc c):=by
 split
 ·rename_i h; rw [Kx h]
 ·rename_i h; rw [Ip h]
theorem O8 {K:Nat} {R:Am} (hK:1000≤K) (n:Aa)
  (hE:∀ i,i < n.Kids.length→Bo K (n.Kids.getD i A9)=some (dc (IsE (n.Kids.getD i A9))))
  (hEs:C9 K n.Kids=some (dc (Es n.Kids)))
  (hB:∀ i,i < n.Kids.length→R.Bq (n.Kids.getD i A9)=some (dc (IsB (n.Kids.getD i A9))))
  (hI:R.El n.Kids=some (dc (I3 n.Kids))) (hBs:R.Ds n.Kids=some (dc (Bs n.Kids))) (hC:R.Dx n.Kids=some (dc (n.Kids≠[]∧Cs n.Kids 16))) :
  C4.F K R n=some (dc (IsS n)):=by
 rw [H9];unfold C4.F;simp only [Il,Ke hK,hEs,hI,hBs,hC,Option.bind_some,I0,Ht,Fv,if_true,Bool.false_eq_true,if_false,decide_eq_true_eq,Int.toNat_zero,Int.toNat_one];rcases n with ⟨op,nm,it,tx,ks⟩
 dsimp only at *;have h1:(ks.length:Int)=1→Bo K (ks.getD 0 A9)=some (dc (Es ks)):=fun h=>by rw [hE 0 (by omega),Rp h]
 have h2:(ks.length:Int)=1→R.Bq (ks.getD 0 A9)=some (dc (Bs ks)):=fun h=>by rw [hB 0 (by omega),Tn h]
 have h3:(ks.length:Int)=2→Bo K (ks.getD 0 A9)=some (dc (IsE (ks.getD 0 A9))):=fun h=>hE 0 (by omega)
 have h4:(ks.length:Int)=2→R.Bq (ks.getD 1 A9)=some (dc (IsB (ks.getD 1 A9))):=fun h=>hB 1 (by omega)
 have h5:(ks.length:Int)=2→W2 ks=(IsE (ks.getD 0 A9)∧IsB (ks.getD 1 A9)):=Vi;have h6:¬ (ks.length:Int)=2→W2 ks=False:=Vt;clear hE hB hEs hI hBs hC;generalize (ks≠[]∧Cs ks 16)=C at *;generalize (ks.length:Int)=k at *;generalize Es ks=E at *;generalize Bs ks=B at *;generalize W2 ks=W at *;generalize I3 ks=I at *;generalize IsE (ks.getD 0 A9)=E0 at *;generalize IsB (ks.getD 1 A9)=B1 at *;generalize Bo K (ks.getD 0 A9)=r at *;generalize R.Bq (ks.getD 0 A9)=r0 at *;generalize R.Bq (ks.getD 1 A9)=r1 at *;rcases sopc op with h | h | h | h | h | h | h | h | h | h | h | h
 case inr.inr.inr.inr.inr.inr.inr.inr.inr.inr.inr =>
  obtain ⟨n1,n2,n3,n4,n5,n6,n7,n8,n9,n10,n11⟩:=h;simp [SX,n1,n2,n3,n4,n5,n6,n7,n8,n9,n10,n11]
 all_goals subst h
 all_goals by_cases hk:k=1
 all_goals first |(simp [SX,Gb,Jg,It,Fv,hk,h1,h2]; done) |(simp [SX,Gb,Jg,It,Fv,hk,h1,h2]; apply G1; constructor <;> intro h <;> simp_all; done) | skip
 all_goals by_cases hk2:k=2
 all_goals first |(simp [SX,Gb,Jg,It,Fv,hk,hk2,h3,h4,h5,h6]; done) |(simp [SX,Gb,Jg,It,Fv,hk,hk2,h3,h4,h5,h6]; apply G1; constructor <;> intro h <;> simp_all; done) | skip
theorem R6 {K:Nat} {R:Am} (l:List Aa)
  (hE:∀ i,i < l.length→Bo K (l.getD i A9)=some (dc (IsE (l.getD i A9))))
  (hB:∀ i,i < l.length→R.Bq (l.getD i A9)=some (dc (IsB (l.getD i A9))))
  (hS:∀ i,i < l.length→R.C4 (l.getD i A9)=some (dc (IsS (l.getD i A9)))):El.F K R l=some (dc (I3 l)):=by
 rw [I3_eq];unfold El.F;simp only [Int.toNat_zero,Int.toNat_one,show Int.toNat 2=2 from rfl];by_cases h2:(l.length:Int) < 2
 ·rw [if_pos h2,Ip (by omega)]
 rw [if_neg h2];by_cases h3:(l.length:Int) > 3
 ·rw [if_pos h3,Ip (by omega)]
 rw [if_neg h3,if_pos (by omega),hE 0 (by omega),hB 1 (by omega)];simp only [Option.bind_some,Ht,Fv];rw [if_pos (show (1:Int) < l.length by omega)];by_cases h4:(l.length:Int)=2
 ·simp [h4,Gb,ite_t]
 ·have h5:(l.length:Int)=3:=by omega
  simp only [hB 2 (by omega),hS 2 (by omega),Option.bind_some,Ht,Fv];simp [h5,Gb,S9]
theorem O7 {K:Nat} {R:Am} (hK:1000≤K) (n:Aa)
  (hE:∀ i,i < n.Kids.length→Bo K (n.Kids.getD i A9)=some (dc (IsE (n.Kids.getD i A9))))
  (hB:∀ i,i < n.Kids.length→R.Bq (n.Kids.getD i A9)=some (dc (IsB (n.Kids.getD i A9)))):D2.F K R n=some (dc (IsC n)):=by
 rw [O3];unfold D2.F;simp only [Il,Ke hK,Option.bind_some,I0,Ht,Fv,Int.toNat_zero,Int.toNat_one];rcases n with ⟨op,nm,it,tx,ks⟩
 dsimp only at *;by_cases hk:(ks.length:Int)=2
 ·rw [hE 0 (by omega),hB 1 (by omega),Vi hk];simp [hk,Gb];by_cases hn:nm=[]
  ·simp [hn,Gb]; apply G1; constructor <;> intro h <;> simp_all
  ·simp [hn,Gb]; apply G1; constructor <;> intro h <;> simp_all
 ·rw [Vt hk];simp [hk,Gb]
theorem M4 {K:Nat} {R:Am} (hK:1000≤K) (l:List Aa) (hl:l.length≤9000000000)
  (hB:∀ x∈l,∀ i,i < x.Kids.length→R.Bq (x.Kids.getD i A9)=some (dc (IsB (x.Kids.getD i A9))))
  (hC:∀ l':List Aa,(∀ x∈l',x∈l)→l'.length≤l.length→R.Dw l'=some (dc (∀ x∈l',IsC x))):Dx.F K R l=some (dc (l≠[]∧Cs l 16)):=by
 unfold Dx.F;rcases List.eq_nil_or_concat l with rfl |⟨l,x,rfl⟩
 ·rw [Ip (by simp)]; rfl
 rw [List.concat_eq_append] at *;have hlen:((l++[x]).length:Int)=(l.length:Int)+1:=by simp
 have hw:IntKind.i64.wrap (((l++[x]).length:Int) - 1)=(l.length:Int):=by rw [hlen]; simp at hl; rw [w64 (by omega) (by omega)]; omega
 have hx:(l++[x]).getD (Int.toNat (l.length:Int)) A9=x:=by simp [List.getD]
 have hs:slc (l++[x]) 0 (l.length:Int)=l:=by simp [slc]
 rw [hw,hx,hs,hlen];have e1:=hC l (fun y hy=>by simp [hy]) (by simp);have e2:=hC (l++[x]) (fun y hy=>hy) (Nat.le_refl _);have e3:(x.Kids.length:Int)=1→R.Bq (x.Kids.getD 0 A9)=some (dc (Bs x.Kids)):=fun h=>by rw [hB x (by simp) 0 (by omega),Tn h]
 rw [G1 (show (l++[x]≠[]∧Cs (l++[x]) 16)↔Cs (l++[x]) 16 by simp),G1 (M9 l x 16)];have i1:(0:Int)≤(l.length:Int)∧(l.length:Int) <(l.length:Int)+1:=⟨by omega,by omega⟩
 rw [if_pos (show (l.length:Int)≥0 by omega),if_pos i1,Option.bind_some,if_pos i1];simp only [Il,Option.bind_some,I0,Ht,Fv,Int.toNat_zero,e1,e2,decide_eq_true_eq];by_cases h51:x.Op=51
 ·have hc:IsC x=False:=by rw [O3]; simp [h51]
  rw [if_pos h51,O6,hc];by_cases hk:(x.Kids.length:Int)=1
  ·rw [e3 hk];have i2:(l.length:Int)≤(l.length:Int)+1:=by omega
   simp only [hk,h51,i2,Gb,Option.bind_some,Ht,ne_eq,not_true,if_false,if_true,show (0:Int) < 1 by omega];refine congrArg some (G1 ?_);have i3:((l.length:Int)≤16)=(l.length≤16):=by apply propext; omega
   simp only [i3];constructor <;> intro h <;> simp_all
  ·simp [hk,h51,Gb,Jg]
 ·have hz:IsZ x=False:=by rw [O6]; simp [h51]
  rw [if_neg h51,hz,if_pos (by omega)];simp only [Gb];refine congrArg some (G1 ?_);simp only [List.mem_append,List.mem_singleton,false_and,false_or];constructor
  ·rintro ⟨h1,h2⟩;exact ⟨⟨h2 x (.inr rfl),by omega⟩,fun y hy=>h2 y (.inl hy)⟩
  ·rintro ⟨⟨h1,h2⟩,h3⟩;exact ⟨by omega,fun y hy=>hy.elim (h3 y) (fun e=>e ▸ h1)⟩
theorem Ks {K:Nat} (hK:1000≤K) (hb:K≤9000000000):∀ (m:Nat),8 * m+8≤K→∀ (f:Nat) (n:Aa),nsz n≤m→8 * m≤f →
  (Am.upto K f).Bq n=some (dc (IsB n))∧(Am.upto K f).C4 n=some (dc (IsS n))∧(Am.upto K f).D2 n=some (dc (IsC n)):=by
 intro m
 induction m with
 | zero=>intro hm f n h; have:=Hy n; omega
 | succ m ih =>
  intro hm f n h hf;obtain ⟨g,rfl⟩:∃ g,f=g+8:=⟨f - 8,by omega⟩
  have hs:=Gk n;have hl:=G7 n.Kids;have he:∀ i,i < n.Kids.length→Bo K (n.Kids.getD i A9)=some (dc (IsE (n.Kids.getD i A9))):=fun i hi=>Rr hK hb _ (by have:=F9 (Gn hi); omega)
  have hk:∀ (g:Nat),8 * m≤g→∀ x∈n.Kids,_:=fun g hg x hx=>ih (by omega) g x (by have:=F9 hx; omega) hg
  have hk2:∀ (g:Nat),8 * m≤g→∀ x∈n.Kids,∀ y∈x.Kids,_:=fun g hg x hx y hy=>ih (by omega) g y (by have:=F9 hx; have:=F9 hy; have:=Gk x; omega) hg
  have hB:∀ g,8 * m≤g→∀ i,i < n.Kids.length→(Am.upto K g).Bq (n.Kids.getD i A9)=some (dc (IsB (n.Kids.getD i A9))):=fun g hg i hi=>(hk g hg _ (Gn hi)).1
  refine ⟨?_,?_,?_⟩
  ·show Bq.F K (Am.upto K (g+7)) n=_;unfold Bq.F;rw [Wc (f:=g+3) (fun x hx=>(hk _ (by omega) x hx).2.1) (by omega) (by omega),Il,S7];simp [Gb];apply G1; constructor <;> intro h <;> simp_all
  ·refine O8 hK n he (Up hK hb _ (by omega)) (hB _ (by omega)) ?_ (Rw (f:=g+3) (fun x hx=>(hk _ (by omega) x hx).1) (by omega) (by omega)) ?_
   ·exact R6 (R:=Am.upto K (g+6)) _ he (hB _ (by omega)) fun i hi=>(hk _ (by omega) _ (Gn hi)).2.1
   ·exact M4 (R:=Am.upto K (g+6)) hK _ (by omega) (fun x hx i hi=>(hk2 _ (by omega) x hx _ (Gn hi)).1) fun l' h1 h2=>Wm (f:=g+2) (fun x hx=>(hk _ (by omega) x (h1 x hx)).2.2) (by omega) (by omega)
  ·exact O7 (R:=Am.upto K (g+7)) hK n he (hB _ (by omega))
end Go.Proofs.YtifjagfmfkemmaaGreatDoor
