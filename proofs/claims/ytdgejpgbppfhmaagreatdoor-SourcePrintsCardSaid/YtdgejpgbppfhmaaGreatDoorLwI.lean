import Derived.Test.YtdgejpgbppfhmaaGreatDoorLwH
set_option linter.unusedVariables false
set_option linter.unusedSimpArgs false
set_option maxHeartbeats 4000000
namespace Go.Proofs.YtdgejpgbppfhmaaGreatDoor
open Eng Go
def W (k:Nat):Ge:=List.replicate (2 * k) 32
@[simp] theorem sW (k:Nat):(qW k).1=W k:=rfl
@[simp] theorem sR:qR.1=[10]:=rfl
theorem Mh (k:Nat):(W k).length=2 * k:=by unfold W; simp
theorem Jf (k:Nat):W k++[32,32]=W (k+1):=by
 unfold W;rw [show ([32,32]:Ge)=List.replicate 2 32 from rfl,List.replicate_append_replicate]; rfl
def lnT (k:Nat) (x:Nd):Ge:=W (k+1)++(txt (ps x (k+1))++[10])
theorem Ih (k:Nat):∀ l:List Nd,l.flatMap (lnT k)=txt (lines (pks l) k)
 | []=>rfl
 | x :: l=>by
  show _=txt (qW (k+1) ::(ps x (k+1)++[qR])++lines (pks l) k);rw [List.flatMap_cons,Ih k l,Im,Hk,Im];unfold lnT;simp
theorem K0 {l:List Nd} {T:Nd→Ge} {L:Nat→Ge→Int→Option Ge} {B:Nat→Int→Ge→Option Ge}
  (hL:∀ k acc i,L (k+1) acc i=(if i <(l.length:Int) then B k i acc else some acc))
  (hB:∀ (k i:Nat) (hi:i < l.length) (acc:Ge),acc.length+(T l[i]).length≤200000000→B k (i:Int) acc=L k (acc++T l[i]) ((i+1:Nat):Int)) :
  ∀ (k i:Nat) (acc:Ge),(l.drop i).length < k→acc.length+((l.drop i).flatMap T).length≤200000000→L k acc (i:Int)=some (acc++(l.drop i).flatMap T)
 | 0,i,acc,hk,_=>by omega
 | k+1,i,acc,hk,ha=>by
  rw [hL];by_cases c:(i:Int) <(l.length:Int)
  ·have hi':i < l.length:=by omega
   rw [List.drop_eq_getElem_cons hi',List.flatMap_cons] at ha;rw [List.drop_eq_getElem_cons hi'] at hk ⊢;rw [List.length_append] at ha;simp only [List.length_cons] at hk;refine i_t c ?_;rw [hB k i hi' _ (by omega),K0 hL hB k (i+1) _ (by omega) (by rw [List.length_append]; omega),List.flatMap_cons,List.append_assoc]
  ·refine i_f c ?_;rw [List.drop_eq_nil_iff.2 (by omega)]; simp
theorem Ip {l:List Nd} {T:Nd→Ge} {L:Nat→Ge→Int→Option Ge} {B:Nat→Int→Ge→Option Ge} {K:Nat} {acc:Ge}
  (hL:∀ k acc i,L (k+1) acc i=(if i <(l.length:Int) then B k i acc else some acc))
  (hB:∀ (k i:Nat) (hi:i < l.length) (acc:Ge),acc.length+(T l[i]).length≤200000000→B k (i:Int) acc=L k (acc++T l[i]) ((i+1:Nat):Int))
  (hK:l.length < K) (hl:acc.length+(l.flatMap T).length≤200000000):L K acc 0=some (acc++l.flatMap T):=by
 have:=K0 hL hB K 0 acc (by simpa using hK) (by simpa using hl)
 rw [List.drop_zero] at this;exact this
theorem Nu {K k:Nat} (hk:k≤100):Ex K (W k)=some (W (k+1)):=by
 unfold Ex
 have:=Mh k
 exact gu (congrArg some (Jf k))
theorem Ol {n:Nd} (h:nsz n≤4000) (hg:Rg n) (hE:IsE n):(txt (pe n)).length≤70000000:=by
 have h1:=Ik (nsz n) n (Nat.le_refl _) hg (.inl hE);unfold tl at h1; omega
theorem Lq {n:Nd} {k:Nat} (h:nsz n≤4000) (hg:Rg n) (hn:IsB n∨IsS n∨IsC n∨IsZ n) (hk:k+ndp n≤100):(txt (ps n k)).length≤72000000:=by
 have h1:=K4 (nsz n) n (Nat.le_refl _) hg hn k hk;unfold tl at h1; omega
theorem Kw {l:List Nd} (h:lsz l≤4000) (hg:∀ x∈l,Rg x) (hE:∀ x∈l,IsE x):(txt (E9 (pes l))).length≤70000000:=by
 have h1:=Io fun x hx=>Ik (nsz x) x (Nat.le_refl _) (hg x hx) (.inl (hE x hx))
 unfold tl at h1; omega
theorem Mi {l:List Nd} {k:Nat} (hk:k≤100) (h:lsz l≤4000) (hl:∀ x∈l,tl (ps x (k+1))+600≤18000 * nsz x):(txt (lines (pks l) k)).length≤72000000:=by
 have h1:=Jt hk hl;unfold tl at h1; omega
theorem Jb {α β:Type} (f:α→β) {a b:α} (h:a=b):f a=f b:=congrArg f h
theorem Ow {K:Nat} (hK:20000≤K) (hK2:K < 8000000) {n:Nd} (h:nsz n≤4000) (hg:Rg n) (hE:IsE n):C0 K n=some (txt (pe n)) :=
 Og (by omega) hK2 (nsz n) n (Nat.le_refl _) h hg (.inl hE) K (by omega)
theorem O2 {K:Nat} (hK:20000≤K) (hK2:K < 8000000) {l:List Nd} (h:lsz l≤4000) (hg:∀ x∈l,Rg x) (hE:∀ x∈l,IsE x):Dz K l=some (txt (E9 (pes l))):=by
 obtain ⟨K',rfl⟩:∃ g,K=g+1:=⟨K - 1,by omega⟩
 have hl:=Kw h hg hE
 have:=Gf l
 exact P7 (fun x hx=>Og (by omega) hK2 (nsz x) x (Nat.le_refl _) (by have:=D7 hx; omega) (hg x hx) (.inl (hE x hx)) K' (by have:=D7 hx; omega)) (by omega) (by omega) (by omega)
theorem Sh {K:Nat} (hK:20000≤K) (hK2:K < 8000000):∀ (m:Nat) (n:Nd),nsz n≤m→m≤4000→Rg n→∀ k,k+ndp n≤100→∀ f,
  (IsB n→2 * nsz n≤f→(A0.upto K f).A6 (W k) n=some (txt (ps n k))) ∧
  (IsS n→2 * nsz n≤f→(A0.upto K f).Dj (W k) n=some (txt (ps n k))) ∧
  (IsS n→n.Op=42→2 * nsz n≤f+1→(A0.upto K f).Dm (W k) n=some (txt (ps n k)))
 | 0,n,h,_,_,k,_,_=>by have:=Gx n; omega
 | m+1,n,h,hm,hg,k,hd,f=>by
  have hsz:=Gg n;have hdp:=Hp n;have hlk:=Gf n.Kids;have hw:=Mh k;have hw1:=Mh (k+1);have hpos:=Gx n;have hlen:(IsB n∨IsS n∨IsC n∨IsZ n)→(txt (ps n k)).length≤72000000:=fun hn=>Lq (by omega) hg hn hd
  rw [I8,H4] at hg;have kx:∀ x∈n.Kids,nsz x≤lsz n.Kids∧ndp x+1≤ndp n:=fun x hx=>⟨D7 hx,by have:=H6 hx; omega⟩
  have kid:∀ x∈n.Kids,∀ k',k'≤k+1→∀ g,_:=fun x hx k' hk' g=>Sh hK hK2 m x (by have:=kx x hx; omega) (by omega) (hg.2 x hx) k' (by have:=kx x hx; omega) g
  have kB:∀ x∈n.Kids,IsB x→∀ k',k'≤k+1→∀ g,2 * nsz n≤g+2→(A0.upto K g).A6 (W k') x=some (txt (ps x k')):=fun x hx hB k' hk' g hg'=>(kid x hx k' hk' g).1 hB (by have:=kx x hx; omega)
  have kS:∀ x∈n.Kids,IsS x→∀ k',k'≤k+1→∀ g,2 * nsz n≤g+2→(A0.upto K g).Dj (W k') x=some (txt (ps x k')):=fun x hx hB k' hk' g hg'=>(kid x hx k' hk' g).2.1 hB (by have:=kx x hx; omega)
  have kC:∀ x∈n.Kids,IsS x→x.Op=42→∀ k',k'≤k+1→∀ g,2 * nsz n≤g+2→(A0.upto K g).Dm (W k') x=some (txt (ps x k')):=fun x hx hB ho k' hk' g hg'=>(kid x hx k' hk' g).2.2 hB ho (by have:=kx x hx; omega)
  have kE:∀ x∈n.Kids,IsE x→C0 K x=some (txt (pe x)):=fun x hx hE=>Ow hK hK2 (by have:=kx x hx; omega) (hg.2 x hx) hE
  have lE:∀ x∈n.Kids,IsE x→(txt (pe x)).length≤70000000:=fun x hx hE=>Ol (by have:=kx x hx; omega) (hg.2 x hx) hE
  have lP:∀ x∈n.Kids,IsB x∨IsS x∨IsC x∨IsZ x→∀ k',k'≤k+1→(txt (ps x k')).length≤72000000:=fun x hx hn k' hk'=>Lq (by have:=kx x hx; omega) (hg.2 x hx) hn (by have:=kx x hx; omega)
  have tP:(∀ x∈n.Kids,IsB x∨IsS x∨IsC x∨IsZ x)→(n.Kids.flatMap (lnT k)).length≤72000000:=fun hn=>by
   rw [Ih];exact Mi (by omega) (by omega) fun x hx=>K4 (nsz x) x (Nat.le_refl _) (hg.2 x hx) (hn x hx) (k+1) (by have:=kx x hx; omega)
  have chc:∀ g,IsS n→n.Op=42→2 * nsz n≤g+1→(A0.upto K g).Dm (W k) n=some (txt (ps n k)):=fun g hn ho hgg=>by
   obtain ⟨g,rfl⟩:∃ g',g=g'+1:=⟨g - 1,by omega⟩
   show Dm.F K (A0.upto K g) (W k) n=_;rw [Js] at hn;unfold SX at hn;have h4:I3 n.Kids:=by
    rcases hn with ⟨ho',_⟩ |⟨_,_,_,_,h4⟩ |⟨ho',_⟩ |⟨ho',_⟩ |⟨ho',_⟩ |⟨ho',_⟩ |⟨ho',_⟩ |⟨ho',_⟩ |⟨ho',_⟩
    all_goals first | exact h4 | omega
   obtain ⟨x,y,hx,hy,hc⟩:=L4 h4;rw [Hw,ho];unfold Dm.F;rcases hc with hc |⟨z,hc,hz⟩
   ·have hmx:x∈n.Kids:=by rw [hc]; exact .head _
    have hmy:y∈n.Kids:=by rw [hc]; exact .tail _ (.head _)
    have l1:=lE x hmx hx;have l2:=lP y hmy (.inl hy) k (by omega);have e1:=kE x hmx hx;have e2:=kB y hmy hy k (by omega) g (by omega);rw [hc];refine gu (bb e1 (gu (gu (gu (bb e2 (gu (i_t (by (try simp only [gA,gB,gC]); omega) (congrArg some ?_))))))));show _=txt (qK [105,102] :: qB ::(pe x++qB ::(ps y k++[])));simp
   ·have hmx:x∈n.Kids:=by rw [hc]; exact .head _
    have hmy:y∈n.Kids:=by rw [hc]; exact .tail _ (.head _)
    have hmz:z∈n.Kids:=by rw [hc]; exact .tail _ (.tail _ (.head _))
    have l1:=lE x hmx hx;have l2:=lP y hmy (.inl hy) k (by omega);have l3:=lP z hmz (by rcases hz with hz | hz; exact .inl hz; exact .inr (.inl hz.2)) k (by omega);have e1:=kE x hmx hx;have e2:=kB y hmy hy k (by omega) g (by omega);have ez:z.Op=42→(A0.upto K g).Dm (W k) z=some (txt (ps z k)):=fun h42=>by
     rcases hz with hz | hz
     ·rw [Jl] at hz; omega
     ·exact kC z hmz hz.2 h42 k (by omega) g (by omega)
    have ez':¬ z.Op=42→(A0.upto K g).A6 (W k) z=some (txt (ps z k)):=fun h42=>by
     rcases hz with hz | hz
     ·exact kB z hmz hz k (by omega) g (by omega)
     ·exact absurd hz.1 h42
    rw [hc];refine gu (bb e1 (gu (gu (gu (bb e2 (gu (i_f (by (try simp only [gA,gB,gC]); omega) (gu ?_))))))));by_cases h42:z.Op=42
    ·refine i_t h42 (gu (bb (ez h42) (gu (congrArg some ?_))));show _=txt (qK [105,102] :: qB ::(pe x++qB ::(ps y k++qB :: qK [101,108,115,101] :: qB :: ps z k)));simp
    ·refine i_f h42 (gu (bb (ez' h42) (gu (congrArg some ?_))));show _=txt (qK [105,102] :: qB ::(pe x++qB ::(ps y k++qB :: qK [101,108,115,101] :: qB :: ps z k)));simp
  have css:∀ g,(∀ x∈n.Kids,IsC x∨IsZ x)→2 * nsz n≤g+1→(A0.upto K g).Cm (W k) n=some (([115,101,108,101,99,116,32,123]++[10])++(n.Kids.flatMap (lnT k)++(W k++[125]))):=fun g hn hgg=>by
   obtain ⟨g,rfl⟩:∃ g',g=g'+1:=⟨g - 1,by omega⟩
   have htl:=tP fun x hx=>.inr (.inr (hn x hx))
   show Cm.F K (A0.upto K g) (W k) n=_;unfold Cm.F;refine bb (Nu (by omega)) (bb (Ip (l:=n.Kids) (T:=lnT k) (L:=fun k1 acc i=>Cm.l11 K (A0.upto K g) n (W (k+1)) k1 acc i) (B:=fun k1 a b=>(if (0:Int)≤a∧(a:Int) <(n.Kids.length:Int) then (if b.length+(W (k+1)).length≤9223372036854775807 then (if (n.Kids.getD (Int.toNat a) Ah).Op=51 then (if (0:Int) <(((n.Kids.getD (Int.toNat a) Ah).Kids).length:Int) then (((A0.upto K g).A6 (W (k+1)) (((n.Kids.getD (Int.toNat a) Ah).Kids).getD (Int.toNat 0) Ah)).bind fun a2=>(if ([101,108,115,101,32]:Ge).length+a2.length≤9223372036854775807 then (if (b++(W (k+1))).length+(([101,108,115,101,32]:Ge)++a2).length≤9223372036854775807 then (if ((b++(W (k+1)))++(([101,108,115,101,32]:Ge)++a2)).length+([10]:Ge).length≤9223372036854775807 then Cm.l11 K (A0.upto K g) n (W (k+1)) k1 (((b++(W (k+1)))++(([101,108,115,101,32]:Ge)++a2))++([10]:Ge)) (IntKind.i64.wrap (a+1)) else none) else none) else none)) else none) else (if (n.Kids.getD (Int.toNat a) Ah).Name≠([]:Ge) then (if ([99,97,115,101,32]:Ge).length+((n.Kids.getD (Int.toNat a) Ah).Name).length≤9223372036854775807 then (if (([99,97,115,101,32]:Ge)++(n.Kids.getD (Int.toNat a) Ah).Name).length+([32,61,32]:Ge).length≤9223372036854775807 then (if (0:Int) <(((n.Kids.getD (Int.toNat a) Ah).Kids).length:Int) then ((C0 K (((n.Kids.getD (Int.toNat a) Ah).Kids).getD (Int.toNat 0) Ah)).bind fun a3=>(if ((([99,97,115,101,32]:Ge)++(n.Kids.getD (Int.toNat a) Ah).Name)++([32,61,32]:Ge)).length+a3.length≤9223372036854775807 then (if (((([99,97,115,101,32]:Ge)++(n.Kids.getD (Int.toNat a) Ah).Name)++([32,61,32]:Ge))++a3).length+([32]:Ge).length≤9223372036854775807 then (if (1:Int) <(((n.Kids.getD (Int.toNat a) Ah).Kids).length:Int) then (((A0.upto K g).A6 (W (k+1)) (((n.Kids.getD (Int.toNat a) Ah).Kids).getD (Int.toNat 1) Ah)).bind fun a4=>(if (((((([99,97,115,101,32]:Ge)++(n.Kids.getD (Int.toNat a) Ah).Name)++([32,61,32]:Ge))++a3)++([32]:Ge))).length+a4.length≤9223372036854775807 then (if (b++(W (k+1))).length+((((((([99,97,115,101,32]:Ge)++(n.Kids.getD (Int.toNat a) Ah).Name)++([32,61,32]:Ge))++a3)++([32]:Ge))++a4)).length≤9223372036854775807 then (if (((b++(W (k+1)))++(((((([99,97,115,101,32]:Ge)++(n.Kids.getD (Int.toNat a) Ah).Name)++([32,61,32]:Ge))++a3)++([32]:Ge))++a4))).length+([10]:Ge).length≤9223372036854775807 then Cm.l11 K (A0.upto K g) n (W (k+1)) k1 ((((b++(W (k+1)))++(((((([99,97,115,101,32]:Ge)++(n.Kids.getD (Int.toNat a) Ah).Name)++([32,61,32]:Ge))++a3)++([32]:Ge))++a4))++([10]:Ge))) (IntKind.i64.wrap (a+1)) else none) else none) else none)) else none) else none) else none)) else none) else none) else none) else (if (0:Int) <(((n.Kids.getD (Int.toNat a) Ah).Kids).length:Int) then ((C0 K (((n.Kids.getD (Int.toNat a) Ah).Kids).getD (Int.toNat 0) Ah)).bind fun a5=>(if ([99,97,115,101,32]:Ge).length+a5.length≤9223372036854775807 then (if (([99,97,115,101,32]:Ge)++a5).length+([32]:Ge).length≤9223372036854775807 then (if (1:Int) <(((n.Kids.getD (Int.toNat a) Ah).Kids).length:Int) then (((A0.upto K g).A6 (W (k+1)) (((n.Kids.getD (Int.toNat a) Ah).Kids).getD (Int.toNat 1) Ah)).bind fun a6=>(if ((([99,97,115,101,32]:Ge)++a5)++([32]:Ge)).length+a6.length≤9223372036854775807 then (if (b++(W (k+1))).length+(((([99,97,115,101,32]:Ge)++a5)++([32]:Ge))++a6).length≤9223372036854775807 then (if ((b++(W (k+1)))++(((([99,97,115,101,32]:Ge)++a5)++([32]:Ge))++a6)).length+([10]:Ge).length≤9223372036854775807 then Cm.l11 K (A0.upto K g) n (W (k+1)) k1 ((((b++(W (k+1)))++(((([99,97,115,101,32]:Ge)++a5)++([32]:Ge))++a6))++([10]:Ge))) (IntKind.i64.wrap (a+1)) else none) else none) else none)) else none) else none) else none)) else none))) else none) else none)) (fun k1 acc i=>rfl) (fun k1 i hi acc ha=>?_) (by omega) (by (try simp only [gA,gB,gC]); omega)) (gu (gu (congrArg some ?_))))
   ·unfold lnT at ha;simp only [List.length_append,List.length_cons,List.length_nil] at ha;refine gu ?_;rw [Int.toNat_natCast,Hf hi];have hx:=List.getElem_mem hi;have hl:=lP _ hx (.inr (.inr (hn _ hx))) (k+1) (by omega);have hgx:=hg.2 _ hx;have hkx:=kx _ hx;have hsx:=Gg n.Kids[i];have hdx:=Hp n.Kids[i];rw [I8,H4] at hgx;generalize n.Kids[i]=x at *;have kB2:∀ y∈x.Kids,IsB y→(A0.upto K g).A6 (W (k+1)) y=some (txt (ps y (k+1))):=fun y hy hB=>(Sh hK hK2 m y (by have:=D7 hy; omega) (by omega) (hgx.2 y hy) (k+1) (by have:=H6 hy; omega) g).1 hB (by have:=D7 hy; omega)
    have lB2:∀ y∈x.Kids,IsB y→(txt (ps y (k+1))).length≤72000000:=fun y hy hB=>Lq (by have:=D7 hy; omega) (hgx.2 y hy) (.inl hB) (by have:=H6 hy; omega)
    have kE2:∀ y∈x.Kids,IsE y→C0 K y=some (txt (pe y)):=fun y hy hE=>Ow hK hK2 (by have:=D7 hy; omega) (hgx.2 y hy) hE
    have lE2:∀ y∈x.Kids,IsE y→(txt (pe y)).length≤70000000:=fun y hy hE=>Ol (by have:=D7 hy; omega) (hgx.2 y hy) hE
    rcases hn _ hx with hC | hZ
    ·rw [Kg] at hC;obtain ⟨ho,h1,h2,h3,h4⟩:=hC;obtain ⟨y,z,hc,hy,hz⟩:=Ji h4;have hmy:y∈x.Kids:=by rw [hc]; exact .head _
     have hmz:z∈x.Kids:=by rw [hc]; exact .tail _ (.head _)
     have l1:=lE2 y hmy hy;have l2:=lB2 z hmz hz;have e1:=kE2 y hmy hy;have e2:=kB2 z hmz hz;have et:lnT k x=W (k+1)++(([99,97,115,101,32]++((if x.Name=[] then [] else x.Name++[32,61,32])++(txt (pe y)++(32 :: txt (ps z (k+1))))))++[10]):=by
      unfold lnT;rw [Hw,ho,hc];show W (k+1)++(txt (qK [99,97,115,101] :: qB ::((if x.Name=[] then [] else [qN x.Name,qB,qS [61],qB])++(pe y++qB :: ps z (k+1))))++[10])=_;by_cases hne:x.Name=[]
      ·rw [if_pos hne,if_pos hne]; simp
      ·rw [if_neg hne,if_neg hne]; simp
     rw [et,ho,hc];by_cases hne:x.Name=[]
     ·rw [if_pos hne];refine gu (i_f (by decide) (i_f (by rw [hne]; decide) (gu (bb e1 (gu (gu (gu (bb e2 (gu (gu (gu ?_)))))))))));rw [w64 (by omega) (by omega)];refine Jb (fun s=>Cm.l11 K (A0.upto K g) n (W (k+1)) k1 s _) ?_;simp
     ·have hnm:x.Name.length≤64:=by
       rcases h1 with h1 | h1
       ·exact absurd h1 hne
       ·exact h1.2.1
      rw [if_neg hne];refine gu (i_f (by decide) (i_t hne (gu (gu (gu (bb e1 (gu (gu (gu (bb e2 (gu (gu (gu ?_)))))))))))));rw [w64 (by omega) (by omega)];refine Jb (fun s=>Cm.l11 K (A0.upto K g) n (W (k+1)) k1 s _) ?_;simp
    ·rw [Kh] at hZ;obtain ⟨ho,h1,h2,h3,h4,h5⟩:=hZ;obtain ⟨y,hc⟩:=Gi h4;rw [Ia] at h5;have hmy:y∈x.Kids:=by rw [hc]; exact .head _
     have l1:=lB2 y hmy (h5 y hmy);have e1:=kB2 y hmy (h5 y hmy);have et:lnT k x=W (k+1)++(([101,108,115,101,32]++txt (ps y (k+1)))++[10]):=by
      unfold lnT;rw [Hw,ho,hc];show W (k+1)++(txt (qK [101,108,115,101] :: qB :: ps y (k+1))++[10])=_;simp
     rw [et,ho,hc];refine gu (i_t rfl (gu (bb e1 (gu (gu (gu ?_))))));rw [w64 (by omega) (by omega)];refine Jb (fun s=>Cm.l11 K (A0.upto K g) n (W (k+1)) k1 s _) ?_;simp
   ·simp
  refine ⟨fun hn hf=>?_,fun hn hf=>?_,fun hn ho hf=>chc f hn ho hf⟩
  ·obtain ⟨f,rfl⟩:∃ g,f=g+1:=⟨f - 1,by omega⟩
   have hl:=hlen (.inl hn);rw [Jl,Kf] at hn;obtain ⟨ho,h1,h2,h3,h4⟩:=hn;have htl:=tP fun x hx=>.inr (.inl (h4 x hx))
   show A6.F K (A0.upto K f) (W k) n=_;unfold A6.F;refine bb (Ip (l:=n.Kids) (T:=lnT k) (L:=fun k1 acc i=>A6.l9 K (A0.upto K f) (W k) n k1 acc i) (B:=fun k1 c d=>(if (0:Int)≤c∧(c:Int) <(n.Kids.length:Int) then ((Ex K (W k)).bind fun a1=>((Ex K (W k)).bind fun a2=>(((A0.upto K f).Dj a2 (n.Kids.getD (Int.toNat c) Ah)).bind fun a3=>(if a1.length+a3.length≤9223372036854775807 then (if (a1++a3).length+([10]:Ge).length≤9223372036854775807 then (if d.length+((a1++a3)++([10]:Ge)).length≤9223372036854775807 then A6.l9 K (A0.upto K f) (W k) n k1 (d++((a1++a3)++([10]:Ge))) (IntKind.i64.wrap (c+1)) else none) else none) else none)))) else none)) (fun k1 acc i=>rfl) (fun k1 i hi acc ha=>?_) (by omega) (by (try simp only [gA,gB,gC]); omega)) (gu (gu (congrArg some ?_)))
   ·unfold lnT at ha;simp only [List.length_append,List.length_cons,List.length_nil] at ha;have hx:=List.getElem_mem hi;have e1:=kS _ hx (h4 _ hx) (k+1) (by omega) f (by omega);refine gu ?_;rw [Int.toNat_natCast,Hf hi];refine bb (Nu (by omega)) (bb (Nu (by omega)) (bb e1 (gu (gu (gu ?_)))));rw [w64 (by omega) (by omega)];refine Jb (fun s=>A6.l9 K (A0.upto K f) (W k) n k1 s _) ?_;unfold lnT;simp
   ·rw [Ih,Hw,ho];show _=txt (qS [123] :: qR ::(lines (pks n.Kids) k++[qW k,qS [125]]));simp
  ·obtain ⟨f,rfl⟩:∃ g,f=g+1:=⟨f - 1,by omega⟩
   have hl:=hlen (.inr (.inl hn));have hn':=hn;show Dj.F K (A0.upto K f) (W k) n=_;rw [Js] at hn;unfold SX at hn;unfold Dj.F;rcases hn with ⟨ho,h1,h2,h3,h4,h5⟩ |⟨ho,h1,h2,h3,h4⟩ |⟨ho,h1,h2,h3,h4⟩ |⟨ho,h1,h2,h3,h4,h5⟩ |⟨ho,h1,h2,h3,h4,h5⟩ |⟨ho,h1,h2,h3,h4,h5⟩ |⟨ho,h1,h2,h3,h4,h5⟩ |⟨ho,h1,h2,h3,h4⟩ |⟨ho,h1,h2,h3,h4,h5⟩
   ·obtain ⟨x,hx⟩:=Gi h4;rw [F8] at h5;have hmx:x∈n.Kids:=by rw [hx]; exact .head _
    have e1:=kE x hmx (h5 x hmx);have l1:=lE x hmx (h5 x hmx);have hm:=h1.2.1;rw [Hw,hx];rcases ho with ho | ho <;> rw [ho]
    ·simp only [Int.reduceEq,↓reduceIte];refine gu (gu (gu (bb e1 (gu (gu (congrArg some ?_))))));show _=txt (qK [108,101,116] :: qB :: qN n.Name :: qB :: qS [61] :: qB ::(pe x++[qS [59]]));simp
    ·simp only [Int.reduceEq,↓reduceIte];refine gu (gu (bb e1 (gu (gu (congrArg some ?_)))));show _=txt (qN n.Name :: qB :: qS [61] :: qB ::(pe x++[qS [59]]));simp
   ·refine (show _ from ?_);have e:=chc f hn' ho (by omega);rw [ho];simp only [Int.reduceEq,↓reduceIte];exact bb e rfl
   ·obtain ⟨x,y,hc,hx,hy⟩:=Ji h4;have hmx:x∈n.Kids:=by rw [hc]; exact .head _
    have hmy:y∈n.Kids:=by rw [hc]; exact .tail _ (.head _)
    have e1:=kE x hmx hx;have l1:=lE x hmx hx;have e2:=kB y hmy hy k (by omega) f (by omega);have l2:=lP y hmy (.inl hy) k (by omega);rw [Hw,ho,hc];simp only [Int.reduceEq,↓reduceIte];refine gu (bb e1 (gu (gu (gu (bb e2 (gu (congrArg some ?_)))))));show _=txt (qK [119,104,105,108,101] :: qB ::(pe x++qB :: ps y k));simp
   ·rw [Hw,ho];cases hk:n.Kids with
    | nil =>
     simp only [Int.reduceEq,↓reduceIte];refine i_t (by (try simp only [gA,gB,gC]); omega) (congrArg some ?_);show _=txt [qK [114,101,116,117,114,110],qS [59]];simp
    | cons x l =>
     rw [F8] at h5;have hmx:x∈n.Kids:=by rw [hk]; exact .head _
     have e1:=kE x hmx (h5 x hmx);have l1:=lE x hmx (h5 x hmx);simp only [Int.reduceEq,↓reduceIte];refine i_f (by (try simp only [gA,gB,gC]); omega) (gu (bb e1 (gu (gu (congrArg some ?_)))));show _=txt (qK [114,101,116,117,114,110] :: qB ::(pe x++[qS [59]]));simp
   ·obtain ⟨x,hx⟩:=Gi h4;rw [F8] at h5;have hmx:x∈n.Kids:=by rw [hx]; exact .head _
    have e1:=kE x hmx (h5 x hmx);have l1:=lE x hmx (h5 x hmx);rw [Hw,hx];rcases ho with ho | ho <;> rw [ho]
    ·simp only [Int.reduceEq,↓reduceIte];refine gu (bb e1 (gu (gu (congrArg some ?_))));show _=txt (qK [116,104,114,111,119] :: qB ::(pe x++[qS [59]]));simp
    ·simp only [Int.reduceEq,↓reduceIte];refine gu (bb e1 (gu (congrArg some ?_)));show _=txt (pe x++[qS [59]]);simp
   ·obtain ⟨x,y,hx⟩:=Iq h4;rw [Ia] at h5;have hmx:x∈n.Kids:=by rw [hx]; exact .head _
    have hmy:y∈n.Kids:=by rw [hx]; exact .tail _ (.head _)
    have e1:=kB x hmx (h5 x hmx) k (by omega) f (by omega);have l1:=lP x hmx (.inl (h5 x hmx)) k (by omega);have e2:=kB y hmy (h5 y hmy) k (by omega) f (by omega);have l2:=lP y hmy (.inl (h5 y hmy)) k (by omega);have hm:=h1.2.1;rw [Hw,ho,hx];simp only [Int.reduceEq,↓reduceIte];refine gu (bb e1 (gu (gu (gu (gu (gu (bb e2 (gu (congrArg some ?_)))))))));show _=txt (qK [116,114,121] :: qB ::(ps x k++qB :: qK [99,97,116,99,104] :: qB :: qN n.Name :: qB :: ps y k));simp
   ·obtain ⟨x,hx⟩:=Gi h4;rw [Ia] at h5;have hmx:x∈n.Kids:=by rw [hx]; exact .head _
    have e1:=kB x hmx (h5 x hmx) k (by omega) f (by omega);have l1:=lP x hmx (.inl (h5 x hmx)) k (by omega);rw [Hw,ho,hx];simp only [Int.reduceEq,↓reduceIte];refine gu (bb e1 (gu (congrArg some ?_)));show _=txt (qK [115,97,103,97] :: qB :: ps x k);simp
   ·rw [F8] at h4;have e1:=O2 hK hK2 (by omega) hg.2 h4;have l1:=Kw (by omega) hg.2 h4;have hm:=h1.2.1;rw [Hw,ho];simp only [Int.reduceEq,↓reduceIte];refine gu (gu (bb e1 (gu (gu (congrArg some ?_)))));show _=txt (qK [117,110,100,111] :: qB :: qN n.Name :: qS [40] ::(Lf (pks n.Kids)++[qS [41],qS [59]]));rw [Ky];simp
   ·have e:=css f (fun x hx=>Ma h5 x hx) (by omega);rw [Hw,ho];simp only [Int.reduceEq,↓reduceIte];refine bb e (congrArg some ?_);show _=txt (qK [115,101,108,101,99,116] :: qB :: qS [123] :: qR ::(lines (pks n.Kids) k++[qW k,qS [125]]));rw [Ih];simp
theorem P0 (K:Nat) (op:Int):Fq K op=some (match bsg op with | some (sg,v)=>sg.1 | none=>[]):=by
 unfold Fq bsg;by_cases h15:op=15
 ·subst h15; rfl
 by_cases h16:op=16
 ·subst h16; rfl
 by_cases h17:op=17
 ·subst h17; rfl
 by_cases h18:op=18
 ·subst h18; rfl
 by_cases h19:op=19
 ·subst h19; rfl
 by_cases h20:op=20
 ·subst h20; rfl
 by_cases h21:op=21
 ·subst h21; rfl
 by_cases h22:op=22
 ·subst h22; rfl
 by_cases h23:op=23
 ·subst h23; rfl
 by_cases h24:op=24
 ·subst h24; rfl
 by_cases h25:op=25
 ·subst h25; rfl
 by_cases h26:op=26
 ·subst h26; rfl
 by_cases h27:op=27
 ·subst h27; rfl
 rw [if_neg h15,if_neg h16,if_neg h17,if_neg h18,if_neg h19,if_neg h20,if_neg h21,if_neg h22,if_neg h23,if_neg h24,if_neg h25,if_neg h26,if_neg h27,if_neg h27,if_neg h26,if_neg h20,if_neg h21,if_neg h22,if_neg h23,if_neg h24,if_neg h25,if_neg h18,if_neg h19,if_neg h15,if_neg h16,if_neg h17]
theorem Nk {K:Nat} {op:Int} {sg:Pc} {v:Nat} (h:bsg op=some (sg,v)):Fq K op=some sg.1:=by rw [P0,h]
theorem He {K:Nat} {op:Int} (h:bsg op=none):Fq K op=some []:=by rw [P0,h]
theorem Sz {op:Int} {sg:Pc} {v:Nat} (h:bsg op=some (sg,v)):sg.1≠[]:=by
 have:=Lz h
 have ho:op=15∨op=16∨op=17∨op=18∨op=19∨op=20∨op=21∨op=22∨op=23∨op=24∨op=25∨op=26∨op=27:=by omega
 rcases ho with rfl | rfl | rfl | rfl | rfl | rfl | rfl | rfl | rfl | rfl | rfl | rfl | rfl <;> cases h <;> decide
theorem O0 (K:Nat) (op:Int):Fc K op=some (lv op:Int):=by
 have h:(op=11∨op=12∨op=13∨op=14∨op=15∨op=16∨op=17∨op=18∨op=19∨op=20∨op=21∨op=22∨op=23∨op=24∨op=25∨op=26∨op=27)∨(op < 11∨27 < op):=by omega
 rcases h with h | h
 ·rcases h with rfl | rfl | rfl | rfl | rfl | rfl | rfl | rfl | rfl | rfl | rfl | rfl | rfl | rfl | rfl | rfl | rfl <;> rfl
 ·have hb:bsg op=none:=by
   unfold bsg;rw [if_neg (show ¬ op=27 by omega),if_neg (show ¬ op=26 by omega),if_neg (show ¬ op=20 by omega),if_neg (show ¬ op=21 by omega),if_neg (show ¬ op=22 by omega),if_neg (show ¬ op=23 by omega),if_neg (show ¬ op=24 by omega),if_neg (show ¬ op=25 by omega),if_neg (show ¬ op=18 by omega),if_neg (show ¬ op=19 by omega),if_neg (show ¬ op=15 by omega),if_neg (show ¬ op=16 by omega),if_neg (show ¬ op=17 by omega)]
  unfold Fc lv;rw [hb];refine i_f (by omega) <| i_f (by omega) <| i_f (by omega) <| bb (a:=false) ?_ <| i_f (by decide) <| bb (a:=false) ?_ <| i_f (by decide) <| bb (a:=false) ?_ <| i_f (by decide) <| i_f (by omega) <| i_f (by omega) <| i_f (by omega) ?_
  ·exact i_f (by omega) <| i_f (by omega) <| i_f (by omega) <| i_f (by omega) <| i_f (by omega) <| congrArg some (decide_eq_false (by omega))
  ·exact i_f (by omega) <| congrArg some (decide_eq_false (by omega))
  ·exact i_f (by omega) <| i_f (by omega) <| congrArg some (decide_eq_false (by omega))
  ·show _=some (((if op=13 then 3 else if op=14∨op=12∨op=11 then 7 else 8:Nat)):Int);rw [if_neg (by omega),if_neg (by omega)]; rfl
theorem Qz {K:Nat} {R:Bd} {x:Nd} {r:Nat} {q:Int} (hq:q=r) (h:R.Bc x=some (txt (pe x))) (hl:(txt (pe x)).length≤100000000):Cq.F K R x q=some (txt (opd (x.Op,pe x) r)):=by
 subst hq;unfold Cq.F opd;refine bb (O0 K x.Op) ?_;by_cases c:lv x.Op < r
 ·rw [if_pos c];refine i_t (by omega) (bb h (gu (gu (congrArg some ?_))));simp
 ·rw [if_neg c];exact i_f (by omega) (bb h rfl)
def J3 (l:List Nd):Ge:=l.flatMap fun x=>44 :: 32 :: txt (pe x)
theorem M9:∀ (x:Nd) (l:List Nd),txt (E9 (pes (x :: l)))=txt (pe x)++J3 l
 | x,[]=>by show txt (pe x)=_; simp [J3]
 | x,z :: l=>by
  show txt (pe x++qS [44] :: qB :: E9 (pes (z :: l)))=_;rw [Im,Hk,Hk,M9 z l];simp [J3,qS,qB]
theorem Nb {l:List Nd} {L:Nat→Ge→Int→Option Ge} {B:Nat→Int→Ge→Option Ge}
  (hL:∀ k acc i,L (k+1) acc i=(if i <(l.length:Int) then (Option.bind ((if i > 0 then (if acc.length+([44,32]:Ge).length≤9223372036854775807 then some (acc++([44,32]:Ge)) else none) else some acc):Option Ge) (B k i)) else some acc))
  (hB:∀ (k i:Nat) (hi:i < l.length) (acc:Ge),acc.length+(txt (pe l[i])).length≤200000000→B k (i:Int) acc=L k (acc++txt (pe l[i])) ((i+1:Nat):Int)) :
  ∀ (k i:Nat) (acc:Ge),1≤i→(l.drop i).length < k→acc.length+(J3 (l.drop i)).length≤200000000→L k acc (i:Int)=some (acc++J3 (l.drop i))
 | 0,i,acc,_,hk,_=>by omega
 | k+1,i,acc,h1,hk,ha=>by
  rw [hL];by_cases c:(i:Int) <(l.length:Int)
  ·have hi':i < l.length:=by omega
   rw [List.drop_eq_getElem_cons hi'] at hk ha ⊢;have e:J3 (l[i] :: l.drop (i+1))=44 :: 32 ::(txt (pe l[i])++J3 (l.drop (i+1))):=by unfold J3; rw [List.flatMap_cons]; rfl
   rw [e] at ha ⊢;simp only [List.length_cons,List.length_append] at ha hk;refine i_t c (bb (i_t (by omega) (gu rfl)) ?_);rw [hB k i hi' _ (by (try simp only [gA,gB,gC]); omega),Nb hL hB k (i+1) _ (by omega) (by omega) (by (try simp only [gA,gB,gC]); omega)];simp
  ·refine i_f c ?_;rw [List.drop_eq_nil_iff.2 (by omega)]; simp [J3]
theorem Oy {l:List Nd} {L:Nat→Ge→Int→Option Ge} {B:Nat→Int→Ge→Option Ge} {K:Nat}
  (hL:∀ k acc i,L (k+1) acc i=(if i <(l.length:Int) then (Option.bind ((if i > 0 then (if acc.length+([44,32]:Ge).length≤9223372036854775807 then some (acc++([44,32]:Ge)) else none) else some acc):Option Ge) (B k i)) else some acc))
  (hB:∀ (k i:Nat) (hi:i < l.length) (acc:Ge),acc.length+(txt (pe l[i])).length≤200000000→B k (i:Int) acc=L k (acc++txt (pe l[i])) ((i+1:Nat):Int))
  (hK:l.length < K) (hl:(txt (E9 (pes l))).length≤100000000):L K [] 0=some (txt (E9 (pes l))):=by
 obtain ⟨K,rfl⟩:∃ g,K=g+1:=⟨K - 1,by omega⟩
 rw [hL];cases l with
 | nil=>rfl
 | cons x l =>
  rw [M9] at hl ⊢;rw [List.length_append] at hl;refine i_t (by (try simp only [gA,gB,gC]); omega) (bb (i_f (by decide) rfl) ?_);have h0:=hB K 0 (by simp) [] (by simp; omega);refine h0.trans ?_;have h1:=Nb hL hB K 1 ([]++txt (pe x)) (by omega) (by simpa using hK) (by simp; omega);exact h1
theorem Qy {K:Nat} {R:Bd} {l:List Nd} (h:∀ x∈l,R.Bc x=some (txt (pe x))) (hb:l.length≤100000000) (hK:l.length < K) (hl:(txt (E9 (pes l))).length≤100000000):Cn.F K R l=some (txt (E9 (pes l))):=by
 unfold Cn.F;refine bb (Oy (L:=fun k acc i=>Cn.l9 K R l k acc i) (B:=fun k i acc=>(if (0:Int)≤i∧(i:Int) <(l.length:Int) then ((R.Bc (l.getD (Int.toNat i) Ah)).bind fun a1=>(if acc.length+a1.length≤9223372036854775807 then Cn.l9 K R l k (acc++a1) (IntKind.i64.wrap (i+1)) else none)) else none)) (fun k acc i=>rfl) (fun k i hi acc ha=>?_) hK hl) rfl;refine gu ?_;rw [Int.toNat_natCast,Hf hi];refine bb (h _ (List.getElem_mem hi)) (gu ?_);rw [w64 (by omega) (by omega)]; rfl
theorem Sd {x y:Nd} (h:IsP x) (hy:x.Kids=[y]):txt (pe x)=quo x.Text++(58 :: 32 :: txt (pe y)):=by
 rw [Jr] at h;rw [H3,hy,h.1];show txt (qT x.Text :: qS [58] :: qB :: pe y)=_;simp
theorem Sn {K:Nat} (hK1:10000≤K) (hK2:K < 8000000) {R:Bd} {l:List Nd} (h:∀ x∈l,∀ y,x.Kids=[y]→IsE y→R.Bc y=some (txt (pe y))) (hb:l.length≤100000000) (hK:l.length < K) (hl:(txt (E9 (pes l))).length≤100000000) (hp:∀ x∈l,IsP x):C6.F K R l=some (txt (E9 (pes l))):=by
 unfold C6.F;refine bb (Oy (L:=fun k acc i=>C6.l9 K R l k acc i) (B:=fun k i acc=>(if (0:Int)≤i∧(i:Int) <(l.length:Int) then ((Ds K ((l.getD (Int.toNat i) Ah).Text)).bind fun a1=>(if acc.length+a1.length≤9223372036854775807 then (if (acc++a1).length+([58,32]:Ge).length≤9223372036854775807 then (if (0:Int) <(((l.getD (Int.toNat i) Ah).Kids).length:Int) then ((R.Bc (((l.getD (Int.toNat i) Ah).Kids).getD (Int.toNat 0) Ah)).bind fun a2=>(if ((acc++a1)++([58,32]:Ge)).length+a2.length≤9223372036854775807 then C6.l9 K R l k (((acc++a1)++([58,32]:Ge))++a2) (IntKind.i64.wrap (i+1)) else none)) else none) else none) else none)) else none)) (fun k acc i=>rfl) (fun k i hi acc ha=>?_) hK hl) rfl;refine gu ?_;rw [Int.toNat_natCast,Hf hi];have hm:=List.getElem_mem hi;have hP:=hp _ hm;have hP':=hP;rw [Jr] at hP';obtain ⟨ho,p1,p2,p3,p4,p5⟩:=hP';obtain ⟨y,hy⟩:=Gi p4;rw [F8] at p5;have hE:=p5 y (by rw [hy]; exact .head _);have et:=Sd hP hy;rw [et] at ha ⊢;simp only [List.length_append,List.length_cons] at ha;rw [hy];refine bb (Lp (by omega) (by omega) hK2) (gu (gu (gu (bb (h _ hm y hy hE) (gu ?_)))));rw [w64 (by omega) (by omega)];have e:acc++quo l[i].Text++[58,32]++txt (pe y)=acc++(quo l[i].Text++58 :: 32 :: txt (pe y)):=by simp
 show C6.l9 K R l k _ _=C6.l9 K R l k _ _;rw [e]; rfl
theorem Rm (u:Nat):IntKind.u8.wrap (IntKind.i64.wrap (48+IntKind.i64.wrap (0 - Int.tmod (-(u:Int)) 10)))=((48+u % 10:Nat):Int):=by
 have e:Int.tmod (-(u:Int)) 10 = -((u % 10:Nat):Int):=by rw [Int.neg_tmod]; rfl
 rw [e,show (0:Int) - -((u % 10:Nat):Int)=((u % 10:Nat):Int) by omega,w64 (x:=((u % 10:Nat):Int)) (by omega) (by omega),w64 (by omega) (by omega),Qx (by omega) (by omega)]; omega
theorem Ld (K:Nat):∀ (j u:Nat),u < 10 ^ (j+1)→u≤9223372036854775807→∀ f,j < f→(Ef.upto K f).Do (-(u:Int))=some (Lib.decDigits u)
 | j,u,hu,hb,f,hf=>by
  obtain ⟨f,rfl⟩:∃ g,f=g+1:=⟨f - 1,by omega⟩
  show Do.F K (Ef.upto K f) (-(u:Int))=_;unfold Do.F;rw [Rm];refine gu ?_;rw [Int.toNat_natCast];by_cases h10:u < 10
  ·rw [J9 h10];refine i_t (by omega) ?_;rw [Nat.mod_eq_of_lt h10]; rfl
  ·match j,hu with
   | 0,hu=>simp at hu; omega
   | j+1,hu =>
    have e:IntKind.i64.wrap (Int.tdiv (-(u:Int)) 10) = -((u / 10:Nat):Int):=by
     have e':Int.tdiv (-(u:Int)) 10 = -((u / 10:Nat):Int):=by rw [Int.neg_tdiv]; rfl
     rw [e',w64 (by omega) (by omega)]
    have ih:=Ld K j (u / 10) (by rw [Nat.div_lt_iff_lt_mul (by decide)]; rw [Nat.pow_succ] at hu; exact hu) (by omega) f (by omega);have hl:=Mc 19 (u / 10) (by omega);rw [Pb h10];refine i_f (by omega) (bb (by rw [e]; exact ih) (gu rfl (by simp; omega)))
theorem Tb {K:Nat} {n:Int} (hK:10000≤K) (h:0≤n) (h2:n≤9223372036854775807):F9 K n=some (Lib.itoa n):=by
 obtain ⟨u,rfl⟩:=Int.eq_ofNat_of_zero_le h;have h2':u≤9223372036854775807:=by omega
 unfold F9 Lib.itoa;refine i_f (by omega) (bb (a:=Lib.decDigits u) ?_ ?_)
 ·show Do K (IntKind.i64.wrap (0 - (u:Int)))=_;rw [show (0:Int) - (u:Int) = -(u:Int) by omega,w64 (x:= -(u:Int)) (by omega) (by omega)];exact Ld K 19 u (by omega) h2' K (by omega)
 ·rw [if_neg (by omega)]; rfl
theorem On {K:Nat} (hK:10000≤K) (hK2:K < 8000000):∀ (m:Nat) (n:Nd),nsz n≤m→m≤4000→Rg n→IsE n→∀ f,3 * nsz n≤f→(Bd.upto K f).Bc n=some (txt (pe n))
 | 0,n,h,_,_,_,_,_=>by have:=Gx n; omega
 | m+1,n,h,hm,hg,hE,f,hf=>by
  obtain ⟨f,rfl⟩:∃ g,f=g+3:=⟨f - 3,by have:=Gx n; omega⟩
  have hsz:=Gg n;have hln:=Ik (nsz n) n (Nat.le_refl _) hg (.inl hE);have hlk:=Gf n.Kids;rw [I8,H4] at hg;have kid:∀ x∈n.Kids,IsE x→∀ g,f≤g→(Bd.upto K g).Bc x=some (txt (pe x)):=fun x hx hh g hg'=>On hK hK2 m x (by have:=D7 hx; omega) (by omega) (hg.2 x hx) hh g (by have:=D7 hx; omega)
  have len:∀ x∈n.Kids,IsE x∨IsP x→(txt (pe x)).length≤70000000:=fun x hx hh=>by
   have h1:=Ik (nsz x) x (Nat.le_refl _) (hg.2 x hx) hh;have h2:=D7 hx;unfold tl at h1; omega
  have opk:∀ x∈n.Kids,IsE x→∀ (r:Nat) (q:Int),q=r→∀ g,f≤g→(Bd.upto K (g+1)).Cq x q=some (txt (opd (x.Op,pe x) r)):=fun x hx hh r q hq g hg'=>Qz hq (kid x hx hh g hg') (by have:=len x hx (.inl hh); omega)
  have opl:∀ x∈n.Kids,IsE x→∀ r:Nat,(txt (opd (x.Op,pe x) r)).length≤70000002:=fun x hx hh r=>by
   have h1:=Jh (x:=x) (r:=r);have h2:=len x hx (.inl hh);unfold tl at h1; omega
  have lstl:(∀ x∈n.Kids,IsE x∨IsP x)→(txt (E9 (pes n.Kids))).length≤70000000:=fun hh=>by
   have h1:=Io fun x hx=>Ik (nsz x) x (Nat.le_refl _) (hg.2 x hx) (hh x hx)
   unfold tl at h1; omega
  have lst:(∀ x∈n.Kids,IsE x)→(Bd.upto K (f+2)).Cn n.Kids=some (txt (E9 (pes n.Kids))):=fun hh=>Qy (fun x hx=>kid x hx (hh x hx) (f+1) (by omega)) (by omega) (by omega) (by have:=lstl (fun x hx=>.inl (hh x hx)); omega)
  have prs:(∀ x∈n.Kids,IsP x)→(Bd.upto K (f+2)).C6 n.Kids=some (txt (E9 (pes n.Kids))):=fun hh=>Sn hK hK2 (fun x hx y hy hE=>by
   have hy':y∈x.Kids:=by rw [hy]; exact .head _
   have h1:=D7 hx;have h2:=D7 hy';have h3:=Gg x;have h4:=hg.2 x hx;rw [I8,H4] at h4;exact On hK hK2 m y (by omega) (by omega) (h4.2 y hy') hE (f+1) (by omega)) (by omega) (by omega) (by have:=lstl (fun x hx=>.inr (hh x hx)); omega) hh
  show Bc.F K (Bd.upto K (f+2)) n=_;rw [H3];unfold Bc.F
  ·rw [Jm] at hE;unfold EX at hE;rcases hE with ⟨ho,h1,h2,h3,h4⟩ |⟨ho,h1,h2,h3,h4⟩ |⟨ho,h1,h2,h3,h4⟩ |⟨ho,h1,h2,h3,h4⟩ |⟨ho,h1,h2,h3,h4⟩ |⟨ho,h1,h2,h3,h4⟩ |⟨ho,h1,h2,h3,h4⟩ |⟨ho,h1,h2,h3,h4,h5⟩ |⟨ho,h1,h2,h3,h4,h5⟩ |⟨ho,h1,h2,h3,h4,h5⟩
   ·rcases ho with ho | ho | ho <;> rw [ho]
    ·refine bb (He rfl) (i_f (by decide) ?_);simp only [Int.reduceEq,↓reduceIte];exact rfl
    ·refine bb (He rfl) (i_f (by decide) ?_);simp only [Int.reduceEq,↓reduceIte];exact rfl
    ·refine bb (He rfl) (i_f (by decide) ?_);simp only [Int.reduceEq,↓reduceIte];exact rfl
   ·rw [ho];refine bb (He rfl) (i_f (by decide) ?_);simp only [Int.reduceEq,↓reduceIte];refine bb (Tb (by omega) h3 hg.1) (congrArg some ?_);show _=txt [qI n.Int];rw [Hk,I7,List.append_nil]; rfl
   ·rw [ho];refine bb (He rfl) (i_f (by decide) ?_);simp only [Int.reduceEq,↓reduceIte];refine bb (Lp (by omega) (by omega) hK2) (congrArg some ?_);show _=txt [qT n.Text];rw [Hk,I7,List.append_nil]; rfl
   ·rw [ho];refine bb (He rfl) (i_f (by decide) ?_);simp only [Int.reduceEq,↓reduceIte];refine congrArg some ?_;show _=txt [qN n.Name];rw [Hk,I7,List.append_nil]; rfl
   ·rw [F8] at h4;have hh:∀ x∈n.Kids,IsE x∨IsP x:=fun x hx=>.inl (h4 x hx)
    have:=lstl hh
    rw [ho];refine bb (He rfl) (i_f (by decide) ?_);simp only [Int.reduceEq,↓reduceIte];refine bb (lst h4) (gu (gu (congrArg some ?_)));show _=txt (qS [91] ::(E9 (pes n.Kids)++[qS [93]]));simp
   ·rw [Jp] at h4;have hh:∀ x∈n.Kids,IsE x∨IsP x:=fun x hx=>.inr (h4 x hx)
    have:=lstl hh
    rw [ho];refine bb (He rfl) (i_f (by decide) ?_);simp only [Int.reduceEq,↓reduceIte];refine bb (prs h4) (gu (gu (congrArg some ?_)));show _=txt (qS [123] ::(E9 (pes n.Kids)++[qS [125]]));simp
   ·rw [F8] at h4;have hh:∀ x∈n.Kids,IsE x∨IsP x:=fun x hx=>.inl (h4 x hx)
    have:=lstl hh
    have hn:=h1.2.1;rcases ho with ho | ho <;> rw [ho]
    ·refine bb (He rfl) (i_f (by decide) ?_);simp only [Int.reduceEq,↓reduceIte];refine gu (bb (lst h4) (gu (gu (congrArg some ?_))));show _=txt (qN n.Name :: qS [40] ::(E9 (pes n.Kids)++[qS [41]]));simp
    ·refine bb (He rfl) (i_f (by decide) ?_);simp only [Int.reduceEq,↓reduceIte];refine gu (gu (bb (lst h4) (gu (gu (congrArg some ?_)))));show _=txt (qK [103,111] :: qB :: qN n.Name :: qS [40] ::(E9 (pes n.Kids)++[qS [41]]));simp
   ·obtain ⟨x,hx⟩:=Gi h4;rw [F8] at h5;have hm:x∈n.Kids:=by rw [hx]; exact .head _
    have o7:=opk x hm (h5 x hm) 7 7 rfl (f+1) (by omega);have o3:=opk x hm (h5 x hm) 3 3 rfl (f+1) (by omega);have l7:=opl x hm (h5 x hm) 7;have l3:=opl x hm (h5 x hm) 3;rw [hx];rcases ho with ho | ho | ho <;> rw [ho]
    ·refine bb (He rfl) (i_f (by decide) ?_);simp only [Int.reduceEq,↓reduceIte];refine gu (bb o7 (gu (congrArg some ?_)));show _=txt (qK [97,119,97,105,116] :: qB :: opd (x.Op,pe x) 7);simp
    ·refine bb (He rfl) (i_f (by decide) ?_);simp only [Int.reduceEq,↓reduceIte];refine gu (bb o3 (gu (congrArg some ?_)));show _=txt (qK [110,111,116] :: qB :: opd (x.Op,pe x) 3);simp
    ·refine bb (He rfl) (i_f (by decide) ?_);simp only [Int.reduceEq,↓reduceIte];refine gu (bb o7 (gu (congrArg some ?_)));show _=txt (qS [45] :: opd (x.Op,pe x) 7);simp
   ·obtain ⟨x,hx⟩:=Gi h4;rw [F8] at h5;have hm:x∈n.Kids:=by rw [hx]; exact .head _
    have o8:=opk x hm (h5 x hm) 8 8 rfl (f+1) (by omega);have l8:=opl x hm (h5 x hm) 8;have hn:=h1.2.1;rw [hx,ho];refine bb (He rfl) (i_f (by decide) ?_);simp only [Int.reduceEq,↓reduceIte];refine gu (bb o8 (gu (gu (congrArg some ?_))));show _=txt (opd (x.Op,pe x) 8++[qS [46],qN n.Name]);simp
   ·obtain ⟨x,y,hx⟩:=Iq h4;rw [F8] at h5;have hmx:x∈n.Kids:=by rw [hx]; exact .head _
    have hmy:y∈n.Kids:=by rw [hx]; exact .tail _ (.head _)
    have lx:=opl x hmx (h5 x hmx);have ly:=opl y hmy (h5 y hmy);have ky:=kid y hmy (h5 y hmy) (f+2) (by omega);have ley:=len y hmy (.inl (h5 y hmy));rw [hx];cases hb:bsg n.Op with
    | none =>
     have ho8:n.Op=28:=by
      rcases ho with ⟨ha,hc⟩
      have:n.Op=15∨n.Op=16∨n.Op=17∨n.Op=18∨n.Op=19∨n.Op=20∨n.Op=21∨n.Op=22∨n.Op=23∨n.Op=24∨n.Op=25∨n.Op=26∨n.Op=27∨n.Op=28:=by omega
      rcases this with e | e | e | e | e | e | e | e | e | e | e | e | e | e
      all_goals first | exact e |(rw [e] at hb; cases hb)
     have:=lx 8
     rw [ho8];refine bb (He rfl) (i_f (by decide) ?_);simp only [Int.reduceEq,↓reduceIte];refine gu (bb (opk x hmx (h5 x hmx) 8 8 rfl (f+1) (by omega)) (gu (gu (bb ky (gu (gu (congrArg some ?_)))))));show _=txt (opd (x.Op,pe x) 8++qS [91] ::(pe y++[qS [93]]));simp
    | some p =>
     obtain ⟨sg,v⟩:=p;have hv:=Q8 hb;have hs:=Nx hb;have hy:=opk y hmy (h5 y hmy) (v+1) (IntKind.i64.wrap ((v:Int)+1)) (by rw [w64 (by omega) (by omega)]; rfl) f (by omega);have l1:=lx (if v=4 then 5 else v);have l2:=ly (v+1);have hlv:lv n.Op=v:=by unfold lv; rw [hb]
     have e1:Fc K n.Op=some (v:Int):=by rw [O0,hlv]
     refine bb (Nk hb) (i_t (Sz hb) (bb (a:=txt (PX n.Op n.Name n.Int n.Text (pes [x,y]))) ?_ rfl));show D8.F K (Bd.upto K (f+1)) n=_;unfold D8.F;rw [hx];refine bb e1 (bb e1 (bb (a:=((if v=4 then 5 else v:Nat):Int)) ?_ (gu (bb (opk x hmx (h5 x hmx) (if v=4 then 5 else v) _ rfl f (by omega)) (gu (bb (Nk hb) (gu (gu (gu (bb hy (gu (congrArg some ?_))))))))))))
     ·by_cases h4:v=4
      ·subst h4; rfl
      ·rw [if_neg (by omega),if_neg h4]
     ·unfold PX;rw [hb];show _=txt (opd (x.Op,pe x) (if v=4 then 5 else v)++qB :: sg :: qB :: opd (y.Op,pe y) (v+1));simp
theorem Ly {K:Nat} (hK:20000≤K) (hK2:K < 8000000) {n:Nd} (h:nsz n≤4000) (hg:Rg n) (hE:IsE n):Bc K n=some (txt (pe n)) :=
 On (by omega) hK2 (nsz n) n (Nat.le_refl _) h hg hE K (by omega)
theorem O9 {K:Nat} (hK:20000≤K) (hK2:K < 8000000) {l:List Nd} (h:lsz l≤4000) (hg:∀ x∈l,Rg x) (hE:∀ x∈l,IsE x):Cn K l=some (txt (E9 (pes l))):=by
 obtain ⟨K',rfl⟩:∃ g,K=g+1:=⟨K - 1,by omega⟩
 have hl:=Kw h hg hE
 have:=Gf l
 exact Qy (fun x hx=>On (by omega) hK2 (nsz x) x (Nat.le_refl _) (by have:=D7 hx; omega) (hg x hx) (hE x hx) K' (by have:=D7 hx; omega)) (by omega) (by omega) (by omega)
theorem Sy {K:Nat} (hK:20000≤K) (hK2:K < 8000000):∀ (m:Nat) (n:Nd),nsz n≤m→m≤4000→Rg n→∀ k,k+ndp n≤100→∀ f,
  (IsB n→2 * nsz n≤f→(A1.upto K f).A8 n (W k)=some (txt (ps n k))) ∧
  (IsS n→2 * nsz n≤f→(A1.upto K f).Di n (W k)=some (txt (ps n k))) ∧
  (IsS n→n.Op=42→2 * nsz n≤f+1→(A1.upto K f).C2 n (W k)=some (txt (ps n k)))
 | 0,n,h,_,_,k,_,_=>by have:=Gx n; omega
 | m+1,n,h,hm,hg,k,hd,f=>by
  have hsz:=Gg n;have hdp:=Hp n;have hlk:=Gf n.Kids;have hw:=Mh k;have hw1:=Mh (k+1);have hpos:=Gx n;have hlen:(IsB n∨IsS n∨IsC n∨IsZ n)→(txt (ps n k)).length≤72000000:=fun hn=>Lq (by omega) hg hn hd
  rw [I8,H4] at hg;have kx:∀ x∈n.Kids,nsz x≤lsz n.Kids∧ndp x+1≤ndp n:=fun x hx=>⟨D7 hx,by have:=H6 hx; omega⟩
  have kid:∀ x∈n.Kids,∀ k',k'≤k+1→∀ g,_:=fun x hx k' hk' g=>Sy hK hK2 m x (by have:=kx x hx; omega) (by omega) (hg.2 x hx) k' (by have:=kx x hx; omega) g
  have kB:∀ x∈n.Kids,IsB x→∀ k',k'≤k+1→∀ g,2 * nsz n≤g+2→(A1.upto K g).A8 x (W k')=some (txt (ps x k')):=fun x hx hB k' hk' g hg'=>(kid x hx k' hk' g).1 hB (by have:=kx x hx; omega)
  have kS:∀ x∈n.Kids,IsS x→∀ k',k'≤k+1→∀ g,2 * nsz n≤g+2→(A1.upto K g).Di x (W k')=some (txt (ps x k')):=fun x hx hB k' hk' g hg'=>(kid x hx k' hk' g).2.1 hB (by have:=kx x hx; omega)
  have kC:∀ x∈n.Kids,IsS x→x.Op=42→∀ k',k'≤k+1→∀ g,2 * nsz n≤g+2→(A1.upto K g).C2 x (W k')=some (txt (ps x k')):=fun x hx hB ho k' hk' g hg'=>(kid x hx k' hk' g).2.2 hB ho (by have:=kx x hx; omega)
  have kE:∀ x∈n.Kids,IsE x→Bc K x=some (txt (pe x)):=fun x hx hE=>Ly hK hK2 (by have:=kx x hx; omega) (hg.2 x hx) hE
  have lE:∀ x∈n.Kids,IsE x→(txt (pe x)).length≤70000000:=fun x hx hE=>Ol (by have:=kx x hx; omega) (hg.2 x hx) hE
  have lP:∀ x∈n.Kids,IsB x∨IsS x∨IsC x∨IsZ x→∀ k',k'≤k+1→(txt (ps x k')).length≤72000000:=fun x hx hn k' hk'=>Lq (by have:=kx x hx; omega) (hg.2 x hx) hn (by have:=kx x hx; omega)
  have tP:(∀ x∈n.Kids,IsB x∨IsS x∨IsC x∨IsZ x)→(n.Kids.flatMap (lnT k)).length≤72000000:=fun hn=>by
   rw [Ih];exact Mi (by omega) (by omega) fun x hx=>K4 (nsz x) x (Nat.le_refl _) (hg.2 x hx) (hn x hx) (k+1) (by have:=kx x hx; omega)
  have chc:∀ g,IsS n→n.Op=42→2 * nsz n≤g+1→(A1.upto K g).C2 n (W k)=some (txt (ps n k)):=fun g hn ho hgg=>by
   obtain ⟨g,rfl⟩:∃ g',g=g'+1:=⟨g - 1,by omega⟩
   show C2.F K (A1.upto K g) n (W k)=_;rw [Js] at hn;unfold SX at hn;have h4:I3 n.Kids:=by
    rcases hn with ⟨ho',_⟩ |⟨_,_,_,_,h4⟩ |⟨ho',_⟩ |⟨ho',_⟩ |⟨ho',_⟩ |⟨ho',_⟩ |⟨ho',_⟩ |⟨ho',_⟩ |⟨ho',_⟩
    all_goals first | exact h4 | omega
   obtain ⟨x,y,hx,hy,hc⟩:=L4 h4;rw [Hw,ho];unfold C2.F;rcases hc with hc |⟨z,hc,hz⟩
   ·have hmx:x∈n.Kids:=by rw [hc]; exact .head _
    have hmy:y∈n.Kids:=by rw [hc]; exact .tail _ (.head _)
    have l1:=lE x hmx hx;have l2:=lP y hmy (.inl hy) k (by omega);have e1:=kE x hmx hx;have e2:=kB y hmy hy k (by omega) g (by omega);rw [hc];refine gu (bb e1 (gu (gu (gu (bb e2 (gu (i_t (by (try simp only [gA,gB,gC]); omega) (congrArg some ?_))))))));show _=txt (qK [105,102] :: qB ::(pe x++qB ::(ps y k++[])));simp
   ·have hmx:x∈n.Kids:=by rw [hc]; exact .head _
    have hmy:y∈n.Kids:=by rw [hc]; exact .tail _ (.head _)
    have hmz:z∈n.Kids:=by rw [hc]; exact .tail _ (.tail _ (.head _))
    have l1:=lE x hmx hx;have l2:=lP y hmy (.inl hy) k (by omega);have l3:=lP z hmz (by rcases hz with hz | hz; exact .inl hz; exact .inr (.inl hz.2)) k (by omega);have e1:=kE x hmx hx;have e2:=kB y hmy hy k (by omega) g (by omega);have ez:z.Op=42→(A1.upto K g).C2 z (W k)=some (txt (ps z k)):=fun h42=>by
     rcases hz with hz | hz
     ·rw [Jl] at hz; omega
     ·exact kC z hmz hz.2 h42 k (by omega) g (by omega)
    have ez':¬ z.Op=42→(A1.upto K g).A8 z (W k)=some (txt (ps z k)):=fun h42=>by
     rcases hz with hz | hz
     ·exact kB z hmz hz k (by omega) g (by omega)
     ·exact absurd hz.1 h42
    rw [hc];refine gu (bb e1 (gu (gu (gu (bb e2 (gu (i_f (by (try simp only [gA,gB,gC]); omega) (gu ?_))))))));by_cases h42:z.Op=42
    ·refine i_t h42 (gu (bb (ez h42) (gu (congrArg some ?_))));show _=txt (qK [105,102] :: qB ::(pe x++qB ::(ps y k++qB :: qK [101,108,115,101] :: qB :: ps z k)));simp
    ·refine i_f h42 (gu (bb (ez' h42) (gu (congrArg some ?_))));show _=txt (qK [105,102] :: qB ::(pe x++qB ::(ps y k++qB :: qK [101,108,115,101] :: qB :: ps z k)));simp
  have css:∀ g,(∀ x∈n.Kids,IsC x∨IsZ x)→2 * nsz n≤g+1→(A1.upto K g).Cp n (W k)=some (([115,101,108,101,99,116,32,123]++[10])++(n.Kids.flatMap (lnT k)++(W k++[125]))):=fun g hn hgg=>by
   obtain ⟨g,rfl⟩:∃ g',g=g'+1:=⟨g - 1,by omega⟩
   have htl:=tP fun x hx=>.inr (.inr (hn x hx))
   show Cp.F K (A1.upto K g) n (W k)=_;unfold Cp.F;refine (bb (Ip (l:=n.Kids) (T:=lnT k) (L:=fun k1 acc i=>Cp.l9 K (A1.upto K g) n (W k) k1 acc i) (B:=fun k1 a b=>(if (0:Int)≤a∧(a:Int) <(n.Kids.length:Int) then (if b.length+(W k).length≤9223372036854775807 then (if (b++(W k)).length+([32,32]:Ge).length≤9223372036854775807 then (if (n.Kids.getD (Int.toNat a) Ah).Op=51 then (if ((b++(W k))++([32,32]:Ge)).length+([101,108,115,101,32]:Ge).length≤9223372036854775807 then (if (0:Int) <(((n.Kids.getD (Int.toNat a) Ah).Kids).length:Int) then (if (W k).length+([32,32]:Ge).length≤9223372036854775807 then (((A1.upto K g).A8 (((n.Kids.getD (Int.toNat a) Ah).Kids).getD (Int.toNat 0) Ah) ((W k)++([32,32]:Ge))).bind fun a1=>(if (((b++(W k))++([32,32]:Ge))++([101,108,115,101,32]:Ge)).length+a1.length≤9223372036854775807 then (if ((((b++(W k))++([32,32]:Ge))++([101,108,115,101,32]:Ge))++a1).length+([10]:Ge).length≤9223372036854775807 then Cp.l9 K (A1.upto K g) n (W k) k1 (((((b++(W k))++([32,32]:Ge))++([101,108,115,101,32]:Ge))++a1)++([10]:Ge)) (IntKind.i64.wrap (a+1)) else none) else none)) else none) else none) else none) else (if ((b++(W k))++([32,32]:Ge)).length+([99,97,115,101,32]:Ge).length≤9223372036854775807 then ((((if (n.Kids.getD (Int.toNat a) Ah).Name≠([]:Ge) then (if (((b++(W k))++([32,32]:Ge))++([99,97,115,101,32]:Ge)).length+((n.Kids.getD (Int.toNat a) Ah).Name).length≤9223372036854775807 then (if ((((b++(W k))++([32,32]:Ge))++([99,97,115,101,32]:Ge))++(n.Kids.getD (Int.toNat a) Ah).Name).length+([32,61,32]:Ge).length≤9223372036854775807 then some (((((b++(W k))++([32,32]:Ge))++([99,97,115,101,32]:Ge))++(n.Kids.getD (Int.toNat a) Ah).Name)++([32,61,32]:Ge)) else none) else none) else some (((b++(W k))++([32,32]:Ge))++([99,97,115,101,32]:Ge)))):Option Ge).bind fun c=>(if (0:Int) <(((n.Kids.getD (Int.toNat a) Ah).Kids).length:Int) then ((Bc K (((n.Kids.getD (Int.toNat a) Ah).Kids).getD (Int.toNat 0) Ah)).bind fun a2=>(if c.length+a2.length≤9223372036854775807 then (if (c++a2).length+([32]:Ge).length≤9223372036854775807 then (if (1:Int) <(((n.Kids.getD (Int.toNat a) Ah).Kids).length:Int) then (if (W k).length+([32,32]:Ge).length≤9223372036854775807 then (((A1.upto K g).A8 (((n.Kids.getD (Int.toNat a) Ah).Kids).getD (Int.toNat 1) Ah) ((W k)++([32,32]:Ge))).bind fun a3=>(if ((c++a2)++([32]:Ge)).length+a3.length≤9223372036854775807 then (if (((c++a2)++([32]:Ge))++a3).length+([10]:Ge).length≤9223372036854775807 then Cp.l9 K (A1.upto K g) n (W k) k1 ((((c++a2)++([32]:Ge))++a3)++([10]:Ge)) (IntKind.i64.wrap (a+1)) else none) else none)) else none) else none) else none) else none)) else none)) else none)) else none) else none) else none)) (fun k1 acc i=>rfl) (fun k1 i hi acc ha=>?_) (by omega) (by (try simp only [gA,gB,gC]); omega)) (gu (gu (congrArg some ?_))))
   ·unfold lnT at ha;simp only [List.length_append,List.length_cons,List.length_nil] at ha;refine gu ?_;rw [Int.toNat_natCast,Hf hi];have hx:=List.getElem_mem hi;have hl:=lP _ hx (.inr (.inr (hn _ hx))) (k+1) (by omega);have hgx:=hg.2 _ hx;have hkx:=kx _ hx;have hsx:=Gg n.Kids[i];have hdx:=Hp n.Kids[i];rw [I8,H4] at hgx;generalize n.Kids[i]=x at *;have kB2:∀ y∈x.Kids,IsB y→(A1.upto K g).A8 y (W (k+1))=some (txt (ps y (k+1))):=fun y hy hB=>(Sy hK hK2 m y (by have:=D7 hy; omega) (by omega) (hgx.2 y hy) (k+1) (by have:=H6 hy; omega) g).1 hB (by have:=D7 hy; omega)
    have lB2:∀ y∈x.Kids,IsB y→(txt (ps y (k+1))).length≤72000000:=fun y hy hB=>Lq (by have:=D7 hy; omega) (hgx.2 y hy) (.inl hB) (by have:=H6 hy; omega)
    have kE2:∀ y∈x.Kids,IsE y→Bc K y=some (txt (pe y)):=fun y hy hE=>Ly hK hK2 (by have:=D7 hy; omega) (hgx.2 y hy) hE
    have lE2:∀ y∈x.Kids,IsE y→(txt (pe y)).length≤70000000:=fun y hy hE=>Ol (by have:=D7 hy; omega) (hgx.2 y hy) hE
    rcases hn _ hx with hC | hZ
    ·rw [Kg] at hC;obtain ⟨ho,h1,h2,h3,h4⟩:=hC;obtain ⟨y,z,hc,hy,hz⟩:=Ji h4;have hmy:y∈x.Kids:=by rw [hc]; exact .head _
     have hmz:z∈x.Kids:=by rw [hc]; exact .tail _ (.head _)
     have l1:=lE2 y hmy hy;have l2:=lB2 z hmz hz;have e1:=kE2 y hmy hy;have e2:=kB2 z hmz hz;have et:lnT k x=W (k+1)++(([99,97,115,101,32]++((if x.Name=[] then [] else x.Name++[32,61,32])++(txt (pe y)++(32 :: txt (ps z (k+1))))))++[10]):=by
      unfold lnT;rw [Hw,ho,hc];show W (k+1)++(txt (qK [99,97,115,101] :: qB ::((if x.Name=[] then [] else [qN x.Name,qB,qS [61],qB])++(pe y++qB :: ps z (k+1))))++[10])=_;by_cases hne:x.Name=[]
      ·rw [if_pos hne,if_pos hne]; simp
      ·rw [if_neg hne,if_neg hne]; simp
     rw [et,ho,hc];rw [← Jf] at e2;refine gu (gu (i_f (by decide) (gu ?_)));by_cases hne:x.Name=[]
     ·rw [if_pos hne];refine bb (i_f (by rw [hne]; decide) rfl) (gu (bb e1 (gu (gu (gu (gu (bb e2 (gu (gu ?_)))))))));rw [w64 (by omega) (by omega),← Jf];refine Jb (fun s=>Cp.l9 K (A1.upto K g) n (W k) k1 s _) ?_;simp
     ·have hnm:x.Name.length≤64:=by
       rcases h1 with h1 | h1
       ·exact absurd h1 hne
       ·exact h1.2.1
      rw [if_neg hne];refine bb (i_t hne (gu (gu rfl))) (gu (bb e1 (gu (gu (gu (gu (bb e2 (gu (gu ?_)))))))));rw [w64 (by omega) (by omega),← Jf];refine Jb (fun s=>Cp.l9 K (A1.upto K g) n (W k) k1 s _) ?_;simp
    ·rw [Kh] at hZ;obtain ⟨ho,h1,h2,h3,h4,h5⟩:=hZ;obtain ⟨y,hc⟩:=Gi h4;rw [Ia] at h5;have hmy:y∈x.Kids:=by rw [hc]; exact .head _
     have l1:=lB2 y hmy (h5 y hmy);have e1:=kB2 y hmy (h5 y hmy);have et:lnT k x=W (k+1)++(([101,108,115,101,32]++txt (ps y (k+1)))++[10]):=by
      unfold lnT;rw [Hw,ho,hc];show W (k+1)++(txt (qK [101,108,115,101] :: qB :: ps y (k+1))++[10])=_;simp
     rw [et,ho,hc];rw [← Jf] at e1;refine gu (gu (i_t rfl (gu (gu (gu (bb e1 (gu (gu ?_))))))));rw [w64 (by omega) (by omega),← Jf];refine Jb (fun s=>Cp.l9 K (A1.upto K g) n (W k) k1 s _) ?_;simp
   ·simp
  refine ⟨fun hn hf=>?_,fun hn hf=>?_,fun hn ho hf=>chc f hn ho hf⟩
  ·obtain ⟨f,rfl⟩:∃ g,f=g+1:=⟨f - 1,by omega⟩
   have hl:=hlen (.inl hn);rw [Jl,Kf] at hn;obtain ⟨ho,h1,h2,h3,h4⟩:=hn;have htl:=tP fun x hx=>.inr (.inl (h4 x hx))
   show A8.F K (A1.upto K f) n (W k)=_;unfold A8.F;refine bb (Ip (l:=n.Kids) (T:=lnT k) (L:=fun k1 acc i=>A8.l9 K (A1.upto K f) n (W k) k1 acc i) (B:=fun k1 a b=>(if b.length+(W k).length≤9223372036854775807 then (if (b++(W k)).length+([32,32]:Ge).length≤9223372036854775807 then (if (0:Int)≤a∧(a:Int) <(n.Kids.length:Int) then (if (W k).length+([32,32]:Ge).length≤9223372036854775807 then (((A1.upto K f).Di (n.Kids.getD (Int.toNat a) Ah) ((W k)++([32,32]:Ge))).bind fun a1=>(if ((b++(W k))++([32,32]:Ge)).length+a1.length≤9223372036854775807 then (if (((b++(W k))++([32,32]:Ge))++a1).length+([10]:Ge).length≤9223372036854775807 then A8.l9 K (A1.upto K f) n (W k) k1 ((((b++(W k))++([32,32]:Ge))++a1)++([10]:Ge)) (IntKind.i64.wrap (a+1)) else none) else none)) else none) else none) else none) else none)) (fun k1 acc i=>rfl) (fun k1 i hi acc ha=>?_) (by omega) (by (try simp only [gA,gB,gC]); omega)) (gu (gu (congrArg some ?_)))
   ·unfold lnT at ha;simp only [List.length_append,List.length_cons,List.length_nil] at ha;have hx:=List.getElem_mem hi;have e1:=kS _ hx (h4 _ hx) (k+1) (by omega) f (by omega);rw [← Jf] at e1;refine gu (gu (gu (gu ?_)));rw [Int.toNat_natCast,Hf hi];refine bb e1 (gu (gu ?_));rw [w64 (by omega) (by omega)];unfold lnT;rw [← Jf];refine Jb (fun s=>A8.l9 K (A1.upto K f) n (W k) k1 s _) ?_;simp
   ·rw [Ih,Hw,ho];show _=txt (qS [123] :: qR ::(lines (pks n.Kids) k++[qW k,qS [125]]));simp
  ·obtain ⟨f,rfl⟩:∃ g,f=g+1:=⟨f - 1,by omega⟩
   have hl:=hlen (.inr (.inl hn));have hn':=hn;show Di.F K (A1.upto K f) n (W k)=_;rw [Js] at hn;unfold SX at hn;unfold Di.F;rcases hn with ⟨ho,h1,h2,h3,h4,h5⟩ |⟨ho,h1,h2,h3,h4⟩ |⟨ho,h1,h2,h3,h4⟩ |⟨ho,h1,h2,h3,h4,h5⟩ |⟨ho,h1,h2,h3,h4,h5⟩ |⟨ho,h1,h2,h3,h4,h5⟩ |⟨ho,h1,h2,h3,h4,h5⟩ |⟨ho,h1,h2,h3,h4⟩ |⟨ho,h1,h2,h3,h4,h5⟩
   ·obtain ⟨x,hx⟩:=Gi h4;rw [F8] at h5;have hmx:x∈n.Kids:=by rw [hx]; exact .head _
    have e1:=kE x hmx (h5 x hmx);have l1:=lE x hmx (h5 x hmx);have hm:=h1.2.1;rw [Hw,hx];rcases ho with ho | ho <;> rw [ho]
    ·simp only [Int.reduceEq,↓reduceIte];refine gu (gu (gu (bb e1 (gu (gu (congrArg some ?_))))));show _=txt (qK [108,101,116] :: qB :: qN n.Name :: qB :: qS [61] :: qB ::(pe x++[qS [59]]));simp
    ·simp only [Int.reduceEq,↓reduceIte];refine gu (gu (bb e1 (gu (gu (congrArg some ?_)))));show _=txt (qN n.Name :: qB :: qS [61] :: qB ::(pe x++[qS [59]]));simp
   ·refine (show _ from ?_);have e:=chc f hn' ho (by omega);rw [ho];simp only [Int.reduceEq,↓reduceIte];exact bb e rfl
   ·obtain ⟨x,y,hc,hx,hy⟩:=Ji h4;have hmx:x∈n.Kids:=by rw [hc]; exact .head _
    have hmy:y∈n.Kids:=by rw [hc]; exact .tail _ (.head _)
    have e1:=kE x hmx hx;have l1:=lE x hmx hx;have e2:=kB y hmy hy k (by omega) f (by omega);have l2:=lP y hmy (.inl hy) k (by omega);rw [Hw,ho,hc];simp only [Int.reduceEq,↓reduceIte];refine gu (bb e1 (gu (gu (gu (bb e2 (gu (congrArg some ?_)))))));show _=txt (qK [119,104,105,108,101] :: qB ::(pe x++qB :: ps y k));simp
   ·rw [Hw,ho];cases hk:n.Kids with
    | nil =>
     simp only [Int.reduceEq,↓reduceIte];refine i_t (by (try simp only [gA,gB,gC]); omega) (congrArg some ?_);show _=txt [qK [114,101,116,117,114,110],qS [59]];simp
    | cons x l =>
     rw [F8] at h5;have hmx:x∈n.Kids:=by rw [hk]; exact .head _
     have e1:=kE x hmx (h5 x hmx);have l1:=lE x hmx (h5 x hmx);simp only [Int.reduceEq,↓reduceIte];refine i_f (by (try simp only [gA,gB,gC]); omega) (gu (bb e1 (gu (gu (congrArg some ?_)))));show _=txt (qK [114,101,116,117,114,110] :: qB ::(pe x++[qS [59]]));simp
   ·obtain ⟨x,hx⟩:=Gi h4;rw [F8] at h5;have hmx:x∈n.Kids:=by rw [hx]; exact .head _
    have e1:=kE x hmx (h5 x hmx);have l1:=lE x hmx (h5 x hmx);rw [Hw,hx];rcases ho with ho | ho <;> rw [ho]
    ·simp only [Int.reduceEq,↓reduceIte];refine gu (bb e1 (gu (gu (congrArg some ?_))));show _=txt (qK [116,104,114,111,119] :: qB ::(pe x++[qS [59]]));simp
    ·simp only [Int.reduceEq,↓reduceIte];refine gu (bb e1 (gu (congrArg some ?_)));show _=txt (pe x++[qS [59]]);simp
   ·obtain ⟨x,y,hx⟩:=Iq h4;rw [Ia] at h5;have hmx:x∈n.Kids:=by rw [hx]; exact .head _
    have hmy:y∈n.Kids:=by rw [hx]; exact .tail _ (.head _)
    have e1:=kB x hmx (h5 x hmx) k (by omega) f (by omega);have l1:=lP x hmx (.inl (h5 x hmx)) k (by omega);have e2:=kB y hmy (h5 y hmy) k (by omega) f (by omega);have l2:=lP y hmy (.inl (h5 y hmy)) k (by omega);have hm:=h1.2.1;rw [Hw,ho,hx];simp only [Int.reduceEq,↓reduceIte];refine gu (bb e1 (gu (gu (gu (gu (gu (bb e2 (gu (congrArg some ?_)))))))));show _=txt (qK [116,114,121] :: qB ::(ps x k++qB :: qK [99,97,116,99,104] :: qB :: qN n.Name :: qB :: ps y k));simp
   ·obtain ⟨x,hx⟩:=Gi h4;rw [Ia] at h5;have hmx:x∈n.Kids:=by rw [hx]; exact .head _
    have e1:=kB x hmx (h5 x hmx) k (by omega) f (by omega);have l1:=lP x hmx (.inl (h5 x hmx)) k (by omega);rw [Hw,ho,hx];simp only [Int.reduceEq,↓reduceIte];refine gu (bb e1 (gu (congrArg some ?_)));show _=txt (qK [115,97,103,97] :: qB :: ps x k);simp
   ·rw [F8] at h4;have e1:=O9 hK hK2 (by omega) hg.2 h4;have l1:=Kw (by omega) hg.2 h4;have hm:=h1.2.1;rw [Hw,ho];simp only [Int.reduceEq,↓reduceIte];refine gu (gu (bb e1 (gu (gu (congrArg some ?_)))));show _=txt (qK [117,110,100,111] :: qB :: qN n.Name :: qS [40] ::(Lf (pks n.Kids)++[qS [41],qS [59]]));rw [Ky];simp
   ·have e:=css f (fun x hx=>Ma h5 x hx) (by omega);rw [Hw,ho];simp only [Int.reduceEq,↓reduceIte];refine bb e (congrArg some ?_);show _=txt (qK [115,101,108,101,99,116] :: qB :: qS [123] :: qR ::(lines (pks n.Kids) k++[qW k,qS [125]]));rw [Ih];simp
end Go.Proofs.YtdgejpgbppfhmaaGreatDoor
