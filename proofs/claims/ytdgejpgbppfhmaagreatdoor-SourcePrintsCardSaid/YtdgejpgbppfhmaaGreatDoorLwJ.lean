import Derived.Test.YtdgejpgbppfhmaaGreatDoorLwI
set_option linter.unusedVariables false
set_option linter.unusedSimpArgs false
set_option maxHeartbeats 4000000
namespace Go.Proofs.YtdgejpgbppfhmaaGreatDoor
open Eng Go
theorem Ry {K:Nat} (hK:20000≤K) (hK2:K < 8000000) {x:Nd} (h:nsz x≤4000) (hd:ndp x≤100) (hg:Rg x) (hB:IsB x):A6 K [] x=some (txt (ps x 0)) :=
 (Sh hK hK2 (nsz x) x (Nat.le_refl _) h hg 0 (by omega) K).1 hB (by omega)
theorem Qf {K:Nat} (hK:20000≤K) (hK2:K < 8000000) {x:Nd} (h:nsz x≤4000) (hd:ndp x≤100) (hg:Rg x) (hB:IsB x):A8 K x []=some (txt (ps x 0)) :=
 (Sy hK hK2 (nsz x) x (Nat.le_refl _) h hg 0 (by omega) K).1 hB (by omega)
theorem Pu (i:List Nd) (x:Nd):(i++[x]).getD i.length Ah=x:=by simp
theorem pdecl {K:Nat} (hK:20000≤K) (hK2:K < 8000000) {n:Nd} (h:IsD n) (hs:nsz n≤4000) (hd:ndp n≤100) (hg:Rg n) :
  Gh K n=some (txt (pd n))∧Fi K n=some (txt (pd n))∧(txt (pd n)).length+2≤19000 * nsz n:=by
 have hsz:=Gg n;have hdp:=Hp n;have hlk:=Gf n.Kids;rw [I8,H4] at hg;have kx:∀ x∈n.Kids,nsz x≤lsz n.Kids∧ndp x+1≤ndp n:=fun x hx=>⟨D7 hx,by have:=H6 hx; omega⟩
 have kB:∀ x∈n.Kids,IsB x→A6 K [] x=some (txt (ps x 0))∧A8 K x []=some (txt (ps x 0))∧(txt (ps x 0)).length+600≤18000 * nsz x:=fun x hx hB=>by
  have:=kx x hx
  have h1:=K4 (nsz x) x (Nat.le_refl _) (hg.2 x hx) (.inl hB) 0 (by omega);unfold tl at h1;exact ⟨Ry hK hK2 (by omega) (by omega) (hg.2 x hx) hB,Qf hK hK2 (by omega) (by omega) (hg.2 x hx) hB,h1⟩
 obtain ⟨h1,h2,h3⟩:=h;have hn:=h1.2.1;unfold Gh Fi pd;rcases h3 with ⟨ho,h4,h5,h6⟩ |⟨ho,h4,i,x,e,hB,hi⟩ |⟨ho,h4,h5,h6⟩ |⟨ho,h4,h5,h6,h7⟩
 ·obtain ⟨x,hx⟩:=Gi h5;rw [hx] at h6;have hm:x∈n.Kids:=by rw [hx]; exact .head _
  have hkx:=kx x hm;have e1:=Ow hK hK2 (by omega) (hg.2 x hm) h6.1;have e2:=Ly hK hK2 (by omega) (hg.2 x hm) h6.1;have l1:=Ik (nsz x) x (Nat.le_refl _) (hg.2 x hm) (.inl h6.1);unfold tl at l1;have et:txt (PD' 61 n.Name n.Text (pks [x]) ([x]:List Nd).dropLast (Jz [x]))=[118,97,114,32]++(n.Name++([32,61,32]++(txt (pe x)++[59]))):=by
   show txt (qK [118,97,114] :: qB :: qN n.Name :: qB :: qS [61] :: qB ::(pe x++[qS [59]]))=_;simp
  rw [ho,hx,et];refine ⟨?_,?_,by simp only [List.length_append,List.length_cons,List.length_nil]; omega⟩
  ·simp only [Int.reduceEq,↓reduceIte];refine gu (gu (gu (bb e1 (gu (gu (congrArg some ?_))))));simp
  ·simp only [Int.reduceEq,↓reduceIte];refine gu (gu (gu (bb e2 (gu (gu (congrArg some ?_))))));simp
 ·have hm:x∈n.Kids:=by rw [e]; simp
  have hmi:∀ y∈i,y∈n.Kids:=fun y hy=>by rw [e]; simp [hy]
  have hkx:=kx x hm;obtain ⟨b1,b2,b3⟩:=kB x hm hB;have hls:lsz n.Kids=lsz i+nsz x:=by rw [e,J1]; simp [lsz]
  have hll:(n.Kids.length:Int)=i.length+1:=by rw [e]; simp
  have hgi:∀ y∈i,Rg y:=fun y hy=>hg.2 y (hmi y hy)
  have hEi:∀ y∈i,IsE y:=fun y hy=>(hi y hy).2
  have a1:=O2 hK hK2 (l:=i) (by omega) hgi hEi;have a2:=O9 hK hK2 (l:=i) (by omega) hgi hEi;have a3:=Io fun y hy=>Ik (nsz y) y (Nat.le_refl _) (hgi y hy) (.inl (hEi y hy))
  unfold tl at a3;have hwr:IntKind.i64.wrap ((n.Kids.length:Int) - 1)=(i.length:Int):=by rw [w64 (by omega) (by omega)]; omega
  have hsl:We n.Kids 0 (i.length:Int)=i:=by rw [e]; simp [We]
  have hgd:n.Kids.getD (Int.toNat (i.length:Int)) Ah=x:=by rw [e,Int.toNat_natCast,Pu]
  have et:txt (PD' 62 n.Name n.Text (pks n.Kids) n.Kids.dropLast (Jz n.Kids))=[102,117,110,99,32]++(n.Name++(40 ::(txt (E9 (pes i))++(41 :: 32 :: txt (ps x 0))))):=by
   rw [e,Pm,List.dropLast_concat];show txt (qK [102,117,110,99] :: qB :: qN n.Name :: qS [40] ::(E9 (pes i)++qS [41] :: qB :: ps x 0))=_;simp
  rw [ho,et,hwr,hsl,hgd];refine ⟨?_,?_,by simp only [List.length_append,List.length_cons,List.length_nil]; omega⟩
  ·simp only [Int.reduceEq,↓reduceIte];refine gu (gu (gu (bb a1 (gu (gu (gu (bb b1 (gu (congrArg some ?_)))))))));simp
  ·simp only [Int.reduceEq,↓reduceIte];refine gu (gu (gu (bb a2 (gu (gu (gu (bb b2 (gu (congrArg some ?_)))))))));simp
 ·obtain ⟨x,hx⟩:=Gi h5;rw [Ia] at h6;have hm:x∈n.Kids:=by rw [hx]; exact .head _
  have hkx:=kx x hm;obtain ⟨b1,b2,b3⟩:=kB x hm (h6 x hm);have ht:=h4.2.1;rcases ho with ho | ho
  ·have et:txt (PD' 63 n.Name n.Text (pks [x]) ([x]:List Nd).dropLast (Jz [x]))=[111,110,32,115,105,103,110,97,108,32]++(n.Name++(40 ::(n.Text++(41 :: 32 :: txt (ps x 0))))):=by
    show txt (qK [111,110] :: qB :: qK [115,105,103,110,97,108] :: qB :: qN n.Name :: qS [40] :: qN n.Text :: qS [41] :: qB :: ps x 0)=_;simp
   rw [ho,hx,et];refine ⟨?_,?_,by simp only [List.length_append,List.length_cons,List.length_nil]; omega⟩
   ·simp only [Int.reduceEq,↓reduceIte];refine gu (gu (gu (gu (gu (bb b1 (gu (congrArg some ?_)))))));simp
   ·simp only [Int.reduceEq,↓reduceIte];refine gu (gu (gu (gu (gu (bb b2 (gu (congrArg some ?_)))))));simp
  ·have et:txt (PD' 64 n.Name n.Text (pks [x]) ([x]:List Nd).dropLast (Jz [x]))=[111,110,32,113,117,101,114,121,32]++(n.Name++(40 ::(n.Text++(41 :: 32 :: txt (ps x 0))))):=by
    show txt (qK [111,110] :: qB :: qK [113,117,101,114,121] :: qB :: qN n.Name :: qS [40] :: qN n.Text :: qS [41] :: qB :: ps x 0)=_;simp
   rw [ho,hx,et];refine ⟨?_,?_,by simp only [List.length_append,List.length_cons,List.length_nil]; omega⟩
   ·simp only [Int.reduceEq,↓reduceIte];refine gu (gu (gu (gu (gu (bb b1 (gu (congrArg some ?_)))))));simp
   ·simp only [Int.reduceEq,↓reduceIte];refine gu (gu (gu (gu (gu (bb b2 (gu (congrArg some ?_)))))));simp
 ·rw [Ia] at h7;have ht:=h4.2.1;have hc:(∃ x,n.Kids=[x])∨∃ x y,n.Kids=[x,y]:=by
   match hk:n.Kids,h5,h6 with
   | [x],_,_=>exact .inl ⟨x,rfl⟩
   | [x,y],_,_=>exact .inr ⟨x,y,rfl⟩
   | [],h5,_=>simp at h5
   | x :: y :: z :: l,_,h6=>simp at h6; omega
  rcases hc with ⟨x,hx⟩ |⟨x,y,hx⟩
  ·have hm:x∈n.Kids:=by rw [hx]; exact .head _
   have hkx:=kx x hm;obtain ⟨b1,b2,b3⟩:=kB x hm (h7 x hm);have hwr:IntKind.i64.wrap ((([x]:List Nd).length:Int) - 1)=0:=rfl;have et:txt (PD' 65 n.Name n.Text (pks [x]) ([x]:List Nd).dropLast (Jz [x]))=[111,110,32,117,112,100,97,116,101,32]++(n.Name++(40 ::(n.Text++(41 :: 32 :: txt (ps x 0))))):=by
    show txt (qK [111,110] :: qB :: qK [117,112,100,97,116,101] :: qB :: qN n.Name :: qS [40] :: qN n.Text :: qS [41] :: qB ::([]++ps x 0))=_;simp
   rw [ho,hx,et,hwr];refine ⟨?_,?_,by simp only [List.length_append,List.length_cons,List.length_nil]; omega⟩
   ·simp only [Int.reduceEq,↓reduceIte];refine gu (gu (gu (gu (bb (i_f (by decide) rfl) (gu (bb b1 (gu (congrArg some ?_))))))));simp
   ·simp only [Int.reduceEq,↓reduceIte];refine gu (gu (gu (gu (bb rfl (gu (bb b2 (gu (congrArg some ?_))))))));simp
  ·have hmx:x∈n.Kids:=by rw [hx]; exact .head _
   have hmy:y∈n.Kids:=by rw [hx]; exact .tail _ (.head _)
   have hkx:=kx x hmx;have hky:=kx y hmy;have hls:lsz n.Kids=nsz x+nsz y:=by rw [hx]; simp [lsz]
   obtain ⟨b1,b2,b3⟩:=kB x hmx (h7 x hmx);obtain ⟨c1,c2,c3⟩:=kB y hmy (h7 y hmy);have hwr:IntKind.i64.wrap ((([x,y]:List Nd).length:Int) - 1)=1:=rfl;have et:txt (PD' 65 n.Name n.Text (pks [x,y]) ([x,y]:List Nd).dropLast (Jz [x,y]))=[111,110,32,117,112,100,97,116,101,32]++(n.Name++(40 ::(n.Text++(41 :: 32 ::([99,104,101,99,107,32]++(txt (ps x 0)++(32 :: txt (ps y 0)))))))):=by
    show txt (qK [111,110] :: qB :: qK [117,112,100,97,116,101] :: qB :: qN n.Name :: qS [40] :: qN n.Text :: qS [41] :: qB ::((qK [99,104,101,99,107] :: qB ::(ps x 0++[qB]))++ps y 0))=_;simp
   rw [ho,hx,et,hwr];refine ⟨?_,?_,by simp only [List.length_append,List.length_cons,List.length_nil]; omega⟩
   ·simp only [Int.reduceEq,↓reduceIte];refine gu (gu (gu (gu (bb (i_t (by decide) (gu (bb b1 (gu (gu (gu rfl)))))) (gu (bb c1 (gu (congrArg some ?_))))))));simp
   ·simp only [Int.reduceEq,↓reduceIte];refine gu (gu (gu (gu (bb (gu (gu (bb b2 (gu (gu rfl))))) (gu (bb c2 (gu (congrArg some ?_))))))));simp
def dlT (d:Nd):Ge:=txt (pd d)++[10]
theorem Qe (n:Nd):txt (pp n)=n.Kids.flatMap dlT:=by
 unfold pp;generalize n.Kids=l
 induction l with
 | nil=>rfl
 | cons x l ih =>
  rw [List.flatMap_cons,List.flatMap_cons,Im,ih,Im]; rfl
def Pn (s:Ge):Ge×Int:=if 16384 < s.length then ([],6) else (s,0)
theorem Ls (K:Nat) (s:Ge):G8 K s=some (Pn s):=by
 unfold G8 Pn;by_cases h:16384 < s.length
 ·rw [if_pos h]; exact i_t (by omega) rfl
 ·rw [if_neg h]; exact i_f (by omega) rfl
theorem Rb:∀ {l:List Nd},(∀ x∈l,(txt (pd x)).length+2≤19000 * nsz x)→(l.flatMap dlT).length≤19000 * lsz l
 | [],h=>by simp
 | x :: l,h=>by
  have h1:=h x (.head _);have h2:=Rb (l:=l) fun y hy=>h y (.tail _ hy)
  rw [List.flatMap_cons,List.length_append,lsz];unfold dlT;rw [List.length_append]; simp only [List.length_cons,List.length_nil]; unfold dlT at h2; omega
noncomputable def prS (n:Nd):Ge×Int:=@ite _ (IsR n) (Classical.propDecidable _) (Pn (txt (pp n))) ([],2)
noncomputable def exS (n:Nd):Ge×Int:=@ite _ (Small n∧IsE n) (Classical.propDecidable _) (Pn (txt (pe n))) ([],2)
theorem Pf {K:Nat} (hK:60000≤K) (hK2:K < 8000000) {n:Nd} (hs:8 * nsz n+16≤K) (hg:Rg n):F2 K n=some (prS n)∧Ew K n=some (prS n):=by
 unfold F2 Ew prS;rw [Sv (by omega) (by omega) n hs,S7 (by omega) (by omega) n hs];by_cases h:IsR n
 ·rw [if_pos h,I9 h];have hn:=Gg n;have hlk:=Gf n.Kids;have h4:=h.1.1;have hd4:=h.1.2;rw [I8,H4] at hg;have dk:∀ x∈n.Kids,_:=fun x hx=>pdecl (K:=K) (by omega) hK2 (h.2.2.2.2.2 x hx) (by have:=D7 hx; omega) (by have:=H6 hx; have:=Hp n; omega) (hg.2 x hx)
  have hsum:=Rb fun x hx=>(dk x hx).2.2
  constructor
  ·refine bb rfl (i_t rfl (bb (a:=txt (pp n)) ?_ ?_))
   ·rw [Qe];refine (Ip (l:=n.Kids) (T:=dlT) (L:=fun k1 acc i=>F2.l17 K n k1 acc i) (B:=fun k1 i acc=>(if (0:Int)≤i∧(i:Int) <(n.Kids.length:Int) then ((Gh K (n.Kids.getD (Int.toNat i) Ah)).bind fun a2=>(if a2.length+([10]:Ge).length≤9223372036854775807 then (if acc.length+(a2++([10]:Ge)).length≤9223372036854775807 then F2.l17 K n k1 (acc++(a2++([10]:Ge))) (IntKind.i64.wrap (i+1)) else none) else none)) else none)) (fun k1 acc i=>rfl) (fun k1 i hi acc ha=>?_) (by omega) (by simp only [List.length_nil]; omega)).trans (by simp);have hm:=List.getElem_mem hi;obtain ⟨d1,d2,d3⟩:=dk _ hm;unfold dlT at ha;simp only [List.length_append,List.length_cons,List.length_nil] at ha;refine gu ?_;rw [Int.toNat_natCast,Hf hi];refine bb d1 (gu (gu ?_));rw [w64 (by omega) (by omega)]; rfl
   ·exact bb (Ls K _) rfl
  ·refine bb rfl (i_t rfl (bb (a:=txt (pp n)) ?_ ?_))
   ·rw [Qe];refine (Ip (l:=n.Kids) (T:=dlT) (L:=fun k1 acc i=>Ew.l17 K n k1 acc i) (B:=fun k1 i acc=>(if (0:Int)≤i∧(i:Int) <(n.Kids.length:Int) then ((Fi K (n.Kids.getD (Int.toNat i) Ah)).bind fun a2=>(if acc.length+a2.length≤9223372036854775807 then (if (acc++a2).length+([10]:Ge).length≤9223372036854775807 then Ew.l17 K n k1 ((acc++a2)++([10]:Ge)) (IntKind.i64.wrap (i+1)) else none) else none)) else none)) (fun k1 acc i=>rfl) (fun k1 i hi acc ha=>?_) (by omega) (by simp only [List.length_nil]; omega)).trans (by simp);have hm:=List.getElem_mem hi;obtain ⟨d1,d2,d3⟩:=dk _ hm;unfold dlT at ha;simp only [List.length_append,List.length_cons,List.length_nil] at ha;refine gu ?_;rw [Int.toNat_natCast,Hf hi];refine bb d2 (gu (gu ?_));rw [w64 (by omega) (by omega)];unfold dlT;rw [List.append_assoc]; rfl
   ·unfold Pn;by_cases h:16384 <(txt (pp n)).length
    ·rw [if_pos h]; exact i_t (by omega) rfl
    ·rw [if_neg h]; exact i_f (by omega) rfl
 ·rw [if_neg h,H1 h];exact ⟨rfl,rfl⟩
theorem Ql {K:Nat} (hK:60000≤K) (hK2:K < 8000000) {n:Nd} (hs:8 * nsz n+16≤K) (hg:Rg n):Ha K n=some (exS n)∧Gw K n=some (exS n):=by
 unfold Ha Gw exS;rw [Ru (by omega) (by omega) n hs,Ri (by omega) (by omega) n hs];by_cases h:Small n∧IsE n
 ·rw [if_pos h,I9 h];constructor
  ·exact bb rfl (i_t rfl (bb (Ow (by omega) hK2 h.1.1 hg h.2) (bb (Ls K _) rfl)))
  ·refine bb rfl (i_t rfl (bb (Ly (by omega) hK2 h.1.1 hg h.2) ?_));unfold Pn;by_cases h:16384 <(txt (pe n)).length
   ·rw [if_pos h]; exact i_t (by omega) rfl
   ·rw [if_neg h]; exact i_f (by omega) rfl
 ·rw [if_neg h,H1 h];exact ⟨rfl,rfl⟩
mutual
def Gd:Nd→Prop
 |⟨_,nm,it,tx,ks⟩=>nm.length≤1000000000000000∧tx.length≤1000000000000000∧it≤9223372036854775807∧ks.length≤1000000000000000∧Gds ks
def Gds:List Nd→Prop
 | []=>True
 | x :: l=>Gd x∧Gds l
end
theorem P1 (n:Nd):Gd n=(n.Name.length≤1000000000000000∧n.Text.length≤1000000000000000∧n.Int≤9223372036854775807∧n.Kids.length≤1000000000000000∧Gds n.Kids):=by cases n; rw [Gd]
theorem Kv:∀ l,Gds l↔∀ x∈l,Gd x
 | []=>by simp [Gds]
 | x :: l=>by rw [Gds,Kv l]; simp
theorem Sa:∀ (m:Nat) (n:Nd),nsz n≤m→Gd n→Rg n
 | 0,n,h,_=>by have:=Gx n; omega
 | m+1,n,h,hg=>by
  rw [P1,Kv] at hg;rw [I8,H4]
  have:=Gg n
  exact ⟨hg.2.2.1,fun x hx=>Sa m x (by have:=D7 hx; omega) (hg.2.2.2.2 x hx)⟩
theorem R3 (K:Nat) (R:Ed) (t:Nd) (M:Nat) (hl:t.Kids.length≤1000000000000000)
  (ih:∀ (m:Nat),m < M→∀ x∈t.Kids,∃ r:Int,R.C8 x m=some r∧ -3000000000000000≤r∧r < m∧(0≤r→(nsz x:Int)≤m - r)) :
  ∀ (k:Nat) (n:Int) (i:Nat),-3000000000000000≤n→n < M→n+1 < k→0 < k→i≤t.Kids.length →
   ∃ r:Int,C8.l9 K R t k n i=some r∧ -3000000000000000≤r∧r≤n∧(0≤r→(lsz (t.Kids.drop i):Int)≤n - r):=by
 intro k
 induction k with
 | zero=>intro n i h1 h2 h3 h4; omega
 | succ k ih2 =>
  intro n i h1 h2 h3 h4 h5;unfold C8.l9;by_cases hi:(i:Int) <(t.Kids.length:Int)
  ·rw [if_pos hi];by_cases hn:n≥0
   ·rw [if_pos hn,if_pos ⟨by omega,hi⟩];obtain ⟨m,rfl⟩:=Int.eq_ofNat_of_zero_le hn;obtain ⟨r,e,a1,a2,a3⟩:=ih m (by omega) (t.Kids.getD i Ah) (G0 (by omega));have e':R.C8 (t.Kids.getD (Int.toNat (i:Int)) Ah) (m:Int)=some r:=e;rw [e',Option.bind_some,w64 (by omega) (by omega)];obtain ⟨r',b0,b1,b2,b3⟩:=ih2 r (i+1) a1 (by omega) (by omega) (by omega) (by omega);rw [K8 (by omega)];refine ⟨r',b0,b1,by omega,fun h=>?_⟩
    have:=a3 (by omega)
    have:=b3 h
    omega
   ·rw [if_neg hn];exact ⟨n,rfl,h1,Int.le_refl _,fun h=>absurd h (by omega)⟩
  ·rw [if_neg hi]
   have:t.Kids.drop i=[]:=List.drop_eq_nil_iff.2 (by omega)
   refine ⟨n,rfl,h1,Int.le_refl _,fun h=>?_⟩;rw [this]; simp [lsz]
theorem Rx (K:Nat) (M:Nat) (hK:M < K) (hM:M≤9000000):∀ (m:Nat),m≤M→∀ (f:Nat),m < f→∀ x:Nd,Gd x →
  ∃ r:Int,(Ed.upto K f).C8 x m=some r∧ -3000000000000000≤r∧r < m∧(0≤r→(nsz x:Int)≤m - r):=by
 intro m
 induction m using Nat.strongRecOn with
 | _ m ih =>
  intro hm f hf x hx;obtain ⟨f,rfl⟩:∃ g,f=g+1:=⟨f - 1,by omega⟩
  have hx':=hx;rw [P1,Kv] at hx;obtain ⟨g1,g2,g3,g4,g5⟩:=hx;obtain ⟨r,b0,b1,b2,b3⟩:=R3 K (Ed.upto K f) x m g4 (fun m' h y hy=>ih m' h (by omega) f (by omega) y (g5 y hy)) K (m - 1 - x.Name.length - x.Text.length) 0 (by omega) (by omega) (by omega) (by omega) (by omega);refine ⟨r,?_,b1,by omega,fun h=>?_⟩
  ·show Option.bind (C8.l9 K _ x K (IntKind.i64.wrap (IntKind.i64.wrap (IntKind.i64.wrap ((m:Int) - 1) - (x.Name.length:Int)) - (x.Text.length:Int))) 0) _=_;rw [w64 (x:=(m:Int) - 1) (by omega) (by omega),w64 (x:=(m:Int) - 1 - (x.Name.length:Int)) (by omega) (by omega),w64 (by omega) (by omega)];have b0':C8.l9 K (Ed.upto K f) x K (m - 1 - x.Name.length - x.Text.length) 0=some r:=b0;rw [b0']; rfl
  ·rw [Gg]
   have:=b3 h
   simp only [List.drop_zero] at this; omega
theorem fw_ok {K m:Nat} (hK:m < K) (hM:m≤9000000) {x:Nd} (hx:Gd x):∃ r:Int,C8 K x m=some r∧(0≤r→nsz x≤m):=by
 obtain ⟨r,b0,b1,b2,b3⟩:=Rx K m hK hM m (Nat.le_refl _) K hK x hx;exact ⟨r,b0,fun h=>by have:=b3 h; omega⟩
theorem Nv {K:Nat} (hK:60000≤K) (hK2:K < 8000000) (hw:F3 K=some true) {n:Nd} (hn:Gd n):Fg K n=some true:=by
 unfold Fg;obtain ⟨r,e,hr⟩:=fw_ok (K:=K) (m:=6000) (by omega) (by omega) hn;refine bb e ?_;by_cases h:r < 0
 ·rw [if_pos h,hw]; rfl
 rw [if_neg h];have hs:=hr (by omega);have hg:=Sa _ n (Nat.le_refl _) hn;obtain ⟨p1,p2⟩:=Pf (K:=K) hK hK2 (by omega) hg;obtain ⟨x1,x2⟩:=Ql (K:=K) hK hK2 (by omega) hg;rw [p1,p2,x1,x2];refine bb rfl (bb rfl (bb rfl (bb rfl (i_t rfl (i_t rfl (i_t rfl (i_t rfl (bb hw rfl))))))))
theorem Qm:F3 5000000=some true:=by decide +kernel
theorem L5 (n:Nd) (h:Gd n):Fg 5000000 n=some true:=Nv (by omega) (by omega) Qm h
end Go.Proofs.YtdgejpgbppfhmaaGreatDoor
