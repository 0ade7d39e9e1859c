import Derived.Test.YtdgejpgbppfhmaaGreatDoorLwG
set_option linter.unusedVariables false
set_option linter.unusedSimpArgs false
set_option maxHeartbeats 4000000
namespace Go.Proofs.YtdgejpgbppfhmaaGreatDoor
open Eng Go
def tl (l:List Pc):Nat:=(txt l).length
theorem G1 (a b:List Pc):tl (a++b)=tl a+tl b:=by unfold tl; rw [Im,List.length_append]
theorem Fj (a:Pc) (b:List Pc):tl (a :: b)=a.1.length+tl b:=by unfold tl; rw [Hk,List.length_append]
theorem Hc:tl []=0:=rfl
theorem Mc:∀ (k m:Nat),m < 10 ^ (k+1)→(Lib.decDigits m).length≤k+1
 | 0,m,h=>by rw [J9 (by simpa using h)]; simp
 | k+1,m,h=>by
  by_cases h10:m < 10
  ·rw [J9 h10]; simp
  ·rw [Pb h10,List.length_append]
   have:=Mc k (m / 10) (by rw [Nat.div_lt_iff_lt_mul (by decide)]; rw [Nat.pow_succ] at h; exact h)
   simp; omega
theorem Qg {n:Int} (h:0≤n) (h2:n≤9223372036854775807):(Lib.itoa n).length≤20:=by
 unfold Lib.itoa;rw [if_neg (by omega)];exact Mc 19 _ (by omega)
theorem Mb {s:Ge} (h:s.length≤4096):(quo s).length≤16386:=by
 have:=J0 s
 unfold quo; simp only [List.length_append,List.length_cons,List.length_nil]; omega
theorem Jh {x:Nd} {r:Nat}:tl (opd (x.Op,pe x) r)≤tl (pe x)+2:=by
 unfold opd;split
 ·rw [Fj,G1,Fj,Hc]; show 1+(tl (pe x)+(1+0))≤_; omega
 ·show tl (pe x)≤_; omega
theorem Io:∀ {l:List Nd},(∀ x∈l,tl (pe x)+500≤17500 * nsz x)→tl (E9 (pes l))≤17500 * lsz l
 | [],h=>by rw [show E9 (pes [])=[] from rfl,Hc]; omega
 | [x],h=>by
  have:=h x (.head _)
  show tl (pe x)≤_;rw [J4]; omega
 | x :: z :: l,h=>by
  have ih:=Io (l:=z :: l) fun w hw=>h w (.tail _ hw)
  have:=h x (.head _)
  show tl (pe x++qS [44] :: qB :: E9 (pes (z :: l)))≤_;rw [G1,Fj,Fj,lsz];show tl (pe x)+(1+(1+_))≤_;omega
theorem Nx {op:Int} {sg:Pc} {v:Nat} (h:bsg op=some (sg,v)):sg.1.length≤3:=by
 have:=Lz h
 have ho:op=15∨op=16∨op=17∨op=18∨op=19∨op=20∨op=21∨op=22∨op=23∨op=24∨op=25∨op=26∨op=27:=by omega
 rcases ho with rfl | rfl | rfl | rfl | rfl | rfl | rfl | rfl | rfl | rfl | rfl | rfl | rfl <;> cases h <;> decide
theorem Ik:∀ (m:Nat) (n:Nd),nsz n≤m→Rg n→(IsE n∨IsP n)→tl (pe n)+500≤17500 * nsz n
 | 0,n,h,_,_=>by have:=Gx n; omega
 | m+1,n,h,hg,hE=>by
  rw [H3,Gg];rw [Gg] at h;rw [I8,H4] at hg;have kid:∀ x∈n.Kids,IsE x∨IsP x→tl (pe x)+500≤17500 * nsz x:=fun x hx hh=>Ik m x (by have:=D7 hx; omega) (hg.2 x hx) hh
  rcases hE with hE | hP
  ·rw [Jm] at hE;unfold EX at hE;rcases hE with ⟨ho,h1,h2,h3,h4⟩ |⟨ho,h1,h2,h3,h4⟩ |⟨ho,h1,h2,h3,h4⟩ |⟨ho,h1,h2,h3,h4⟩ |⟨ho,h1,h2,h3,h4⟩ |⟨ho,h1,h2,h3,h4⟩ |⟨ho,h1,h2,h3,h4⟩ |⟨ho,h1,h2,h3,h4,h5⟩ |⟨ho,h1,h2,h3,h4,h5⟩ |⟨ho,h1,h2,h3,h4,h5⟩
   ·rcases ho with ho | ho | ho <;> rw [ho]
    ·show 4+500≤_; omega
    ·show 4+500≤_; omega
    ·show 5+500≤_; omega
   ·rw [ho]
    have:=Qg h3 hg.1
    show tl [qI n.Int]+500≤_;rw [Fj,Hc]; show (Lib.itoa n.Int).length+0+500≤_; omega
   ·rw [ho]
    have:=Mb (s:=n.Text) (by omega)
    show tl [qT n.Text]+500≤_;rw [Fj,Hc]; show (quo n.Text).length+0+500≤_; omega
   ·rw [ho]
    have:=h1.2.1
    show tl [qN n.Name]+500≤_;rw [Fj,Hc]; show n.Name.length+0+500≤_; omega
   ·rw [F8] at h4
    have:=Io fun x hx=>kid x hx (.inl (h4 x hx))
    rw [ho];show tl (qS [91] ::(E9 (pes n.Kids)++[qS [93]]))+500≤_;rw [Fj,G1,Fj,Hc]; show 1+(_+(1+0))+500≤_; omega
   ·rw [Jp] at h4
    have:=Io fun x hx=>kid x hx (.inr (h4 x hx))
    rw [ho];show tl (qS [123] ::(E9 (pes n.Kids)++[qS [125]]))+500≤_;rw [Fj,G1,Fj,Hc]; show 1+(_+(1+0))+500≤_; omega
   ·rw [F8] at h4
    have:=Io fun x hx=>kid x hx (.inl (h4 x hx))
    have hn:=h1.2.1;rcases ho with ho | ho <;> rw [ho]
    ·show tl (qN n.Name :: qS [40] ::(E9 (pes n.Kids)++[qS [41]]))+500≤_;rw [Fj,Fj,G1,Fj,Hc]; show n.Name.length+(1+(_+(1+0)))+500≤_; omega
    ·show tl (qK [103,111] :: qB :: qN n.Name :: qS [40] ::(E9 (pes n.Kids)++[qS [41]]))+500≤_;rw [Fj,Fj,Fj,Fj,G1,Fj,Hc]; show 2+(1+(n.Name.length+(1+(_+(1+0)))))+500≤_; omega
   ·obtain ⟨x,hx⟩:=Gi h4;rw [F8] at h5;have hk:=kid x (by rw [hx]; exact .head _) (.inl (h5 x (by rw [hx]; exact .head _)));have o7:=Jh (x:=x) (r:=7);have o3:=Jh (x:=x) (r:=3);rw [hx,J4];rcases ho with ho | ho | ho <;> rw [ho]
    ·show tl (qK [97,119,97,105,116] :: qB :: opd (x.Op,pe x) 7)+500≤_;rw [Fj,Fj]; show 5+(1+_)+500≤_; omega
    ·show tl (qK [110,111,116] :: qB :: opd (x.Op,pe x) 3)+500≤_;rw [Fj,Fj]; show 3+(1+_)+500≤_; omega
    ·show tl (qS [45] :: opd (x.Op,pe x) 7)+500≤_;rw [Fj]; show 1+_+500≤_; omega
   ·obtain ⟨x,hx⟩:=Gi h4;rw [F8] at h5;have hk:=kid x (by rw [hx]; exact .head _) (.inl (h5 x (by rw [hx]; exact .head _)));have o8:=Jh (x:=x) (r:=8);have hn:=h1.2.1;rw [hx,ho,J4];show tl (opd (x.Op,pe x) 8++[qS [46],qN n.Name])+500≤_;rw [G1,Fj,Fj,Hc]; show _+(1+(n.Name.length+0))+500≤_; omega
   ·obtain ⟨x,z,hx⟩:=Iq h4;rw [F8] at h5;have hk:=kid x (by rw [hx]; exact .head _) (.inl (h5 x (by rw [hx]; exact .head _)));have hk2:=kid z (by rw [hx]; exact .tail _ (.head _)) (.inl (h5 z (by rw [hx]; exact .tail _ (.head _))));rw [hx,Nf];by_cases h28:n.Op=28
    ·have o8:=Jh (x:=x) (r:=8);rw [h28];show tl (opd (x.Op,pe x) 8++qS [91] ::(pe z++[qS [93]]))+500≤_;rw [G1,Fj,G1,Fj,Hc]; show _+(1+(_+(1+0)))+500≤_; omega
    ·obtain ⟨sg,v,hb⟩:=Ms (op:=n.Op) (by omega);have hs:=Nx hb;have o1:=Jh (x:=x) (r:=if v=4 then 5 else v);have o2:=Jh (x:=z) (r:=v+1);unfold PX;rw [hb,Lx,L1];dsimp only;rw [G1,Fj,Fj,Fj]; show _+(1+(_+(1+_)))+500≤_; omega
  ·rw [Jr] at hP;obtain ⟨ho,h1,h2,h3,h4,h5⟩:=hP;obtain ⟨x,hx⟩:=Gi h4;rw [F8] at h5;have hk:=kid x (by rw [hx]; exact .head _) (.inl (h5 x (by rw [hx]; exact .head _)))
   have:=Mb (s:=n.Text) (by omega)
   rw [hx,ho,J4];show tl (qT n.Text :: qS [58] :: qB :: pe x)+500≤_;rw [Fj,Fj,Fj]; show (quo n.Text).length+(1+(1+_))+500≤_; omega
theorem Sr (k:Nat) (l:List Pc):tl (qW k :: l)=2 * k+tl l:=by rw [Fj]; show (List.replicate (2 * k) (32:UInt8)).length+_=_; rw [List.length_replicate]
theorem Jk (c:UInt8) (l:List Pc):tl (qS [c] :: l)=1+tl l:=Fj _ _
theorem Ig (l:List Pc):tl (qB :: l)=1+tl l:=Fj _ _
theorem S4 (l:List Pc):tl (qR :: l)=1+tl l:=Fj _ _
theorem Jn (s:Ge) (l:List Pc):tl (qK s :: l)=s.length+tl l:=Fj _ _
theorem P3 (s:Ge) (l:List Pc):tl (qN s :: l)=s.length+tl l:=Fj _ _
theorem Jt {k:Nat} (hk:k≤100):∀ {l:List Nd},(∀ x∈l,tl (ps x (k+1))+600≤18000 * nsz x)→tl (lines (pks l) k)≤18000 * lsz l
 | [],h=>by rw [show lines (pks []) k=[] from rfl,Hc]; omega
 | x :: l,h=>by
  have ih:=Jt hk (l:=l) fun w hw=>h w (.tail _ hw)
  have:=h x (.head _)
  show tl (qW (k+1) ::(ps x (k+1)++[qR])++lines (pks l) k)≤_;rw [G1,Sr,G1,S4,Hc,lsz]; omega
theorem K4:∀ (m:Nat) (n:Nd),nsz n≤m→Rg n→(IsB n∨IsS n∨IsC n∨IsZ n)→∀ k,k+ndp n≤100→tl (ps n k)+600≤18000 * nsz n
 | 0,n,h,_,_,k,_=>by have:=Gx n; omega
 | m+1,n,h,hg,hn,k,hd=>by
  rw [Hw];have hsn:=Gg n;have hdn:=Hp n;rw [I8,H4] at hg;have kid:∀ x∈n.Kids,IsB x∨IsS x∨IsC x∨IsZ x→∀ k',k'≤k+1→tl (ps x k')+600≤18000 * nsz x:=fun x hx hh k' hk=>K4 m x (by have:=D7 hx; omega) (hg.2 x hx) hh k' (by have:=H6 hx; omega)
  have kidE:∀ x∈n.Kids,IsE x→tl (pe x)+500≤17500 * nsz x:=fun x hx hh=>Ik (nsz x) x (Nat.le_refl _) (hg.2 x hx) (.inl hh)
  rcases hn with hn | hn | hn | hn
  ·rw [Jl,Kf] at hn
   have:=Jt (k:=k) (by omega) fun x hx=>kid x hx (.inr (.inl (hn.2.2.2.2 x hx))) (k+1) (by omega)
   rw [hn.1,hsn];show tl (qS [123] :: qR ::(lines (pks n.Kids) k++[qW k,qS [125]]))+600≤_;rw [Jk,S4,G1,Sr,Jk,Hc]; omega
  ·rw [Js] at hn;unfold SX at hn;rcases hn with ⟨ho,h1,h2,h3,h4,h5⟩ |⟨ho,h1,h2,h3,h4⟩ |⟨ho,h1,h2,h3,h4⟩ |⟨ho,h1,h2,h3,h4,h5⟩ |⟨ho,h1,h2,h3,h4,h5⟩ |⟨ho,h1,h2,h3,h4,h5⟩ |⟨ho,h1,h2,h3,h4,h5⟩ |⟨ho,h1,h2,h3,h4⟩ |⟨ho,h1,h2,h3,h4,h5⟩
   ·obtain ⟨x,hx⟩:=Gi h4;rw [F8] at h5;have hk:=kidE x (by rw [hx]; exact .head _) (h5 x (by rw [hx]; exact .head _));have hm:=h1.2.1;rw [hx,J4] at hsn;rw [hx,hsn];rcases ho with ho | ho <;> rw [ho]
    ·show tl (qK [108,101,116] :: qB :: qN n.Name :: qB :: qS [61] :: qB ::(pe x++[qS [59]]))+600≤_;rw [Jn,Ig,P3,Ig,Jk,Ig,G1,Jk,Hc]; simp only [List.length_cons,List.length_nil]; omega
    ·show tl (qN n.Name :: qB :: qS [61] :: qB ::(pe x++[qS [59]]))+600≤_;rw [P3,Ig,Jk,Ig,G1,Jk,Hc]; omega
   ·obtain ⟨x,y,hx,hy,hc⟩:=L4 h4;rcases hc with hc |⟨z,hc,hz⟩
    ·have a:=kidE x (by rw [hc]; exact .head _) hx;have b:=kid y (by rw [hc]; exact .tail _ (.head _)) (.inl hy) k (by omega);rw [hc,Nf] at hsn;rw [hc,ho,hsn];show tl (qK [105,102] :: qB ::(pe x++qB ::(ps y k++[])))+600≤_;rw [Jn,Ig,G1,Ig,G1,Hc]; simp only [List.length_cons,List.length_nil]; omega
    ·have a:=kidE x (by rw [hc]; exact .head _) hx;have b:=kid y (by rw [hc]; exact .tail _ (.head _)) (.inl hy) k (by omega);have c:=kid z (by rw [hc]; exact .tail _ (.tail _ (.head _))) (by rcases hz with hz | hz; exact .inl hz; exact .inr (.inl hz.2)) k (by omega);have e3:lsz [x,y,z]=nsz x+nsz y+nsz z:=by simp [lsz]; omega
     rw [hc,e3] at hsn;rw [hc,ho,hsn];show tl (qK [105,102] :: qB ::(pe x++qB ::(ps y k++qB :: qK [101,108,115,101] :: qB :: ps z k)))+600≤_;rw [Jn,Ig,G1,Ig,G1,Ig,Jn,Ig]; simp only [List.length_cons,List.length_nil]; omega
   ·obtain ⟨x,y,hc,hx,hy⟩:=Ji h4;have a:=kidE x (by rw [hc]; exact .head _) hx;have b:=kid y (by rw [hc]; exact .tail _ (.head _)) (.inl hy) k (by omega);rw [hc,Nf] at hsn;rw [ho,hc,hsn];show tl (qK [119,104,105,108,101] :: qB ::(pe x++qB :: ps y k))+600≤_;rw [Jn,Ig,G1,Ig]; simp only [List.length_cons,List.length_nil]; omega
   ·rw [ho];cases hk:n.Kids with
    | nil =>
     show tl [qK [114,101,116,117,114,110],qS [59]]+600≤_;rw [Jn,Jk,Hc,hsn]; simp only [List.length_cons,List.length_nil]; omega
    | cons x l =>
     rw [F8] at h5;have a:=kidE x (by rw [hk]; exact .head _) (h5 x (by rw [hk]; exact .head _));rw [hk,lsz] at hsn;show tl (qK [114,101,116,117,114,110] :: qB ::(pe x++[qS [59]]))+600≤_;rw [Jn,Ig,G1,Jk,Hc,hsn]; simp only [List.length_cons,List.length_nil]; omega
   ·obtain ⟨x,hx⟩:=Gi h4;rw [F8] at h5;have hk:=kidE x (by rw [hx]; exact .head _) (h5 x (by rw [hx]; exact .head _));rw [hx,J4] at hsn;rw [hx,hsn];rcases ho with ho | ho <;> rw [ho]
    ·show tl (qK [116,104,114,111,119] :: qB ::(pe x++[qS [59]]))+600≤_;rw [Jn,Ig,G1,Jk,Hc]; simp only [List.length_cons,List.length_nil]; omega
    ·show tl (pe x++[qS [59]])+600≤_;rw [G1,Jk,Hc]; omega
   ·obtain ⟨x,y,hx⟩:=Iq h4;rw [Ia] at h5;have a:=kid x (by rw [hx]; exact .head _) (.inl (h5 x (by rw [hx]; exact .head _))) k (by omega);have b:=kid y (by rw [hx]; exact .tail _ (.head _)) (.inl (h5 y (by rw [hx]; exact .tail _ (.head _)))) k (by omega);have hm:=h1.2.1;rw [hx,Nf] at hsn;rw [ho,hx,hsn];show tl (qK [116,114,121] :: qB ::(ps x k++qB :: qK [99,97,116,99,104] :: qB :: qN n.Name :: qB :: ps y k))+600≤_;rw [Jn,Ig,G1,Ig,Jn,Ig,P3,Ig]; simp only [List.length_cons,List.length_nil]; omega
   ·obtain ⟨x,hx⟩:=Gi h4;rw [Ia] at h5;have a:=kid x (by rw [hx]; exact .head _) (.inl (h5 x (by rw [hx]; exact .head _))) k (by omega);rw [hx,J4] at hsn;rw [ho,hx,hsn];show tl (qK [115,97,103,97] :: qB :: ps x k)+600≤_;rw [Jn,Ig]; simp only [List.length_cons,List.length_nil]; omega
   ·rw [F8] at h4
    have:=Io fun x hx=>kidE x hx (h4 x hx)
    have hm:=h1.2.1;rw [ho];show tl (qK [117,110,100,111] :: qB :: qN n.Name :: qS [40] ::(Lf (pks n.Kids)++[qS [41],qS [59]]))+600≤_;rw [Ky,Jn,Ig,P3,Jk,G1,Jk,Jk,Hc,hsn]; simp only [List.length_cons,List.length_nil]; omega
   ·have:=Jt (k:=k) (by omega) fun x hx=>kid x hx (.inr (.inr (Ma h5 x hx))) (k+1) (by omega)
    rw [ho,hsn];show tl (qK [115,101,108,101,99,116] :: qB :: qS [123] :: qR ::(lines (pks n.Kids) k++[qW k,qS [125]]))+600≤_;rw [Jn,Ig,Jk,S4,G1,Sr,Jk,Hc]; simp only [List.length_cons,List.length_nil]; omega
  ·rw [Kg] at hn;obtain ⟨ho,h1,h2,h3,h4⟩:=hn;obtain ⟨x,y,hc,hx,hy⟩:=Ji h4;have a:=kidE x (by rw [hc]; exact .head _) hx;have b:=kid y (by rw [hc]; exact .tail _ (.head _)) (.inl hy) k (by omega);rw [hc,Nf] at hsn;rw [ho,hc,hsn];show tl (qK [99,97,115,101] :: qB ::((if n.Name=[] then [] else [qN n.Name,qB,qS [61],qB])++(pe x++qB :: ps y k)))+600≤_;have hm:tl (if n.Name=[] then [] else [qN n.Name,qB,qS [61],qB])≤67:=by
    split
    ·rw [Hc]; omega
    ·rename_i hne;rcases h1 with h1 | h1
     ·exact absurd h1 hne
     ·have:=h1.2.1
      rw [P3,Ig,Jk,Ig,Hc]; omega
   rw [Jn,Ig,G1,G1,Ig]; simp only [List.length_cons,List.length_nil]; omega
  ·rw [Kh] at hn;obtain ⟨ho,h1,h2,h3,h4,h5⟩:=hn;obtain ⟨x,hx⟩:=Gi h4;rw [Ia] at h5;have a:=kid x (by rw [hx]; exact .head _) (.inl (h5 x (by rw [hx]; exact .head _))) k (by omega);rw [hx,J4] at hsn;rw [ho,hx,hsn];show tl (qK [101,108,115,101] :: qB :: ps x k)+600≤_;rw [Jn,Ig]; simp only [List.length_cons,List.length_nil]; omega
theorem hi_eq:∀ n:Fin 256,Int.fdiv (n.val:Int) (2 ^ (min (Int.toNat 4) 8))=((n.val / 16:Nat):Int):=by decide +kernel
theorem lo_eq:∀ n:Fin 256,IntKind.u8.wrap ((BitVec.ofInt 8 (n.val:Int) &&& BitVec.ofInt 8 15).toNat:Int)=((n.val % 16:Nat):Int):=by decide +kernel
theorem Sg:∀ n:Fin 256,(IntKind.u8.wrap (Int.tdiv (n.val:Int) 16)=((n.val / 16:Nat):Int))∧IntKind.u8.wrap (((n.val / 16:Nat):Int)+1)=((n.val / 16+1:Nat):Int)∧We Tc ((n.val / 16:Nat):Int) ((n.val / 16+1:Nat):Int)=[Iy (n.val / 16)]:=by decide +kernel
theorem Sl:∀ n:Fin 256,(Int.tmod (n.val:Int) 16=((n.val % 16:Nat):Int))∧IntKind.u8.wrap (((n.val % 16:Nat):Int)+1)=((n.val % 16+1:Nat):Int)∧We Tc ((n.val % 16:Nat):Int) ((n.val % 16+1:Nat):Int)=[Iy (n.val % 16)]:=by decide +kernel
theorem Lm (K:Nat) (c:UInt8) (x:Ge) (h:x.length < 9000000):Ct K (c.toNat:Int) x=some (x++[c]):=by
 have:=Lw c
 unfold Ct;rw [if_pos (by omega),if_pos (by simp only [List.length_cons,List.length_nil]; omega),Int.toNat_natCast,ofNat_toNat]
theorem Ro (l:Ge):l.map (V.ofB Tag.Cf)=l:=List.map_id _
theorem Q7 (K:Nat) (s x:Ge) (h:x.length < 9000000) (h2:s.length < 100):Dx K s x=some ((s.length:Int),x++s):=by
 unfold Dx;rw [if_pos (by omega),Ro]
theorem Lj (K:Nat) (p0:Ge):∀ (k i:Nat) (acc:Ge),(p0.drop i).length < k→i+k < 9000000→acc.length+4 * (p0.drop i).length < 8000000→Fh.l11 K p0 k (i:Int) acc=some (acc++(p0.drop i).flatMap enc)
 | 0,i,acc,h,_,_=>by omega
 | k+1,i,acc,h,hk,ha=>by
  unfold Fh.l11;cases hs:p0.drop i with
  | nil =>
   have:p0.length≤i:=List.drop_eq_nil_iff.1 hs
   rw [if_neg (by omega)]; simp
  | cons c r =>
   obtain ⟨_,hlt,hr⟩:=Ka _ _ c r c hs;rw [hs] at h ha;simp only [List.length_cons] at h ha;have hcb:=Lw c;have ih:∀ x:Ge,x.length≤4→Fh.l11 K p0 k ((i+1:Nat):Int) (acc++x)=some (acc++x++r.flatMap enc):=fun x hx=>by
    rw [Lj K p0 k (i+1) _ (by rw [hr]; omega) (by omega) (by rw [hr,List.length_append]; omega),hr]
   have hhi:=hi_eq ⟨c.toNat,hcb⟩;have hlo:=lo_eq ⟨c.toNat,hcb⟩;simp only at hhi hlo;rw [if_pos (show (i:Int) <(p0.length:Int) by omega),if_pos (show (0:Int)≤(i:Int)∧(i:Int) <(p0.length:Int) by omega),gd hs,O7 (show i < 9223372036854775807 by omega),List.flatMap_cons];have hb:(if (c.toNat:Int)=34 then some true else some (decide ((c.toNat:Int)=92)):Option Bool)=some (decide (c.toNat=34∨c.toNat=92)):=by
    by_cases h1:c.toNat=34
    ·rw [if_pos (by omega)]; simp [h1]
    ·rw [if_neg (by omega)]; simp [h1]; omega
   rw [hb,Option.bind_some];rw [O6 c];by_cases hq:c.toNat=34∨c.toNat=92
   ·rw [if_pos (decide_eq_true hq),if_pos hq,show (92:Int)=((92:UInt8).toNat:Int) from rfl,Lm _ _ _ (by omega),Option.bind_some,Lm _ _ _ (by simp; omega),Option.bind_some,List.append_assoc];rw [ih _ (by simp)];simp
   ·rw [if_neg (show ¬ (decide (c.toNat=34∨c.toNat=92)=true) by simpa using hq),if_neg hq];by_cases h10:c.toNat=10
    ·rw [if_pos (show (c.toNat:Int)=10 by omega),if_pos h10,Q7 _ _ _ (by omega) (by simp),Option.bind_some];simp only;rw [ih _ (by simp)];simp
    ·rw [if_neg (show ¬ (c.toNat:Int)=10 by omega),if_neg h10];by_cases h9:c.toNat=9
     ·rw [if_pos (show (c.toNat:Int)=9 by omega),if_pos h9,Q7 _ _ _ (by omega) (by simp),Option.bind_some];simp only;rw [ih _ (by simp)];simp
     ·rw [if_neg (show ¬ (c.toNat:Int)=9 by omega),if_neg h9];have hb2:(if (c.toNat:Int)≥32 then some (decide ((c.toNat:Int)≤126)) else some false:Option Bool)=some (decide (32≤c.toNat∧c.toNat≤126)):=by
       by_cases h1:32≤c.toNat
       ·rw [if_pos (by omega)]; simp [h1]; omega
       ·rw [if_neg (by omega)]; simp [h1]
      rw [hb2,Option.bind_some];by_cases hp:32≤c.toNat∧c.toNat≤126
      ·rw [if_pos (decide_eq_true hp),if_pos hp,Lm _ _ _ (by omega),Option.bind_some,ih _ (by simp)];simp
      ·rw [if_neg (show ¬ (decide (32≤c.toNat∧c.toNat≤126)=true) by simpa using hp),if_neg hp,Q7 _ _ _ (by omega) (by simp),Option.bind_some];simp only;rw [hhi,hlo,if_pos (show (0:Int)≤((c.toNat / 16:Nat):Int)∧((c.toNat / 16:Nat):Int) <(([48,49,50,51,52,53,54,55,56,57,97,98,99,100,101,102]:Ge).length:Int) by simp only [List.length_cons,List.length_nil]; omega),Int.toNat_natCast];rw [show ([48,49,50,51,52,53,54,55,56,57,97,98,99,100,101,102]:Ge).getD (c.toNat / 16) 0=Iy (c.toNat / 16) from rfl,Lm _ _ _ (by simp; omega),Option.bind_some];rw [if_pos (show (0:Int)≤((c.toNat % 16:Nat):Int)∧((c.toNat % 16:Nat):Int) <(([48,49,50,51,52,53,54,55,56,57,97,98,99,100,101,102]:Ge).length:Int) by simp only [List.length_cons,List.length_nil]; omega),Int.toNat_natCast];rw [show ([48,49,50,51,52,53,54,55,56,57,97,98,99,100,101,102]:Ge).getD (c.toNat % 16) 0=Iy (c.toNat % 16) from rfl,Lm _ _ _ (by simp; omega),Option.bind_some];rw [show acc++[92,120]++[Iy (c.toNat / 16)]++[Iy (c.toNat % 16)]=acc++[92,120,Iy (c.toNat / 16),Iy (c.toNat % 16)] by simp,ih _ (by simp)];simp
theorem Mt {K:Nat} {s:Ge} (h:s.length < 1000000) (hK:s.length < K) (hK2:K < 8000000):Fh K s=some (quo s):=by
 unfold Fh E8;rw [if_pos (by decide),if_pos (by decide),Option.bind_some];have hl:=Lj K s K 0 [34] (by simpa using hK) (by omega) (by simp; omega);rw [List.drop_zero] at hl;have hl':Fh.l11 K s K 0 [UInt8.ofNat (Int.toNat 34)]=some ([34]++s.flatMap enc):=hl;have hfl:=J0 s;rw [hl',Option.bind_some,show (34:Int)=((34:UInt8).toNat:Int) from rfl,Lm _ _ _ (by simp only [List.length_append,List.length_cons,List.length_nil]; omega),Option.bind_some,if_pos (by simp)];unfold quo;simp
theorem K7 (K:Nat) (p0:Ge):∀ (k i:Nat) (acc:Ge),(p0.drop i).length < k→i+k < 9000000→acc.length+4 * (p0.drop i).length < 8000000→Ds.l11 K p0 k acc (i:Int)=some (acc++(p0.drop i).flatMap enc)
 | 0,i,acc,h,_,_=>by omega
 | k+1,i,acc,h,hk,ha=>by
  unfold Ds.l11;cases hs:p0.drop i with
  | nil =>
   have:p0.length≤i:=List.drop_eq_nil_iff.1 hs
   rw [if_neg (by omega)]; simp
  | cons c r =>
   obtain ⟨_,hlt,hr⟩:=Ka _ _ c r c hs;rw [hs] at h ha;simp only [List.length_cons] at h ha;have hcb:=Lw c;have ih:∀ x:Ge,x.length≤4→Ds.l11 K p0 k (acc++x) ((i+1:Nat):Int)=some (acc++x++r.flatMap enc):=fun x hx=>by
    rw [K7 K p0 k (i+1) _ (by rw [hr]; omega) (by omega) (by rw [hr,List.length_append]; omega),hr]
   obtain ⟨hhi,hhi2,hhi3⟩:=Sg ⟨c.toNat,hcb⟩;obtain ⟨hlo,hlo2,hlo3⟩:=Sl ⟨c.toNat,hcb⟩;simp only at hhi hhi2 hhi3 hlo hlo2 hlo3;have hsl:We p0 (i:Int) ((i+1:Nat):Int)=[c]:=by
    unfold We;rw [Int.toNat_natCast,Int.toNat_natCast,hs,show i+1 - i=1 by omega];rfl
   rw [if_pos (show (i:Int) <(p0.length:Int) by omega),if_pos (show (0:Int)≤(i:Int)∧(i:Int) <(p0.length:Int) by omega),gd hs,O7 (show i < 9223372036854775807 by omega),List.flatMap_cons,hsl];have hb:(if (c.toNat:Int)=34 then some true else some (decide ((c.toNat:Int)=92)):Option Bool)=some (decide (c.toNat=34∨c.toNat=92)):=by
    by_cases h1:c.toNat=34
    ·rw [if_pos (by omega)]; simp [h1]
    ·rw [if_neg (by omega)]; simp [h1]; omega
   rw [hb,Option.bind_some];have hbd:(i:Int)≤((i+1:Nat):Int)∧((i+1:Nat):Int)≤(p0.length:Int):=by omega
   rw [O6 c];by_cases hq:c.toNat=34∨c.toNat=92
   ·rw [if_pos (decide_eq_true hq),if_pos hq,if_pos (show acc.length+([92]:Ge).length≤9223372036854775807 by simp only [List.length_cons,List.length_nil]; omega),if_pos hbd,if_pos (show (acc++([92]:Ge)).length+([c]:Ge).length≤9223372036854775807 by simp only [List.length_append,List.length_cons,List.length_nil]; omega),List.append_assoc];rw [ih _ (by simp)];simp
   ·rw [if_neg (show ¬ (decide (c.toNat=34∨c.toNat=92)=true) by simpa using hq),if_neg hq];by_cases h10:c.toNat=10
    ·rw [if_pos (show (c.toNat:Int)=10 by omega),if_pos h10,if_pos (show acc.length+([92,110]:Ge).length≤9223372036854775807 by simp only [List.length_cons,List.length_nil]; omega),ih _ (by simp)];simp
    ·rw [if_neg (show ¬ (c.toNat:Int)=10 by omega),if_neg h10];by_cases h9:c.toNat=9
     ·rw [if_pos (show (c.toNat:Int)=9 by omega),if_pos h9,if_pos (show acc.length+([92,116]:Ge).length≤9223372036854775807 by simp only [List.length_cons,List.length_nil]; omega),ih _ (by simp)];simp
     ·rw [if_neg (show ¬ (c.toNat:Int)=9 by omega),if_neg h9];have hb2:(if (c.toNat:Int)≥32 then some (decide ((c.toNat:Int)≤126)) else some false:Option Bool)=some (decide (32≤c.toNat∧c.toNat≤126)):=by
       by_cases h1:32≤c.toNat
       ·rw [if_pos (by omega)]; simp [h1]; omega
       ·rw [if_neg (by omega)]; simp [h1]
      rw [hb2,Option.bind_some];by_cases hp:32≤c.toNat∧c.toNat≤126
      ·rw [if_pos (decide_eq_true hp),if_pos hp,if_pos hbd,if_pos (show acc.length+([c]:Ge).length≤9223372036854775807 by simp only [List.length_cons,List.length_nil]; omega),ih _ (by simp)];simp
      ·rw [if_neg (show ¬ (decide (32≤c.toNat∧c.toNat≤126)=true) by simpa using hp),if_neg hp,if_pos (show acc.length+([92,120]:Ge).length≤9223372036854775807 by simp only [List.length_cons,List.length_nil]; omega),hhi,hhi2];rw [show We ([48,49,50,51,52,53,54,55,56,57,97,98,99,100,101,102]:Ge) ((c.toNat / 16:Nat):Int) ((c.toNat / 16+1:Nat):Int)=[Iy (c.toNat / 16)] from hhi3];rw [if_pos (show (0:Int)≤((c.toNat / 16:Nat):Int)∧((c.toNat / 16:Nat):Int)≤((c.toNat / 16+1:Nat):Int)∧((c.toNat / 16+1:Nat):Int)≤(([48,49,50,51,52,53,54,55,56,57,97,98,99,100,101,102]:Ge).length:Int) by simp only [List.length_cons,List.length_nil]; omega)];rw [if_pos (show (acc++([92,120]:Ge)).length+([Iy (c.toNat / 16)]:Ge).length≤9223372036854775807 by simp only [List.length_append,List.length_cons,List.length_nil]; omega),hlo,hlo2];rw [show We ([48,49,50,51,52,53,54,55,56,57,97,98,99,100,101,102]:Ge) ((c.toNat % 16:Nat):Int) ((c.toNat % 16+1:Nat):Int)=[Iy (c.toNat % 16)] from hlo3];rw [if_pos (show (0:Int)≤((c.toNat % 16:Nat):Int)∧((c.toNat % 16:Nat):Int)≤((c.toNat % 16+1:Nat):Int)∧((c.toNat % 16+1:Nat):Int)≤(([48,49,50,51,52,53,54,55,56,57,97,98,99,100,101,102]:Ge).length:Int) by simp only [List.length_cons,List.length_nil]; omega)];rw [if_pos (show (acc++([92,120]:Ge)++[Iy (c.toNat / 16)]).length+([Iy (c.toNat % 16)]:Ge).length≤9223372036854775807 by simp only [List.length_append,List.length_cons,List.length_nil]; omega)];rw [show acc++[92,120]++[Iy (c.toNat / 16)]++[Iy (c.toNat % 16)]=acc++[92,120,Iy (c.toNat / 16),Iy (c.toNat % 16)] by simp,ih _ (by simp)];simp
theorem Lp {K:Nat} {s:Ge} (h:s.length < 1000000) (hK:s.length < K) (hK2:K < 8000000):Ds K s=some (quo s):=by
 unfold Ds;have hl:=K7 K s K 0 [34] (by simpa using hK) (by omega) (by simp; omega);rw [List.drop_zero] at hl;have hl':Ds.l11 K s K [34] 0=some ([34]++s.flatMap enc):=hl;have hfl:=J0 s;rw [hl',Option.bind_some,if_pos (by simp only [List.length_append,List.length_cons,List.length_nil]; omega)];unfold quo;simp
theorem gA {α:Type} (a b:List α):(a++b).length=a.length+b.length:=List.length_append
theorem gB {α:Type} (a:α) (l:List α):(a :: l).length=l.length+1:=rfl
theorem gC {α:Type}:([]:List α).length=0:=rfl
theorem gu {α:Type} {c:Prop} [Decidable c] {x:Option α} {s:Option α} (h:x=s) (hc:c:=by (try simp only [gA,gB,gC]); omega):(if c then x else none)=s:=by rw [if_pos hc]; exact h
@[simp] theorem sx1 (a b:List Pc):txt (a++b)=txt a++txt b:=Im a b
@[simp] theorem sx2 (a:Pc) (b:List Pc):txt (a :: b)=a.1++txt b:=rfl
@[simp] theorem sx3:txt []=[]:=rfl
@[simp] theorem sx4 (s:Ge):(qS s).1=s:=rfl
@[simp] theorem sx5 (s:Ge):(qK s).1=s:=rfl
@[simp] theorem sx6 (s:Ge):(qN s).1=s:=rfl
@[simp] theorem sx7 (s:Ge):(qT s).1=quo s:=rfl
@[simp] theorem sx8 (n:Int):(qI n).1=Lib.itoa n:=rfl
@[simp] theorem sx9:qB.1=[32]:=rfl
theorem bb {α β:Type} {x:Option α} {a:α} {f:α→Option β} {s:Option β} (h:x=some a) (h':f a=s):Option.bind x f=s:=by rw [h]; exact h'
theorem i_t {α:Type} {c:Prop} [Decidable c] {x y s:Option α} (hc:c) (h:x=s):(if c then x else y)=s:=by rw [if_pos hc]; exact h
theorem i_f {α:Type} {c:Prop} [Decidable c] {x y s:Option α} (hc:¬ c) (h:y=s):(if c then x else y)=s:=by rw [if_neg hc]; exact h
theorem Q9 (K:Nat) (op:Int):Gp K op=some (match bsg op with | some (sg,v)=>(sg.1,(v:Int)) | none=>([],0)):=by
 unfold Gp bsg;by_cases h27:op=27
 ·subst h27; rfl
 rw [if_neg h27,if_neg h27];by_cases h26:op=26
 ·subst h26; rfl
 rw [if_neg h26,if_neg h26];by_cases h20:op=20
 ·subst h20; rfl
 rw [if_neg h20,if_neg h20];by_cases h21:op=21
 ·subst h21; rfl
 rw [if_neg h21,if_neg h21];by_cases h22:op=22
 ·subst h22; rfl
 rw [if_neg h22,if_neg h22];by_cases h23:op=23
 ·subst h23; rfl
 rw [if_neg h23,if_neg h23];by_cases h24:op=24
 ·subst h24; rfl
 rw [if_neg h24,if_neg h24];by_cases h25:op=25
 ·subst h25; rfl
 rw [if_neg h25,if_neg h25];by_cases h18:op=18
 ·subst h18; rfl
 rw [if_neg h18,if_neg h18];by_cases h19:op=19
 ·subst h19; rfl
 rw [if_neg h19,if_neg h19];by_cases h15:op=15
 ·subst h15; rfl
 rw [if_neg h15,if_neg h15];by_cases h16:op=16
 ·subst h16; rfl
 rw [if_neg h16,if_neg h16];by_cases h17:op=17
 ·subst h17; rfl
 rw [if_neg h17,if_neg h17]
theorem Q8 {op:Int} {sg:Pc} {v:Nat} (h:bsg op=some (sg,v)):1≤v∧v≤6:=by
 have:=Lz h
 have ho:op=15∨op=16∨op=17∨op=18∨op=19∨op=20∨op=21∨op=22∨op=23∨op=24∨op=25∨op=26∨op=27:=by omega
 rcases ho with rfl | rfl | rfl | rfl | rfl | rfl | rfl | rfl | rfl | rfl | rfl | rfl | rfl <;> cases h <;> decide
theorem Nj {K:Nat} {op:Int} {sg:Pc} {v:Nat} (h:bsg op=some (sg,v)):Gp K op=some (sg.1,(v:Int)):=by rw [Q9,h]
theorem Hb {K:Nat} {op:Int} (h:bsg op=none):Gp K op=some ([],0):=by rw [Q9,h]
theorem Tj (K:Nat) (n:Nd):Ht K n=some (lv n.Op:Int):=by
 unfold Ht lv;cases hb:bsg n.Op with
 | none =>
  refine bb (Hb hb) (i_f (by decide) ?_);by_cases h1:n.Op=13
  ·rw [if_pos h1,if_pos h1]; rfl
  rw [if_neg h1,if_neg h1];by_cases h2:n.Op=14
  ·rw [if_pos h2,if_pos (.inl h2)]; rfl
  rw [if_neg h2];by_cases h3:n.Op=12
  ·rw [if_pos h3,if_pos (.inr (.inl h3))]; rfl
  rw [if_neg h3];by_cases h4:n.Op=11
  ·rw [if_pos h4,if_pos (.inr (.inr h4))]; rfl
  rw [if_neg h4,if_neg (by omega)]; rfl
 | some p =>
  obtain ⟨sg,v⟩:=p
  have:=Q8 hb
  exact bb (Nj hb) (i_t (by omega) rfl)
theorem Rn {K:Nat} {R:Dv} {x:Nd} {r:Nat} {q:Int} (hq:q=r) (h:R.C0 x=some (txt (pe x))) (hl:(txt (pe x)).length≤100000000):Dy.F K R x q=some (txt (opd (x.Op,pe x) r)):=by
 subst hq;unfold Dy.F opd;refine bb (Tj K x) ?_;by_cases c:lv x.Op < r
 ·rw [if_pos c];refine i_t (by omega) (bb h (gu (gu (congrArg some ?_))));rw [Hk,Im,Hk,I7];simp only [qS,List.append_assoc,List.cons_append,List.nil_append,List.append_nil]
 ·rw [if_neg c];exact i_f (by omega) (bb h rfl)
theorem Sc {K:Nat} {R:Dv} {l:List Nd} (h:∀ x∈l,R.C0 x=some (txt (pe x))) (hb:l.length≤100000000):∀ (k i:Nat) (acc:List Ge),(l.drop i).length < k→i≤l.length→acc.length≤i→Dz.l9 K R l k (i:Int) acc=some (acc++(l.drop i).map fun x=>txt (pe x))
 | 0,i,acc,hk,_,_=>by omega
 | k+1,i,acc,hk,hi,ha=>by
  unfold Dz.l9;by_cases c:(i:Int) <(l.length:Int)
  ·have hi':i < l.length:=by omega
   rw [List.drop_eq_getElem_cons hi'] at hk ⊢;have e:l.getD (Int.toNat (i:Int)) Ah=l[i]:=by rw [Int.toNat_natCast,Hf hi']
   refine i_t c (gu ?_);rw [e];refine bb (h _ (List.getElem_mem hi')) (gu ?_);rw [w64 (by omega) (by omega)]
   have:=Sc (K:=K) h hb k (i+1) (acc++[txt (pe l[i])]) (by simp at hk ⊢; omega) (by omega) (by rw [List.length_append]; simp; omega)
   rw [Int.natCast_add] at this;refine this.trans ?_;simp only [List.map_cons,List.append_assoc,List.cons_append,List.nil_append]
  ·refine i_f c ?_;rw [List.drop_eq_nil_iff.2 (by omega)]; simp
theorem M1:∀ l:List Nd,Lib.join (l.map fun x=>txt (pe x)) [44,32]=txt (E9 (pes l))
 | []=>rfl
 | [x]=>by rw [List.map_cons,List.map_nil,Lib.join_one]; rfl
 | x :: z :: l=>by
  have ih:=M1 (z :: l);rw [List.map_cons,Lib.join_cons] at ih;rw [List.map_cons,List.map_cons,Lib.join_cons];show _=txt (pe x++qS [44] :: qB :: E9 (pes (z :: l)));rw [Im,Hk,Hk,← ih];unfold Lib.joinTail;simp [qS,qB]
theorem P7 {K:Nat} {R:Dv} {l:List Nd} (h:∀ x∈l,R.C0 x=some (txt (pe x))) (hb:l.length≤100000000) (hK:l.length < K) (hl:(txt (E9 (pes l))).length≤100000000):Dz.F K R l=some (txt (E9 (pes l))):=by
 unfold Dz.F;have e:=Sc (K:=K) h hb K 0 [] (by simpa using hK) (by omega) (by simp);rw [List.drop_zero,List.nil_append] at e;refine bb e ?_;rw [M1];exact gu rfl ⟨by rw [List.length_map]; omega,by omega⟩
theorem Og {K:Nat} (hK:10000≤K) (hK2:K < 8000000):∀ (m:Nat) (n:Nd),nsz n≤m→m≤4000→Rg n→(IsE n∨IsP n)→∀ f,2 * nsz n≤f→(Dv.upto K f).C0 n=some (txt (pe n))
 | 0,n,h,_,_,_,_,_=>by have:=Gx n; omega
 | m+1,n,h,hm,hg,hE,f,hf=>by
  obtain ⟨f,rfl⟩:∃ g,f=g+2:=⟨f - 2,by have:=Gx n; omega⟩
  have hsz:=Gg n;have hln:=Ik (nsz n) n (Nat.le_refl _) hg hE;have hlk:=Gf n.Kids;rw [I8,H4] at hg;have kid:∀ x∈n.Kids,IsE x∨IsP x→(Dv.upto K f).C0 x=some (txt (pe x)):=fun x hx hh=>Og hK hK2 m x (by have:=D7 hx; omega) (by omega) (hg.2 x hx) hh f (by have:=D7 hx; omega)
  have kid1:∀ x∈n.Kids,IsE x∨IsP x→(Dv.upto K (f+1)).C0 x=some (txt (pe x)):=fun x hx hh=>Og hK hK2 m x (by have:=D7 hx; omega) (by omega) (hg.2 x hx) hh (f+1) (by have:=D7 hx; omega)
  have len:∀ x∈n.Kids,IsE x∨IsP x→(txt (pe x)).length≤70000000:=fun x hx hh=>by
   have h1:=Ik (nsz x) x (Nat.le_refl _) (hg.2 x hx) hh;have h2:=D7 hx;unfold tl at h1; omega
  have opk:∀ x∈n.Kids,IsE x→∀ (r:Nat) (q:Int),q=r→(Dv.upto K (f+1)).Dy x q=some (txt (opd (x.Op,pe x) r)):=fun x hx hh r q hq=>Rn hq (kid x hx (.inl hh)) (by have:=len x hx (.inl hh); omega)
  have opl:∀ x∈n.Kids,IsE x→∀ r:Nat,(txt (opd (x.Op,pe x) r)).length≤70000002:=fun x hx hh r=>by
   have h1:=Jh (x:=x) (r:=r);have h2:=len x hx (.inl hh);unfold tl at h1; omega
  have lstl:(∀ x∈n.Kids,IsE x∨IsP x)→(txt (E9 (pes n.Kids))).length≤70000000:=fun hh=>by
   have h1:=Io fun x hx=>Ik (nsz x) x (Nat.le_refl _) (hg.2 x hx) (hh x hx)
   unfold tl at h1; omega
  have lst:(∀ x∈n.Kids,IsE x∨IsP x)→(Dv.upto K (f+1)).Dz n.Kids=some (txt (E9 (pes n.Kids))):=fun hh=>P7 (fun x hx=>kid x hx (hh x hx)) (by omega) (by omega) (by have:=lstl hh; omega)
  show C0.F K (Dv.upto K (f+1)) n=_;rw [H3];unfold C0.F;rcases hE with hE | hP
  ·rw [Jm] at hE;unfold EX at hE;rcases hE with ⟨ho,h1,h2,h3,h4⟩ |⟨ho,h1,h2,h3,h4⟩ |⟨ho,h1,h2,h3,h4⟩ |⟨ho,h1,h2,h3,h4⟩ |⟨ho,h1,h2,h3,h4⟩ |⟨ho,h1,h2,h3,h4⟩ |⟨ho,h1,h2,h3,h4⟩ |⟨ho,h1,h2,h3,h4,h5⟩ |⟨ho,h1,h2,h3,h4,h5⟩ |⟨ho,h1,h2,h3,h4,h5⟩
   ·rcases ho with ho | ho | ho <;> rw [ho]
    ·refine bb (Hb rfl) (i_f (by decide) ?_);simp only [Int.reduceEq,↓reduceIte];exact rfl
    ·refine bb (Hb rfl) (i_f (by decide) ?_);simp only [Int.reduceEq,↓reduceIte];exact rfl
    ·refine bb (Hb rfl) (i_f (by decide) ?_);simp only [Int.reduceEq,↓reduceIte];exact rfl
   ·rw [ho];refine bb (Hb rfl) (i_f (by decide) ?_);simp only [Int.reduceEq,↓reduceIte];refine gu (congrArg some ?_);show _=txt [qI n.Int];rw [Hk,I7,List.append_nil]; rfl
   ·rw [ho];refine bb (Hb rfl) (i_f (by decide) ?_);simp only [Int.reduceEq,↓reduceIte];refine bb (Mt (by omega) (by omega) hK2) (congrArg some ?_);show _=txt [qT n.Text];rw [Hk,I7,List.append_nil]; rfl
   ·rw [ho];refine bb (Hb rfl) (i_f (by decide) ?_);simp only [Int.reduceEq,↓reduceIte];refine congrArg some ?_;show _=txt [qN n.Name];rw [Hk,I7,List.append_nil]; rfl
   ·rw [F8] at h4;have hh:∀ x∈n.Kids,IsE x∨IsP x:=fun x hx=>.inl (h4 x hx)
    have:=lstl hh
    rw [ho];refine bb (Hb rfl) (i_f (by decide) ?_);simp only [Int.reduceEq,↓reduceIte];refine bb (lst hh) (gu (gu (congrArg some ?_)));show _=txt (qS [91] ::(E9 (pes n.Kids)++[qS [93]]));simp
   ·rw [Jp] at h4;have hh:∀ x∈n.Kids,IsE x∨IsP x:=fun x hx=>.inr (h4 x hx)
    have:=lstl hh
    rw [ho];refine bb (Hb rfl) (i_f (by decide) ?_);simp only [Int.reduceEq,↓reduceIte];refine bb (lst hh) (gu (gu (congrArg some ?_)));show _=txt (qS [123] ::(E9 (pes n.Kids)++[qS [125]]));simp
   ·rw [F8] at h4;have hh:∀ x∈n.Kids,IsE x∨IsP x:=fun x hx=>.inl (h4 x hx)
    have:=lstl hh
    have hn:=h1.2.1;rcases ho with ho | ho <;> rw [ho]
    ·refine bb (Hb rfl) (i_f (by decide) ?_);simp only [Int.reduceEq,↓reduceIte];refine gu (bb (lst hh) (gu (gu (congrArg some ?_))));show _=txt (qN n.Name :: qS [40] ::(E9 (pes n.Kids)++[qS [41]]));simp
    ·refine bb (Hb rfl) (i_f (by decide) ?_);simp only [Int.reduceEq,↓reduceIte];refine gu (gu (bb (lst hh) (gu (gu (congrArg some ?_)))));show _=txt (qK [103,111] :: qB :: qN n.Name :: qS [40] ::(E9 (pes n.Kids)++[qS [41]]));simp
   ·obtain ⟨x,hx⟩:=Gi h4;rw [F8] at h5;have hm:x∈n.Kids:=by rw [hx]; exact .head _
    have o7:=opk x hm (h5 x hm) 7 7 rfl;have o3:=opk x hm (h5 x hm) 3 3 rfl;have l7:=opl x hm (h5 x hm) 7;have l3:=opl x hm (h5 x hm) 3;rw [hx];rcases ho with ho | ho | ho <;> rw [ho]
    ·refine bb (Hb rfl) (i_f (by decide) ?_);simp only [Int.reduceEq,↓reduceIte];refine gu (bb o7 (gu (congrArg some ?_)));show _=txt (qK [97,119,97,105,116] :: qB :: opd (x.Op,pe x) 7);simp
    ·refine bb (Hb rfl) (i_f (by decide) ?_);simp only [Int.reduceEq,↓reduceIte];refine gu (bb o3 (gu (congrArg some ?_)));show _=txt (qK [110,111,116] :: qB :: opd (x.Op,pe x) 3);simp
    ·refine bb (Hb rfl) (i_f (by decide) ?_);simp only [Int.reduceEq,↓reduceIte];refine gu (bb o7 (gu (congrArg some ?_)));show _=txt (qS [45] :: opd (x.Op,pe x) 7);simp
   ·obtain ⟨x,hx⟩:=Gi h4;rw [F8] at h5;have hm:x∈n.Kids:=by rw [hx]; exact .head _
    have o8:=opk x hm (h5 x hm) 8 8 rfl;have l8:=opl x hm (h5 x hm) 8;have hn:=h1.2.1;rw [hx,ho];refine bb (Hb rfl) (i_f (by decide) ?_);simp only [Int.reduceEq,↓reduceIte];refine gu (bb o8 (gu (gu (congrArg some ?_))));show _=txt (opd (x.Op,pe x) 8++[qS [46],qN n.Name]);simp
   ·obtain ⟨x,y,hx⟩:=Iq h4;rw [F8] at h5;have hmx:x∈n.Kids:=by rw [hx]; exact .head _
    have hmy:y∈n.Kids:=by rw [hx]; exact .tail _ (.head _)
    have lx:=opl x hmx (h5 x hmx);have ly:=opl y hmy (h5 y hmy);have ky:=kid1 y hmy (.inl (h5 y hmy));have ley:=len y hmy (.inl (h5 y hmy));rw [hx];cases hb:bsg n.Op with
    | none =>
     have ho8:n.Op=28:=by
      rcases ho with ⟨ha,hc⟩
      have:n.Op=15∨n.Op=16∨n.Op=17∨n.Op=18∨n.Op=19∨n.Op=20∨n.Op=21∨n.Op=22∨n.Op=23∨n.Op=24∨n.Op=25∨n.Op=26∨n.Op=27∨n.Op=28:=by omega
      rcases this with e | e | e | e | e | e | e | e | e | e | e | e | e | e
      all_goals first | exact e |(rw [e] at hb; cases hb)
     have:=lx 8
     rw [ho8];refine bb (Hb rfl) (i_f (by decide) ?_);simp only [Int.reduceEq,↓reduceIte];refine gu (bb (opk x hmx (h5 x hmx) 8 8 rfl) (gu (gu (bb ky (gu (gu (congrArg some ?_)))))));show _=txt (opd (x.Op,pe x) 8++qS [91] ::(pe y++[qS [93]]));simp
    | some p =>
     obtain ⟨sg,v⟩:=p;have hv:=Q8 hb;have hs:=Nx hb;have hy:=opk y hmy (h5 y hmy) (v+1) (IntKind.i64.wrap ((v:Int)+1)) (by rw [w64 (by omega) (by omega)]; rfl);have l1:=lx (if v=4 then 5 else v);have l2:=ly (v+1);refine bb (Nj hb) (i_t (by omega) (bb (a:=((if v=4 then 5 else v:Nat):Int)) ?_ (gu (bb (opk x hmx (h5 x hmx) (if v=4 then 5 else v) _ rfl) (gu (gu (gu (gu (bb hy (gu (congrArg some ?_)))))))))))
     ·by_cases h4:v=4
      ·subst h4; rfl
      ·rw [if_neg (by omega),if_neg h4]
     ·unfold PX;rw [hb];show _=txt (opd (x.Op,pe x) (if v=4 then 5 else v)++qB :: sg :: qB :: opd (y.Op,pe y) (v+1));simp
  ·rw [Jr] at hP;obtain ⟨ho,h1,h2,h3,h4,h5⟩:=hP;obtain ⟨x,hx⟩:=Gi h4;rw [F8] at h5;have hm:x∈n.Kids:=by rw [hx]; exact .head _
   have hq:=Mb (s:=n.Text) (by omega);have kx:=kid1 x hm (.inl (h5 x hm));have lex:=len x hm (.inl (h5 x hm));rw [hx,ho];refine bb (Hb rfl) (i_f (by decide) ?_);simp only [Int.reduceEq,↓reduceIte];refine bb (Mt (by omega) (by omega) hK2) (gu (gu (bb kx (gu (congrArg some ?_)))));show _=txt (qT n.Text :: qS [58] :: qB :: pe x);simp
end Go.Proofs.YtdgejpgbppfhmaaGreatDoor
