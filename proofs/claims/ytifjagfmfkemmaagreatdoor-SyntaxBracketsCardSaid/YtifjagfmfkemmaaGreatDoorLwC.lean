import Derived.Test.YtifjagfmfkemmaaGreatDoorLwB
set_option linter.unusedVariables false
set_option linter.unusedSimpArgs false
set_option maxHeartbeats 4000000
namespace Go.Proofs.YtifjagfmfkemmaaGreatDoor
open Eng
theorem Hh (K:Nat) (c:UInt8):C8 K (c.toNat:Int)=some (isL c):=I6 c.toNat
theorem G9 (K:Nat) (c:UInt8):Dl K (c.toNat:Int)=some (isD c):=by
 unfold Dl isD;by_cases h:48≤c.toNat
 ·rw [if_pos (by omega)]; simp [h]; omega
 ·rw [if_neg (by omega)]; simp [h]
theorem Hq {n:Int} (h:0≤n) (h2:n < 256):IntKind.u8.wrap n=n:=by
 obtain ⟨m,rfl⟩:∃ m:Nat,n=(m:Int):=⟨n.toNat,by omega⟩
 unfold IntKind.wrap;simp [IntKind.bits,IntKind.signed];omega
theorem La (K:Nat) (c:UInt8):Eh K (c.toNat:Int)=some (hx c):=by
 have hb:=Gg c;unfold Eh hx;rw [G9,Option.bind_some];by_cases h:isD c=true
 ·rw [if_pos h,if_pos h]
  have:48≤c.toNat∧c.toNat≤57:=by simpa [isD] using h
  rw [Hq (by omega) (by omega),Eng.wrap_small (by omega) (by omega)]
 ·rw [if_neg h,if_neg h];by_cases h1:97≤c.toNat
  ·rw [if_pos (show (c.toNat:Int)≥97 by omega)];by_cases h2:c.toNat≤102
   ·rw [if_pos (show (c.toNat:Int)≤102 by omega),if_pos ⟨h1,h2⟩,Hq (by omega) (by omega),show IntKind.i64.wrap ((c.toNat:Int) - 97)=(c.toNat:Int) - 97 from Eng.wrap_small (by omega) (by omega),Eng.wrap_small (by omega) (by omega)]
    congr 1; omega
   ·rw [if_neg (show ¬ (c.toNat:Int)≤102 by omega),if_neg (by omega)]
  ·rw [if_neg (show ¬ (c.toNat:Int)≥97 by omega),if_neg (by omega)]
theorem gd {p0:List UInt8} {i:Nat} {c:UInt8} {r:List UInt8} (h:p0.drop i=c :: r):p0.getD (Int.toNat (i:Int)) 0=c:=by
 rw [Int.toNat_natCast]; exact (E3 _ _ c r 0 h).1
theorem I9 (K:Nat) (p0:List UInt8):∀ (k i:Nat),(p0.drop i).length < k→i+k < 9223372036854775807→Cx.l13 K p0 k (i:Int)=some ((i+((p0.drop i).takeWhile isW).length:Nat):Int)
 | 0,i,h,_=>by omega
 | k+1,i,h,hi=>by
  unfold Cx.l13;cases hs:p0.drop i with
  | nil =>
   have:p0.length≤i:=List.drop_eq_nil_iff.1 hs
   rw [if_neg (by omega)]; simp
  | cons c r =>
   obtain ⟨_,hlt,hr⟩:=E3 _ _ c r c hs;have ih:=I9 K p0 k (i+1) (by rw [hr]; rw [hs] at h; simpa using h) (by omega);rw [if_pos (by omega),if_pos ⟨by omega,by omega⟩,gd hs,Hh,Option.bind_some,List.takeWhile_cons];rw [G9,Option.bind_some,Gi (by omega),ih,hr];unfold isW;by_cases h1:isL c=true
   ·rw [if_pos h1,if_pos (by simp [h1])]; simp; omega
   ·rw [if_neg h1];by_cases h2:isD c=true
    ·rw [if_pos h2,if_pos (by simp [h2])]; simp; omega
    ·rw [if_neg h2,if_neg (by simp [h1,h2])]; simp
theorem Lk (K:Nat) (p0:List UInt8):∀ (k i:Nat),(p0.drop i).length < k→i+k < 9223372036854775807→Cq.l7 K p0 k (i:Int)=some ((i+((p0.drop i).takeWhile isD).length:Nat):Int)
 | 0,i,h,_=>by omega
 | k+1,i,h,hi=>by
  unfold Cq.l7;cases hs:p0.drop i with
  | nil =>
   have:p0.length≤i:=List.drop_eq_nil_iff.1 hs
   rw [if_neg (by omega)]; simp
  | cons c r =>
   obtain ⟨_,hlt,hr⟩:=E3 _ _ c r c hs;have ih:=Lk K p0 k (i+1) (by rw [hr]; rw [hs] at h; simpa using h) (by omega);rw [if_pos (by omega),if_pos ⟨by omega,by omega⟩,gd hs,G9,Option.bind_some,List.takeWhile_cons];rw [Gi (by omega),ih,hr];by_cases h2:isD c=true
   ·rw [if_pos h2,if_pos h2]; simp; omega
   ·rw [if_neg h2,if_neg h2]; simp
def F9 (acc:Nat):List UInt8→Nat
 | []=>acc
 | c :: r=>F9 (10 * acc+(c.toNat - 48)) r
theorem Ju:∀ (l:List UInt8) (acc:Nat),acc≤F9 acc l
 | [],acc=>Nat.le_refl _
 | c :: r,acc=>by
  have:=Ju r (10 * acc+(c.toNat - 48))
  unfold F9;omega
theorem I8:∀ (l:List UInt8) (acc:Nat),(∀ c∈l,isD c=true)→acc≤18446744073709551615→Lib.parseUintM 18446744073709551615 acc l=if F9 acc l≤18446744073709551615 then .ok (F9 acc l) else .range
 | [],acc,_,h=>by unfold Lib.parseUintM F9; rw [if_pos h]
 | c :: r,acc,hd,h=>by
  have hc:48≤c.toNat∧c.toNat≤57:=by simpa [isD] using hd c (.head _)
  have hge:=Ju r (10 * acc+(c.toNat - 48));unfold Lib.parseUintM;rw [if_pos hc];by_cases h1:1844674407370955162≤acc
  ·rw [if_pos h1,if_neg];unfold F9; omega
  ·rw [if_neg h1];by_cases h2:18446744073709551615 < acc * 10+(c.toNat - 48)
   ·rw [if_pos h2,if_neg];unfold F9; omega
   ·rw [if_neg h2,I8 r _ (fun x hx=>hd x (.tail _ hx)) (by omega),show acc * 10=10 * acc from Nat.mul_comm _ _];rfl
theorem Je {l:List UInt8} (hne:l≠[]) (h:∀ c∈l,isD c=true):(H5 l=decide (F9 0 l≤9223372036854775807))∧(F9 0 l≤9223372036854775807→Hg l=(F9 0 l:Int)):=by
 cases l with
 | nil=>exact absurd rfl hne
 | cons c r =>
  have hc:48≤c.toNat∧c.toNat≤57:=by simpa [isD] using h c (.head _)
  have hp:Lib.parseUintB 64 (c :: r)=if F9 0 (c :: r)≤18446744073709551615 then .ok (F9 0 (c :: r)) else .range:=by
   unfold Lib.parseUintB;rw [if_neg (by simp)];exact I8 (c :: r) 0 h (by omega)
  have hq:Lib.parseIntB 64 (c :: r)=if F9 0 (c :: r)≤9223372036854775807 then .ok (F9 0 (c :: r):Int) else .range:=by
   unfold Lib.parseIntB;simp only;rw [if_neg (by omega),hp];by_cases h1:F9 0 (c :: r)≤18446744073709551615
   ·rw [if_pos h1];simp only;by_cases h2:F9 0 (c :: r)≤9223372036854775807
    ·rw [if_neg (by omega),if_neg (by omega),if_neg (by omega),if_pos h2]
    ·rw [if_pos (by omega),if_neg h2]
   ·rw [if_neg h1,if_neg (by omega)]
  unfold H5 Hg;rw [hq];by_cases h2:F9 0 (c :: r)≤9223372036854775807
  ·rw [if_pos h2]; exact ⟨by simp [h2],fun _=>rfl⟩
  ·rw [if_neg h2]; exact ⟨by simp [h2],fun h=>absurd h h2⟩
theorem J2 (K:Nat) (p0:List UInt8) (n:Nat) (hn:n≤p0.length) (hd:∀ c∈p0.take n,isD c=true):∀ (k i:Nat) (acc:Nat),n - i < k→i≤n→n+k < 9223372036854775807→acc≤9223372036854775807 →
  Cq.l30 K p0 (n:Int) k (acc:Int) (i:Int)=some (if F9 acc ((p0.take n).drop i)≤9223372036854775807 then .go (F9 acc ((p0.take n).drop i):Int) else .done (0,0,14))
 | 0,i,acc,h,_,_,_=>by omega
 | k+1,i,acc,h,hi,hk,ha=>by
  unfold Cq.l30;by_cases hlt:i < n
  ·have hlt2:i < p0.length:=by omega
   have hlt3:i <(p0.take n).length:=by rw [List.length_take]; omega
   have hg:p0.getD (Int.toNat (i:Int)) 0=p0[i]:=by rw [Int.toNat_natCast]; simp [List.getD,hlt2]
   have hdr:(p0.take n).drop i=p0[i] ::(p0.take n).drop (i+1):=by rw [List.drop_eq_getElem_cons hlt3]; simp
   have hc:48≤p0[i].toNat∧p0[i].toNat≤57:=by
    have:=hd p0[i] (List.mem_of_mem_drop (i:=i) (by rw [hdr]; exact .head _))
    simpa [isD] using this
   rw [if_pos (by omega),if_pos ⟨by omega,by omega⟩,hg,hdr];have e1:IntKind.u8.wrap ((p0[i].toNat:Int) - 48)=((p0[i].toNat - 48:Nat):Int):=by rw [Hq (by omega) (by omega)]; omega
   rw [e1,Ob (by omega)];have e2:IntKind.i64.wrap (9223372036854775807 - ((p0[i].toNat - 48:Nat):Int))=((9223372036854775807 - (p0[i].toNat - 48):Nat):Int):=by rw [Eng.wrap_small (by omega) (by omega)]; omega
   rw [e2];have e3:Int.tdiv ((9223372036854775807 - (p0[i].toNat - 48):Nat):Int) 10=(((9223372036854775807 - (p0[i].toNat - 48)) / 10:Nat):Int):=by
    rw [show (10:Int)=((10:Nat):Int) from rfl,Int.ofNat_tdiv]
   rw [e3,Ob (by omega)];have hge:=Ju ((p0.take n).drop (i+1)) (10 * acc+(p0[i].toNat - 48));by_cases hov:acc >(9223372036854775807 - (p0[i].toNat - 48)) / 10
   ·rw [if_pos (by omega),if_neg];unfold F9; omega
   ·rw [if_neg (by omega)];have e4:IntKind.i64.wrap (10 * (acc:Int))=((10 * acc:Nat):Int):=by rw [Eng.wrap_small (by omega) (by omega)]; omega
    rw [e4,M4 (show 10 * acc+(p0[i].toNat - 48)≤9223372036854775807 by omega),Gi (by omega),J2 K p0 n hn hd k (i+1) _ (by omega) (by omega) (by omega) (by omega)];rfl
  ·rw [if_neg (by omega)]
   have:(p0.take n).drop i=[]:=List.drop_eq_nil_of_le (by rw [List.length_take]; omega)
   rw [this,show F9 acc []=acc from rfl,if_pos ha]
theorem Gb:∀ (s:List UInt8) (p:UInt8→Bool),∀ c∈s.takeWhile p,p c=true
 | [],p=>by simp
 | c :: r,p=>by
  rw [List.takeWhile_cons];by_cases h:p c=true
  ·rw [if_pos h];intro x hx;rcases List.mem_cons.1 hx with rfl | hx
   ·exact h
   ·exact Gb r p x hx
  ·rw [if_neg h]; simp
def okR (p0:List UInt8) (i:Nat) (r:Except Int (List UInt8×List UInt8)) (x:Option (Pq (List UInt8×Int×Int) Unit)):Prop :=
 match r with
 | .ok (t,rest)=>∃ j:Nat,i < j∧j≤p0.length∧rest=p0.drop j∧x=some (.done (t,(j:Int),0))
 | .error e=>e≠0∧(x=some (.done ([],0,e))∨(e=4∧x=some (.go ())))
theorem okR.err {p0:List UInt8} {i:Nat} {e:Int} (h:e≠0):okR p0 i (.error e) (some (.done ([],0,e))):=⟨h,.inl rfl⟩
theorem okR.le {p0:List UInt8} {i i':Nat} {r:Except Int (List UInt8×List UInt8)} {x:Option (Pq (List UInt8×Int×Int) Unit)} (h:okR p0 i' r x) (hi:i≤i'):okR p0 i r x:=by
 unfold okR at h ⊢;split at h
 ·obtain ⟨j,h1,h2⟩:=h; exact ⟨j,by omega,h2⟩
 ·exact h
theorem M1 (K:Nat) (p0:List UInt8) (hp:p0.length < 9000000) (i:Nat) (hi:i≤p0.length) (k:Nat):Bz.l95 K p0 (i:Int) (k+3) 0 2=some (match p0.drop (i+2) with
  | []=>.done ([],0,4)
  | x :: r3=>if hx x < 0 then .done ([],0,3) else (match r3 with
   | []=>.done ([],0,4)
   | y :: _=>if hx y < 0 then .done ([],0,3) else .go (16 * hx x+hx y))):=by
 unfold Bz.l95;have e2:IntKind.i64.wrap ((i:Int)+2)=((i+2:Nat):Int):=by rw [Eng.wrap_small (by omega) (by omega)]; omega
 rw [if_pos (by decide),e2];cases hs:p0.drop (i+2) with
 | nil =>
  have:p0.length≤i+2:=List.drop_eq_nil_iff.1 hs
  rw [if_pos (by omega)]
 | cons x r3 =>
  obtain ⟨_,hlt,hr⟩:=E3 _ _ x r3 x hs;rw [if_neg (by omega),if_pos ⟨by omega,by omega⟩,gd hs,La,Option.bind_some];simp only;by_cases hx0:hx x < 0
  ·rw [if_pos hx0,if_pos hx0]
  ·rw [if_neg hx0,if_neg hx0,Option.bind_some];have b1:=Gr x;have w0:IntKind.i64.wrap (16 * 0)=0:=by decide
   rw [w0,Int.zero_add,Eng.wrap_small (show -9223372036854775808≤hx x by omega) (by omega),show IntKind.i64.wrap (2+1)=3 by decide];unfold Bz.l95;have e3:IntKind.i64.wrap ((i:Int)+3)=((i+3:Nat):Int):=by rw [Eng.wrap_small (by omega) (by omega)]; omega
   rw [if_pos (by decide),e3];cases r3 with
   | nil =>
    have:p0.length≤i+3:=List.drop_eq_nil_iff.1 hr
    rw [if_pos (by omega)]
   | cons y r4 =>
    obtain ⟨_,hlt2,hr2⟩:=E3 _ _ y r4 y hr;have hs2:p0.drop (i+3)=y :: r4:=hr;rw [if_neg (by omega),if_pos ⟨by omega,by omega⟩,gd hs2,La,Option.bind_some];simp only;by_cases hy0:hx y < 0
    ·rw [if_pos hy0,if_pos hy0]
    ·rw [if_neg hy0,if_neg hy0,Option.bind_some];have b2:=Gr y;rw [Eng.wrap_small (show -9223372036854775808≤16 * hx x by omega) (by omega),Eng.wrap_small (show -9223372036854775808≤16 * hx x+hx y by omega) (by omega),show IntKind.i64.wrap (3+1)=4 by decide];unfold Bz.l95;rw [if_neg (by decide)]
theorem Lc (K:Nat) (hK:1000≤K) (p0:List UInt8) (hp:p0.length < 9000000):∀ (k i:Nat) (acc:List UInt8),(p0.drop i).length < k→i≤p0.length→acc.length+(p0.drop i).length < 9000000 →
  okR p0 i (F3 acc (p0.drop i)) (Bz.l9 K p0 k (i:Int) acc)
 | 0,i,acc,h,_,_=>by omega
 | k+1,i,acc,h,hi,ha=>by
  unfold Bz.l9;cases hs:p0.drop i with
  | nil =>
   have:p0.length≤i:=List.drop_eq_nil_iff.1 hs
   unfold F3;rw [if_neg (show ¬ (i:Int) <(p0.length:Int) by omega)];exact ⟨by decide,.inr ⟨rfl,rfl⟩⟩
  | cons c r =>
   obtain ⟨_,hlt,hr⟩:=E3 _ _ c r c hs;rw [hs] at h ha;simp only [List.length_cons] at h ha;have hcb:=Gg c;have ih:∀ (m:Nat) (s:List UInt8) (b:UInt8),p0.drop m=s→i < m→m≤p0.length→s.length < k→acc.length+1+s.length < 9000000→okR p0 i (F3 (acc++[b]) s) (Bz.l9 K p0 k (m:Int) (acc++[b])):=fun m s b h1 h2 h3 h4 h5=>by
    subst h1;exact (Lc K hK p0 hp k m (acc++[b]) h4 h3 (by simp only [List.length_append,List.length_cons,List.length_nil]; omega)).le (by omega)
   have hroom:∀ b:UInt8,(acc.length+([b]:List UInt8).length) * 1≤140737488355328:=fun b=>by simp only [List.length_cons,List.length_nil]; omega
   have w2:IntKind.i64.wrap ((i:Int)+2)=((i+2:Nat):Int):=by rw [Eng.wrap_small (by omega) (by omega)]; omega
   have w4:IntKind.i64.wrap ((i:Int)+4)=((i+4:Nat):Int):=by rw [Eng.wrap_small (by omega) (by omega)]; omega
   rw [if_pos (show (i:Int) <(p0.length:Int) by omega),if_pos (show (0:Int)≤(i:Int)∧(i:Int) <(p0.length:Int) by omega),gd hs,Gi (show i < 9223372036854775807 by omega),w2,w4];unfold F3;by_cases h34:c.toNat=34
   ·rw [if_pos (show (c.toNat:Int)=34 by omega),if_pos h34];by_cases hm:4096 < acc.length
    ·rw [if_pos hm,if_pos (show (acc.length:Int) > 4096 by omega)];exact .err (by decide)
    ·rw [if_neg hm,if_neg (show ¬ (acc.length:Int) > 4096 by omega),N8];exact ⟨i+1,by omega,by omega,hr.symm,rfl⟩
   ·rw [if_neg (show ¬ (c.toNat:Int)=34 by omega),if_neg h34];by_cases h92:c.toNat=92
    ·rw [if_pos h92,if_neg (show ¬ (c.toNat:Int) < 32 by omega),if_neg (show ¬ (c.toNat:Int) > 126 by omega),if_neg (show ¬ (c.toNat:Int)≠92 by omega)];cases r with
     | nil =>
      have:p0.length≤i+1:=List.drop_eq_nil_iff.1 hr
      rw [if_pos (show ((i+1:Nat):Int)≥(p0.length:Int) by omega)];exact .err (by decide)
     | cons d r2 =>
      obtain ⟨_,hlt2,hr2⟩:=E3 _ _ d r2 d hr;simp only [List.length_cons] at h ha;have hdb:=Gg d;rw [if_neg (show ¬ ((i+1:Nat):Int)≥(p0.length:Int) by omega),if_pos (show (0:Int)≤((i+1:Nat):Int)∧((i+1:Nat):Int) <(p0.length:Int) by omega),gd hr];have hb:(if (d.toNat:Int)=34 then some (decide ((d.toNat:Int)=34)) else some (decide ((d.toNat:Int)=92)):Option Bool)=some (decide (d.toNat=34∨d.toNat=92)):=by
       by_cases h1:d.toNat=34
       ·rw [if_pos (by omega)]; simp [h1]
       ·rw [if_neg (by omega)]; simp [h1]; omega
      rw [hb,Option.bind_some];simp only;by_cases hq:d.toNat=34∨d.toNat=92
      ·rw [if_pos (decide_eq_true hq),if_pos hq,if_pos (show 0≤(d.toNat:Int)∧(d.toNat:Int) < 256 by omega),if_pos (hroom _),Int.toNat_natCast,ofNat_toNat];exact ih _ _ d hr2 (by omega) (by omega) (by omega) (by omega)
      ·rw [if_neg (show ¬ (decide (d.toNat=34∨d.toNat=92)=true) by simpa using hq),if_neg hq];by_cases h110:d.toNat=110
       ·rw [if_pos (show (d.toNat:Int)=110 by omega),if_pos h110,if_pos (hroom _)];exact ih _ _ 10 hr2 (by omega) (by omega) (by omega) (by omega)
       ·rw [if_neg (show ¬ (d.toNat:Int)=110 by omega),if_neg h110];by_cases h116:d.toNat=116
        ·rw [if_pos (show (d.toNat:Int)=116 by omega),if_pos h116,if_pos (hroom _)];exact ih _ _ 9 hr2 (by omega) (by omega) (by omega) (by omega)
        ·rw [if_neg (show ¬ (d.toNat:Int)=116 by omega),if_neg h116];by_cases h120:d.toNat=120
         ·obtain ⟨q,hq⟩:∃ q,K=q+3:=⟨K - 3,by omega⟩
          have hl:=M1 K p0 hp i hi q;rw [← hq,show i+2=i+1+1 from rfl,hr2] at hl;rw [if_pos (show (d.toNat:Int)=120 by omega),if_pos h120,hl];cases r2 with
          | nil =>
           simp only [obind];exact .err (by decide)
          | cons x r3 =>
           obtain ⟨_,hlt3,hr3⟩:=E3 _ _ x r3 x hr2;simp only [List.length_cons] at h ha;simp only;by_cases hx0:hx x < 0
           ·rw [if_pos hx0,if_pos hx0];simp only [obind];exact .err (by decide)
           ·rw [if_neg hx0,if_neg hx0];cases r3 with
            | nil =>
             simp only [obind];exact .err (by decide)
            | cons y r4 =>
             obtain ⟨_,hlt4,hr4⟩:=E3 _ _ y r4 y hr3;simp only [List.length_cons] at h ha;simp only;by_cases hy0:hx y < 0
             ·rw [if_pos hy0,if_pos hy0];simp only [obind];exact .err (by decide)
             ·rw [if_neg hy0,if_neg hy0];have b1:=Gr x;have b2:=Gr y;simp only [obind];rw [Hq (show 0≤16 * hx x+hx y by omega) (by omega),if_pos (show 0≤16 * hx x+hx y∧16 * hx x+hx y < 256 by omega),if_pos (hroom _)];exact ih _ _ _ hr4 (by omega) (by omega) (by omega) (by omega)
         ·rw [if_neg (show ¬ (d.toNat:Int)=120 by omega),if_neg h120];exact .err (by decide)
    ·rw [if_neg h92];by_cases hp':32≤c.toNat∧c.toNat≤126
     ·rw [if_pos hp',if_neg (show ¬ (c.toNat:Int) < 32 by omega),if_neg (show ¬ (c.toNat:Int) > 126 by omega),if_pos (show (c.toNat:Int)≠92 by omega),if_pos (show 0≤(c.toNat:Int)∧(c.toNat:Int) < 256 by omega),if_pos (hroom _),Int.toNat_natCast,ofNat_toNat];exact ih _ _ c hr (by omega) (by omega) (by omega) (by omega)
     ·rw [if_neg hp'];by_cases h32:c.toNat < 32
      ·rw [if_pos (show (c.toNat:Int) < 32 by omega)];exact .err (by decide)
      ·rw [if_neg (show ¬ (c.toNat:Int) < 32 by omega),if_pos (show (c.toNat:Int) > 126 by omega)];exact .err (by decide)
def sgs:List (List UInt8):=[[61,61],[33,61],[60,61],[62,61],[40],[41],[123],[125],[91],[93],[44],[59],[46],[58],[61],[60],[62],[43],[45],[42],[47],[37]]
def fits (s x:List UInt8):Bool:=decide (x.length≤s.length) && decide (s.take x.length=x)
theorem slc0 (s:List UInt8) (n:Nat):Ur s 0 (n:Int)=s.take n:=by
 unfold Ur;simp
theorem Ja (K:Nat) (s:List UInt8) (l:List (List UInt8)) (hl:l.length < 1000):∀ (k i:Nat),l.length - i < k→i≤l.length →
  Cx.l82 K s l k (i:Int)=some (match (l.drop i).find? (fits s) with | some x=>.done (⟨5,0,x,0⟩,(x.length:Int),0) | none=>.go ())
 | 0,i,h,_=>by omega
 | k+1,i,h,hi=>by
  unfold Cx.l82;by_cases hlt:i < l.length
  ·have hg:l.getD (Int.toNat (i:Int)) []=l[i]:=by rw [Int.toNat_natCast]; simp [List.getD,hlt]
   have hd1:l.drop i=l[i] :: l.drop (i+1):=List.drop_eq_getElem_cons hlt;have ih:=Ja K s l hl k (i+1) (by omega) (by omega);rw [if_pos (by omega),if_pos ⟨by omega,by omega⟩,hg,hd1,List.find?_cons,Gi (by omega),ih,slc0];unfold fits;by_cases h1:l[i].length≤s.length
   ·rw [if_pos (by omega),if_pos ⟨by omega,by omega⟩];by_cases h2:s.take l[i].length=l[i]
    ·rw [if_pos h2]; simp [h1,h2]
    ·rw [if_neg h2]; simp [h1,h2]
   ·rw [if_neg (by omega)]; simp [h1]
  ·rw [if_neg (by omega),List.drop_eq_nil_of_le (by omega)];rfl
theorem L3:∀ x∈sgs,∃ k t,x=k :: t∧(k.toNat∈sg1∨k.toNat∈sg2):=by
 intro x hx;simp only [sgs,List.mem_cons,List.not_mem_nil,or_false] at hx;rcases hx with rfl | rfl | rfl | rfl | rfl | rfl | rfl | rfl | rfl | rfl | rfl | rfl | rfl | rfl | rfl | rfl | rfl | rfl | rfl | rfl | rfl | rfl <;> exact ⟨_,_,rfl,by decide⟩
theorem Oa (c:UInt8) (r:List UInt8) (k:UInt8):fits (c :: r) [k]=decide (c=k):=by
 unfold fits; simp
theorem Od (c:UInt8) (r:List UInt8) (k:UInt8):fits (c :: r) [k,61]=(decide (c=k) && decide (hd r=61)):=by
 unfold fits;cases r with
 | nil=>simp [hd]
 | cons d r =>
  have:(d=61)↔((d.toNat:Int)=61):=⟨fun h=>by rw [h]; rfl,fun h=>by have:=Gy (c:=d) (n:=61) (by omega); rw [this]; rfl⟩
  simp [hd,this]
  congr 1
theorem Lx (s:List UInt8) (hne:s≠[]):sgs.find? (fits s)=if Fp s=0 then none else some (s.take (Fp s)):=by
 cases s with
 | nil=>exact absurd rfl hne
 | cons c r =>
  rw [show Fp (c :: r)=(if c.toNat∈sg2 then (if hd r=61 then 2 else if c.toNat≠33 then 1 else 0) else if c.toNat∈sg1 then 1 else 0) from rfl];have tk2:hd r=61→(c :: r).take 2=[c,61]:=fun h=>by
   cases r with
   | nil=>cases h
   | cons d r =>
    have:=Gy (c:=d) (n:=61) (by have:(d.toNat:Int)=61:=h; omega)
    rw [this]; rfl
  by_cases h2:c.toNat∈sg2
  ·rw [if_pos h2];have hc:c=61∨c=60∨c=62∨c=33:=by
    simp only [sg2,List.mem_cons,List.not_mem_nil,or_false] at h2;rcases h2 with h | h | h | h
    ·exact .inl (Gy h)
    ·exact .inr (.inl (Gy h))
    ·exact .inr (.inr (.inl (Gy h)))
    ·exact .inr (.inr (.inr (Gy h)))
   unfold sgs;simp only [List.find?_cons,List.find?_nil,Oa,Od];by_cases h3:hd r=61
   ·rw [if_pos h3,if_neg (by decide),tk2 h3];rcases hc with rfl | rfl | rfl | rfl <;> simp [h3]
   ·rw [if_neg h3];rcases hc with rfl | rfl | rfl | rfl <;> simp [h3]
  ·rw [if_neg h2];by_cases h1:c.toNat∈sg1
   ·rw [if_pos h1,if_neg (by decide)];have hc:c=40∨c=41∨c=123∨c=125∨c=91∨c=93∨c=44∨c=59∨c=46∨c=58∨c=43∨c=45∨c=42∨c=47∨c=37:=by
     simp only [sg1,List.mem_cons,List.not_mem_nil,or_false] at h1;rcases h1 with h | h | h | h | h | h | h | h | h | h | h | h | h | h | h <;> have:=Gy h <;> simp [this]
    unfold sgs;simp only [List.find?_cons,List.find?_nil,Oa,Od];rcases hc with rfl | rfl | rfl | rfl | rfl | rfl | rfl | rfl | rfl | rfl | rfl | rfl | rfl | rfl | rfl <;> simp
   ·rw [if_neg h1,if_pos rfl,List.find?_eq_none];intro x hx hf;obtain ⟨k,t,rfl,hk⟩:=L3 x hx
    have:(c :: r).take (t.length+1)=k :: t:=by
     unfold fits at hf;simp at hf;simp [hf]
    rw [List.take_succ_cons] at this;injection this with e1 e2;subst e1;exact hk.elim h1 h2
def okO (s:List UInt8) (r:Except Int (Ap×List UInt8)) (x:Option (Ap×Int×Int)):Prop :=
 match r with
 | .ok (t,rest)=>∃ n:Nat,0 < n∧n≤s.length∧rest=s.drop n∧x=some (t,(n:Int),0)
 | .error e=>e≠0∧x=some (⟨0,0,[],0⟩,0,e)
theorem K0 {K:Nat} {s:List UInt8} (hs:s.length < K) (hb:s.length+K < 9000000) (h:Fq isD s=true) :
  Cq K s=some (if H9 s=true then (0,0,3) else if H5 (s.takeWhile isD)=true then (Hg (s.takeWhile isD),((s.takeWhile isD).length:Int),0) else (0,0,14)):=by
 have hp:0 <(s.takeWhile isD).length:=Hj h;have hle:=Ls isD s;have hl7:=Lk K s K 0 (by simpa using hs) (by omega);rw [List.drop_zero,Nat.zero_add] at hl7;have hl7':Cq.l7 K s K 0=some (((s.takeWhile isD).length:Nat):Int):=hl7;unfold Cq;rw [hl7',Option.bind_some];obtain ⟨c,r,rfl⟩:∃ c r,s=c :: r:=by
  cases s with
  | nil=>cases h
  | cons c r=>exact ⟨c,r,rfl⟩
 generalize hn:((c :: r).takeWhile isD).length=n at *;have e0:(c :: r).getD (Int.toNat 0) 0=c:=rfl;have hdw:(c :: r).dropWhile isD=(c :: r).drop n:=by rw [Hr,hn]
 have hlet:(n:Int) <((c :: r).length:Int)→∃ d t,(c :: r).drop n=d :: t:=fun hlt=>⟨_,_,List.drop_eq_getElem_cons (by omega)⟩
 have hmid:((if (n:Int) > 1 then (if (0:Int) <((c :: r).length:Int) then (if (((c :: r).getD (Int.toNat 0) 0).toNat:Int)=48 then some (Pq.done ((0:Int),(0:Int),(3:Int))) else (if (n:Int) <((c :: r).length:Int) then (if (0:Int)≤(n:Int)∧((n:Int):Int) <((c :: r).length:Int) then (Option.bind (C8 K (((c :: r).getD (Int.toNat (n:Int)) 0).toNat:Int)) (fun a2=>(if a2=true then some (Pq.done (0,0,3)) else some (Pq.go ())))) else none) else some (Pq.go ()))) else none) else (if (n:Int) <((c :: r).length:Int) then (if (0:Int)≤(n:Int)∧((n:Int):Int) <((c :: r).length:Int) then (Option.bind (C8 K (((c :: r).getD (Int.toNat (n:Int)) 0).toNat:Int)) (fun a3=>(if a3=true then some (Pq.done (0,0,3)) else some (Pq.go ())))) else none) else some (Pq.go ()))):Option (Pq (Int×Int×Int) Unit))=if H9 (c :: r)=true then some (Pq.done (0,0,3)) else some (Pq.go ()):=by
  have inner:((if (n:Int) <((c :: r).length:Int) then (if (0:Int)≤(n:Int)∧((n:Int):Int) <((c :: r).length:Int) then (Option.bind (C8 K (((c :: r).getD (Int.toNat (n:Int)) 0).toNat:Int)) (fun a3=>(if a3=true then some (Pq.done ((0:Int),(0:Int),(3:Int))) else some (Pq.go ())))) else none) else some (Pq.go ())):Option (Pq (Int×Int×Int) Unit))=if Fq isL ((c :: r).drop n)=true then some (Pq.done (0,0,3)) else some (Pq.go ()):=by
   by_cases hlt:(n:Int) <((c :: r).length:Int)
   ·obtain ⟨d,t,hdt⟩:=hlet hlt;rw [if_pos hlt,if_pos ⟨by omega,hlt⟩,gd hdt,Hh,Option.bind_some,hdt];rfl
   ·rw [if_neg hlt,List.drop_eq_nil_of_le (by omega)];rfl
  rw [inner,e0];unfold H9;rw [hn,hdw];rw [show Fq (fun c=>decide (c.toNat=48)) (c :: r)=decide (c.toNat=48) from rfl];by_cases h1:1 < n
  ·rw [if_pos (show (n:Int) > 1 by omega),if_pos (show (0:Int) <((c :: r).length:Int) by have:0 <(c :: r).length:=Nat.succ_pos _; omega)];by_cases h2:c.toNat=48
   ·rw [if_pos (show (c.toNat:Int)=48 by omega)]; simp [h1,h2]
   ·rw [if_neg (show ¬ (c.toNat:Int)=48 by omega)]; simp [h1,h2]
  ·rw [if_neg (show ¬ (n:Int) > 1 by omega)]; simp [h1]
 rw [hmid];by_cases hbad:H9 (c :: r)=true
 ·rw [if_pos hbad,if_pos hbad]; rfl
 ·rw [if_neg hbad,if_neg hbad];simp only [obind];have htk:(c :: r).take n=(c :: r).takeWhile isD:=by rw [← hn,Ij]
  have hdig:∀ x∈(c :: r).take n,isD x=true:=by rw [htk]; exact Gb _ _
  have hl:=J2 K (c :: r) n hle hdig K 0 0 (by omega) (by omega) (by omega) (by omega);rw [List.drop_zero,htk] at hl;have hl':Cq.l30 K (c :: r) (n:Int) K 0 0=_:=hl;rw [hl'];obtain ⟨g1,g2⟩:=Je (l:=(c :: r).takeWhile isD) (by intro e; rw [e] at hn; simp at hn; omega) (Gb _ _);by_cases hv:F9 0 ((c :: r).takeWhile isD)≤9223372036854775807
  ·rw [if_pos hv,g1,if_pos (decide_eq_true hv),g2 hv]
  ·rw [if_neg hv,g1,if_neg (by simpa using hv)]
theorem Ml {K:Nat} (hK2:1000≤K) {s:List UInt8} (hne:s≠[]) (hs:s.length < K) (hb:s.length+K < 9000000):okO s (Gw s) (Cx K s):=by
 obtain ⟨c,r,rfl⟩:∃ c r,s=c :: r:=by
  cases s with
  | nil=>exact absurd rfl hne
  | cons c r=>exact ⟨c,r,rfl⟩
 unfold Cx Gw;rw [if_pos (show (0:Int) <((c :: r).length:Int) by have:0 <(c :: r).length:=Nat.succ_pos _; omega),show (c :: r).getD (Int.toNat 0) 0=c from rfl,Hh,Option.bind_some,G9,Option.bind_some];simp only [show Fq isL (c :: r)=isL c from rfl,show Fq isD (c :: r)=isD c from rfl,show hd (c :: r)=(c.toNat:Int) from rfl];by_cases h1:isL c=true
 ·rw [if_pos h1,if_pos h1];have hl:=I9 K (c :: r) K 0 (by simpa using hs) (by omega);rw [List.drop_zero,Nat.zero_add] at hl;have hl':Cx.l13 K (c :: r) K 0=some ((((c :: r).takeWhile isW).length:Nat):Int):=hl;have hp:0 <((c :: r).takeWhile isW).length:=Hj (show (isL c || isD c)=true by simp [h1]);have hle:=Ls isW (c :: r);rw [hl',Option.bind_some,slc0,Ij,Kh hK2,Option.bind_some];unfold L6;by_cases h2:64 <((c :: r).takeWhile isW).length
  ·rw [if_pos h2,if_pos (show (((c :: r).takeWhile isW).length:Int) > 64 by omega)];exact ⟨by decide,rfl⟩
  ·rw [if_neg h2,if_neg (show ¬ (((c :: r).takeWhile isW).length:Int) > 64 by omega),if_pos (show (0:Int)≤(((c :: r).takeWhile isW).length:Int)∧(((c :: r).takeWhile isW).length:Int)≤((c :: r).length:Int) by omega),Hr];by_cases h3:isK ((c :: r).takeWhile isW)=true
   ·rw [if_pos h3,if_pos h3]; exact ⟨_,hp,hle,rfl,rfl⟩
   ·rw [if_neg h3,if_neg h3]; exact ⟨_,hp,hle,rfl,rfl⟩
 ·rw [if_neg h1,if_neg h1];by_cases h2:isD c=true
  ·rw [if_pos h2,if_pos h2,K0 hs hb h2,Option.bind_some];unfold L1;have hp:0 <((c :: r).takeWhile isD).length:=Hj h2;have hle:=Ls isD (c :: r);by_cases h3:H9 (c :: r)=true
   ·rw [if_pos h3,if_pos h3];exact ⟨by decide,rfl⟩
   ·rw [if_neg h3,if_neg h3];by_cases h4:H5 ((c :: r).takeWhile isD)=true
    ·rw [if_pos h4,if_pos h4,Hr];exact ⟨_,hp,hle,rfl,rfl⟩
    ·rw [if_neg h4,if_neg h4];exact ⟨by decide,rfl⟩
  ·rw [if_neg h2,if_neg h2];by_cases h3:(c.toNat:Int)=34
   ·rw [if_pos h3,if_pos h3];have hl:=Lc K hK2 (c :: r) (by omega) K 1 [] (by simp; simp at hs; omega) (by simp) (by simp; simp at hb; omega);have hl':okR (c :: r) 1 (F3 [] r) (Bz.l9 K (c :: r) K 1 []):=hl;unfold Bz;rw [List.tail_cons];revert hl';unfold okR;cases F3 [] r with
    | error e =>
     rintro ⟨he,h |⟨rfl,h⟩⟩
     ·rw [h];simp only [obind,Option.bind_some];rw [if_pos he];exact ⟨he,rfl⟩
     ·rw [h];simp only [obind,Option.bind_some];exact ⟨he,rfl⟩
    | ok p =>
     obtain ⟨t,rest⟩:=p;rintro ⟨j,g1,g2,g3,g4⟩;rw [g4];simp only [obind,Option.bind_some];rw [if_neg (show ¬ (0:Int)≠0 by decide)];exact ⟨j,by omega,g2,g3,rfl⟩
   ·rw [if_neg h3,if_neg h3];have hl:=Ja K (c :: r) sgs (by decide) K 0 (by have:sgs.length=22:=rfl; omega) (by omega);rw [List.drop_zero,Lx _ hne] at hl;have hl':Cx.l82 K (c :: r) sgs K 0=_:=hl;unfold En;rw [Option.bind_some];show okO _ _ (obind (Cx.l82 K (c :: r) sgs K 0) _ _);rw [hl'];by_cases h0:Fp (c :: r)=0
    ·rw [if_pos h0,if_pos h0];exact ⟨by decide,rfl⟩
    ·rw [if_neg h0,if_neg h0];have hle:=Kp (c :: r);refine ⟨Fp (c :: r),by omega,hle,rfl,?_⟩;simp only [obind,List.length_take];rw [Nat.min_eq_left hle]
def Ff:Nat→List UInt8→Nat→List Ap→Except (Int×Int) (List Ap)
 | 0,_,_,_=>.error (0,0)
 | f+1,s,i,acc =>
  match s.dropWhile isB with
  | []=>.ok (acc++[⟨0,((i+s.length:Nat):Int),[],0⟩])
  | c :: r =>
   match Gw (c :: r) with
   | .error e=>.error (((i+(s.takeWhile isB).length:Nat):Int),e)
   | .ok (t,rest)=>Ff f rest (i+s.length - rest.length) (acc++[⟨t.Kind,((i+(s.takeWhile isB).length:Nat):Int),t.Text,t.Int⟩])
def ans:Except (Int×Int) (List Ap)→List Ap×Int×Int
 | .ok l=>(l,0,0)
 | .error (at_,e)=>([],at_,e)
theorem J3 (f:Nat) (c:UInt8) (r:List UInt8) (i:Nat) (acc:List Ap) (h:isB c=true):Ff (f+1) (c :: r) i acc=Ff (f+1) r (i+1) acc:=by
 unfold Ff;rw [List.dropWhile_cons,if_pos h,List.takeWhile_cons,if_pos h,List.length_cons,List.length_cons];rw [show i+(r.length+1)=i+1+r.length by omega,show i+((r.takeWhile isB).length+1)=i+1+(r.takeWhile isB).length by omega]
theorem Jf {K:Nat} {src:List UInt8} (hK:src.length < K) (hK2:1000≤K) (hb:src.length+K < 9000000):∀ (k f i:Nat) (acc:List Ap),(src.drop i).length < k→(src.drop i).length < f→i≤src.length→acc.length+(src.drop i).length < 9000000 →
  Ed.l16 K src k src (i:Int) acc=some (.done (ans (Ff f (src.drop i) i acc)))
 | 0,f,i,acc,h,_,_,_=>by omega
 | k+1,0,i,acc,_,h,_,_=>by omega
 | k+1,f+1,i,acc,h,hf,hi,ha=>by
  have hbd:=Gn src isB i hi;have hlen:(src.drop i).length=src.length - i:=List.length_drop;unfold Ed.l16 Ff;rw [L9 hi hK (by omega),Option.bind_some];simp only;have hdw:=Lg src isB i;cases hs:(src.drop i).dropWhile isB with
  | nil =>
   rw [hdw] at hs;have hge:src.length≤i+((src.drop i).takeWhile isB).length:=List.drop_eq_nil_iff.1 hs;have e:i+((src.drop i).takeWhile isB).length=i+(src.drop i).length:=by omega
   rw [if_pos (show ((i+((src.drop i).takeWhile isB).length:Nat):Int)≥(src.length:Int) by omega),if_pos (show (acc.length+([(⟨0,((i+((src.drop i).takeWhile isB).length:Nat):Int),[],0⟩:Ap)]:List Ap).length) * 40≤140737488355328 by simp only [List.length_cons,List.length_nil]; omega),e];rfl
  | cons c r =>
   rw [hdw] at hs;have hlt:i+((src.drop i).takeWhile isB).length < src.length:=by
    rcases Nat.lt_or_ge (i+((src.drop i).takeWhile isB).length) src.length with h' | h'
    ·exact h'
    ·rw [List.drop_eq_nil_of_le h'] at hs; cases hs
   rw [if_neg (show ¬ ((i+((src.drop i).takeWhile isB).length:Nat):Int)≥(src.length:Int) by omega)];have hn:=N3 (i:=i+((src.drop i).takeWhile isB).length) (by omega) hK hK2 hb hlt;rw [hs] at hn;simp only;revert hn;unfold okS;cases Gw (c :: r) with
   | error e =>
    rintro ⟨he,t,q,hx⟩;rw [hx,Option.bind_some];simp only;rw [if_pos he];rfl
   | ok p =>
    obtain ⟨t,rest⟩:=p;rintro ⟨j,h1,h2,rfl,hx⟩;rw [hx,Option.bind_some];simp only;have hlj:(src.drop j).length=src.length - j:=List.length_drop;rw [if_neg (show ¬ (0:Int)≠0 by decide),if_pos (show (acc.length+([(⟨t.Kind,((i+((src.drop i).takeWhile isB).length:Nat):Int),t.Text,t.Int⟩:Ap)]:List Ap).length) * 40≤140737488355328 by simp only [List.length_cons,List.length_nil]; omega)];rw [Jf hK hK2 hb k f j _ (by omega) (by omega) h2 (by simp only [List.length_append,List.length_cons,List.length_nil]; omega),show i+(src.drop i).length - (src.drop j).length=j by omega]
theorem Nb {K:Nat} {src:List UInt8} (hs:src.length≤16384) (hK:20000≤K) (hb:K < 8000000):Ed K src=some (ans (Ff (src.length+1) src 0 [])):=by
 have h:=Jf (K:=K) (src:=src) (by omega) (by omega) (by omega) K (src.length+1) 0 [] (by simp; omega) (by simp) (by omega) (by simp; omega);have h':Ed.l16 K src K src 0 []=some (.done (ans (Ff (src.length+1) src 0 []))):=h;unfold Ed;rw [if_neg (by omega),h'];rfl
end Go.Proofs.YtifjagfmfkemmaaGreatDoor
