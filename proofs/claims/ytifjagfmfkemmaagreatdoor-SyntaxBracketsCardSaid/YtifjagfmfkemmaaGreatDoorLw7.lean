import Derived.Test.YtifjagfmfkemmaaGreatDoorLw6
set_option linter.unusedVariables false
set_option linter.unusedSimpArgs false
set_option maxHeartbeats 4000000
namespace Go.Proofs.YtifjagfmfkemmaaGreatDoor
open Eng Go
theorem Mx {p:List Tk→Rs Nd} (ht:Tot 16385 p) {src:List UInt8} {a:Nd} {b:Int} (h:Hf p src=(a,b,0)):src.length≤16384∧b=0∧∃ l ts,Ff (src.length+1) src 0 []=.ok l∧Fu l∧p l=some (.ok (a,ts))∧hdK 0 ts=true∧nsz a≤4000∧ndp a≤40:=by
 unfold Hf at h;by_cases h1:16384 < src.length
 ·rw [if_pos h1] at h; cases h
 rw [if_neg h1] at h;refine ⟨by omega,?_⟩;cases hs:Ff (src.length+1) src 0 [] with
 | error q =>
  obtain ⟨x,e⟩:=q
  have:=Ht _ _ _ _ _ _ (by omega) (by omega) hs
  rw [hs] at h;cases h;exact absurd rfl this
 | ok l =>
  rw [hs] at h;obtain ⟨b',e,h2,h3,h4⟩:=Hw _ _ _ _ _ hs (by omega);obtain rfl:l=b':=by simpa using e
  obtain ⟨r,hr⟩:=ht l h2 (by omega);dsimp only at h;unfold L8 fin at h;rw [hr] at h
  match r,hr,h with
  | .error e,hr,h=>cases h
  | .ok (x,ts),hr,h =>
   dsimp only at h;split at h
   ·split at h
    ·cases h
    ·split at h
     ·cases h
     ·rename_i h5 h6 h7;cases h;exact ⟨rfl,l,ts,rfl,h2,hr,h5,by omega,by omega⟩
   ·cases h
theorem N0 {p:List Tk→Rs Nd} {src:List UInt8} (hl:src.length≤16384) {l ts:List Tk} {a:Nd} (hs:Ff (src.length+1) src 0 []=.ok l) (hp:p l=some (.ok (a,ts))) (hk:hdK 0 ts=true):Hf p src=if 4000 < nsz a then (Ca,0,6) else if 40 < ndp a then (Ca,0,7) else (a,0,0):=by
 unfold Hf;rw [if_neg (by omega),hs];show L8 p l=_;unfold L8 fin;rw [hp];show (if hdK 0 ts=true then _ else _)=_;rw [if_pos hk]
theorem O3 {b ts:List Tk} {e:Tk} (h:ts<:+b++[e]) (hk:hdK 0 ts=true) (hb:∀ t∈b,t.Kind≠0):ts=[e]:=by
 obtain ⟨x,hx⟩:=h;cases ts with
 | nil=>cases hk
 | cons t u =>
  have hk0:t.Kind=0:=by simpa [hdK] using hk
  rcases List.eq_nil_or_concat u with rfl |⟨v,w,rfl⟩
  ·have:=List.append_inj' hx rfl
   exact this.2
  ·exfalso;rw [List.concat_eq_append,show x++t ::(v++[w])=(x++t :: v)++[w] by simp] at hx
   have:=(List.append_inj' hx rfl).1
   exact hb t (by rw [← this]; simp) hk0
theorem Jr {en:Tk} (h:en.Kind=0) (s:List UInt8):¬ isS s [en]=true:=by simp [isS,h]
theorem Hk {en:Tk} (h:en.Kind=0):∀ ops:Ops,E0 ops [en]=none
 | []=>rfl
 | o :: l=>by unfold E0; rw [if_neg (Jr h _)]; exact Hk h l
theorem G7 {sub:List Tk→Rs Nd} {ops:Ops} {ts:List Tk} {n:Nd} {en:Tk} (he:en.Kind=0) (h:sub ts=some (.ok (n,[en]))):Gz sub ops ts=some (.ok (n,[en])):=by
 unfold Gz;rw [h];show Fj sub ops ([en].length+1) n [en]=_;show Fj sub ops 2 n [en]=_;unfold Fj;rw [Hk he]
theorem M2 {F:Nat} {lp rp en:Tk} {mid:List Tk} {n:Nd} (h1:lp.Kind=5) (h2:lp.Text=[40]) (h3:rp.Kind=5) (h4:rp.Text=[41]) (he:en.Kind=0) (h:(SPu F).ex (mid++[rp,en])=some (.ok (n,[rp,en]))) :
  (SPu (F+7)).ex (lp ::(mid++[rp,en]))=some (.ok (n,[en])):=by
 have is1:∀ s:List UInt8,s≠[40]→¬ isS s (lp ::(mid++[rp,en]))=true:=fun s hs=>by
  simp [isS,h1,h2]; exact fun e=>hs e.symm
 have e1:(SPu (F+1)).pm (lp ::(mid++[rp,en]))=some (.ok (n,[en])):=by
  show pmF (SPu F) _=_;unfold pmF;have hl:Hd (lp ::(mid++[rp,en]))=none:=by
   simp only [Hd,Gl,E0,h1];rw [if_neg (by decide),if_neg (by decide),if_neg (is1 _ (by decide)),if_neg (is1 _ (by decide)),if_neg (is1 _ (by decide))]
  rw [hl];simp only [Fr,h1];rw [if_neg (by decide)];dsimp only;rw [if_neg (is1 _ (by decide)),if_neg (is1 _ (by decide))];have hw:Ex [40] (lp ::(mid++[rp,en]))=pok () (mid++[rp,en]):=by
   unfold Ex;rw [if_pos (by simp [isS,h1,h2])]; rfl
  rw [hw,Jp,h,Jp];have hw2:Ex [41] [rp,en]=pok () [en]:=by
   unfold Ex;rw [if_pos (by simp [isS,h3,h4])]; rfl
  rw [hw2,Jp]
 have e2:(SPu (F+2)).un (lp ::(mid++[rp,en]))=some (.ok (n,[en])):=by
  show unF (SPu (F+1)) _=_;unfold unF;rw [if_neg (is1 _ (by decide)),if_neg (is1 _ (by decide)),if_neg (is1 _ (by decide)),e1];show Fl _ 2 n [en]=_;unfold Fl;rw [if_neg (Jr he _),if_neg (Jr he _)]
 have e3:(SPu (F+3)).pd (lp ::(mid++[rp,en]))=some (.ok (n,[en])):=G7 he e2;have e4:(SPu (F+4)).sm (lp ::(mid++[rp,en]))=some (.ok (n,[en])):=G7 he e3;have e5:(SPu (F+5)).nt (lp ::(mid++[rp,en]))=some (.ok (n,[en])):=by
  show ntF (SPu (F+4)) _=_;unfold ntF;rw [if_neg (is1 _ (by decide)),e4,Jp,Hk he]
 have e6:(SPu (F+6)).cj (lp ::(mid++[rp,en]))=some (.ok (n,[en])):=G7 he e5;exact G7 he e6
theorem Oy (r:List UInt8):Gw (40 :: r)=.ok (⟨5,0,[40],0⟩,r):=rfl
theorem Ou (r:List UInt8):Gw (41 :: r)=.ok (⟨5,0,[41],0⟩,r):=rfl
theorem Nz {K f:Nat} (hf:163859≤f) (hK:3 * f≤K) (hb:K < 8000000) (src:List UInt8):Em K src=some (Hf (SPu f).ex src):=by
 have h:=J0 (K:=K) (by omega) hb (Ly f).ex.le ((N5 f 16385).1 (by omega)) ((O1 f).ex.le (by omega)) (q:=As K) (fun l hl=>(I0 (by omega) (by omega) f K hK).ex) src;unfold Em;show Option.bind (Fh K src) _=_;replace h:Fh K src=_:=h;rw [h]; rfl
theorem Ma {s:List UInt8} (hl:s.length≤5000) {n:Nd} {b:Int} (h:Hf Jj s=(n,b,0)):Hf (SPu (163859+7)).ex (([40]++s)++[41])=(n,0,0):=by
 obtain ⟨_,_,l,ts,hs,hg,hp,hk,hn,hd⟩:=Mx H3 h;obtain ⟨body,e,hl1,hl2,hl3,hl4⟩:=Kd (y:=[41]) ⟨rfl,by decide⟩ _ _ _ _ _ hs (by omega);rw [List.nil_append] at hl1;subst hl1;have hts:ts=[e]:=O3 ((Jd _ hg _ hp:Eat 0 _ ts).1) hk hl3;subst hts;obtain ⟨b',f'',i'',g1,g2,g3⟩:=hl4 (s.length+2) 1 [⟨5,0,[40],0⟩] (by simp);have hT:∃ rp en:Tk,rp.Kind=5∧rp.Text=[41]∧en.Kind=0∧Ff ((([40]++s)++[41]:List UInt8).length+1) (([40]++s)++[41]) 0 []=.ok (⟨5,0,[40],0⟩ ::(b'++[rp,en])):=by
  have e1:Ff ((([40]++s)++[41]:List UInt8).length+1) (([40]++s)++[41]) 0 []=Ff (s.length+2) (s++[41]) 1 [⟨5,0,[40],0⟩]:=by
   have hlen:(([40]++s)++[41]:List UInt8).length=s.length+2:=by simp
   rw [hlen];show Ff (s.length+2+1) (40 ::(s++[41])) 0 []=_
   conv=>lhs; unfold Ff
   have:(40 ::(s++[41]):List UInt8).dropWhile isB=40 ::(s++[41]):=rfl
   rw [this];simp only [Oy];have t1:(40 ::(s++[41]):List UInt8).takeWhile isB=[]:=rfl;rw [t1];simp only [List.length_cons,List.length_nil,List.nil_append]
   congr 1
   omega
  rw [e1,g1];obtain ⟨f'',rfl⟩:∃ j,f''=j+2:=⟨f'' - 2,by simp at g2; omega⟩
  refine ⟨⟨5,((i'':Nat):Int),[41],0⟩,⟨0,((i''+1:Nat):Int),[],0⟩,rfl,rfl,rfl,?_⟩
  conv=>lhs; unfold Ff
  have:([41]:List UInt8).dropWhile isB=[41]:=rfl
  rw [this];simp only [Ou];have t1:([41]:List UInt8).takeWhile isB=[]:=rfl;rw [t1];show Ff (f''+1) [] _ _=_;unfold Ff;simp
 obtain ⟨rp,en,r1,r2,r3,hT⟩:=hT;have hlen:(([40]++s)++[41]:List UInt8).length≤16384:=by simp; omega
 obtain ⟨b2,q1,q2,_,q4⟩:=Hw _ _ _ _ _ hT (by omega);rw [List.nil_append] at q1;rw [← q1] at q2;have gm:Fu (b'++[rp,en]):=q2.tl (by decide);have gr:Fu [rp,en]:=Fu.app gm (by simp);have hx:(SPu 163859).ex (b'++[rp,en])=some (.ok (n,[rp,en])) :=
  (loU 163859).ex _ body [e] b' [rp,en] n hg gm hl2 gr g3 (fun x hx=>by
   have h1:isS x [e]=false:=by simp [isS,hl2]
   have h2:isS x [rp,en]=false:=by
    have:x≠[41]:=by intro h0; subst h0; revert hx; decide
    simp [isS,r1,r2]; exact fun h0=>this h0.symm
   rw [h1,h2]) (Nat.le_refl _) hp
 have hy:=M2 (lp:=⟨5,0,[40],0⟩) rfl rfl r1 r2 r3 hx;rw [N0 hlen hT hy (by simp [hdK,r3]),if_neg (by omega),if_neg (by omega)]
theorem Jn {K:Nat} (hK:600000≤K) (hb:K < 8000000) (hw:Dw K=some true) (src:List UInt8):Dj K src=some true:=by
 unfold Dj;rw [hw];by_cases h:(src.length:Int) > 5000
 ·rw [if_pos h]; rfl
 rw [if_neg h,Oz (by omega) hb];have h1:=(Mp H3 J9 src).1;cases hv:Hf Jj src with
 | mk a v =>
  obtain ⟨b,c⟩:=v;rw [hv] at h1;simp only [Option.bind_some];by_cases hc:c=0
  ·subst hc;rw [if_neg (by decide),if_pos (by simp; omega),if_pos (by simp; omega),Nz (f:=163859+7) (by omega) (by omega) hb,Ma (by omega) hv];simp only [Option.bind_some,if_true];have h2:nsz a≤4000:=h1;rw [(Nn K (by omega) a a (by omega)).self];simp only [Option.bind_some,if_true]
  ·rw [if_pos hc]
theorem It (src:List UInt8):Dj 5000000 src=some true:=Jn (by omega) (by omega) Lw src
end Go.Proofs.YtifjagfmfkemmaaGreatDoor
