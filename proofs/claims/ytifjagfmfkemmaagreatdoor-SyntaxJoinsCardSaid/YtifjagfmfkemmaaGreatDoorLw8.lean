import Derived.Test.YtifjagfmfkemmaaGreatDoorLw7
set_option linter.unusedVariables false
set_option linter.unusedSimpArgs false
set_option maxHeartbeats 4000000
namespace Go.Proofs.YtifjagfmfkemmaaGreatDoor
open Eng Go
theorem M5:∀ a b:List Nd,ldp (a++b)=max (ldp a) (ldp b)
 | [],b=>by simp [ldp]
 | x :: a,b=>by rw [List.cons_append,ldp,ldp,M5 a b]; omega
theorem Kf {l ts:List Tk} {a:Nd} (h:Hk l=some (.ok (a,ts))):∃ ks,a=nd 60 ks∧Fy G6 (l.length+1) [] l=some (.ok (ks,ts)):=by
 obtain ⟨ks,us,hx,hy⟩:=Ha (x:=Fy G6 (l.length+1) [] l) (f:=fun ks=>pok (nd 60 ks)) h;cases hy;exact ⟨ks,rfl,hx⟩
theorem Nw {a b:List UInt8} (ha:a.length≤5000) (hb:b.length≤5000) {la lb:List Tk} (h1:Fq (a.length+1) a 0 []=.ok la) (h2:Fq (b.length+1) b 0 []=.ok lb) :
  ∃ ta ea tb eb ta' tb' en,la=ta++[ea]∧lb=tb++[eb]∧(∀ t∈ta,t.Kind≠0)∧(∀ t∈tb,t.Kind≠0)∧ea.Kind=0∧eb.Kind=0∧en.Kind=0∧Zq ta ta'∧Zq tb tb'∧Fq (((a++[32])++b).length+1) ((a++[32])++b) 0 []=.ok (ta'++(tb'++[en])):=by
 obtain ⟨ta,ea,e1,e2,e3,e4⟩:=Jw (y:=32 :: b) ⟨rfl,by show ((32:Nat):Int)≠61; decide⟩ _ _ _ _ _ h1 (by omega);obtain ⟨tb,eb,q1,q2,q3,q4⟩:=Jw (y:=[]) ⟨rfl,by decide⟩ _ _ _ _ _ h2 (by omega);have hlen:((a++[32])++b).length+1=a.length+b.length+2:=by simp; omega
 obtain ⟨ta',f'',i'',g1,g2,g3⟩:=e4 (a.length+b.length+2) 0 [] (by simp; omega);obtain ⟨f'',rfl⟩:∃ j,f''=j+1:=⟨f'' - 1,by simp at g2; omega⟩
 obtain ⟨tb',f3,i3,k1,k2,k3⟩:=q4 (f''+1) (i''+1) ([]++ta') (by simp at g2 ⊢; omega);obtain ⟨f3,rfl⟩:∃ j,f3=j+1:=⟨f3 - 1,by simp at k2; omega⟩
 refine ⟨ta,ea,tb,eb,ta',tb',⟨0,((i3:Nat):Int),[],0⟩,by simpa using e1,by simpa using q1,e3,q3,e2,q2,rfl,g3,k3,?_⟩;rw [hlen,show (a++[32])++b=a++32 :: b by simp,g1,I4 _ _ _ _ _ (by decide)];rw [List.append_nil] at k1;rw [k1];unfold Fq;simp
theorem O5:LoR Kq:=loU 163859
theorem lB:Lo AN G6:=(loB G7 O5 40000).bl
theorem Pp {a b:List UInt8} (ha:a.length≤5000) (hb:b.length≤5000) {x y:Nd} {p q:Int} (h1:Jc Hk a=(x,p,0)) (h2:Jc Hk b=(y,q,0)) :
  Jc Hk ((a++[32])++b)=if 4000 < nsz (nd 60 (x.Kids++y.Kids)) then (B5,0,6) else (nd 60 (x.Kids++y.Kids),0,0):=by
 obtain ⟨_,_,la,ts,s1,g1,p1,k1,n1,d1⟩:=It G8 h1;obtain ⟨_,_,lb,us,s2,g2,p2,k2,n2,d2⟩:=It G8 h2;obtain ⟨ta,ea,tb,eb,ta',tb',en,rfl,rfl,b1,b2,c1,c2,c3,z1,z2,hs⟩:=Nw ha hb s1 s2;obtain ⟨ks,rfl,l1⟩:=Kf p1;obtain ⟨ks2,rfl,l2⟩:=Kf p2;have hts:ts=[ea]:=Pw ((Ix _ g1 _ p1:Eat 0 _ ts).1) k1 b1;have hus:us=[eb]:=Pw ((Ix _ g2 _ p2:Eat 0 _ us).1) k2 b2;subst hts; subst hus;have hlen:((a++[32])++b).length≤16384:=by simp; omega
 obtain ⟨b3,q1,q2,_,q4⟩:=Jk _ _ _ _ _ hs (by omega);rw [List.nil_append] at q1;rw [← q1] at q2;have gb:Fh (tb'++[en]):=Fh.app q2 (by simp);have ge:Fh [en]:=c3;obtain ⟨k3,m1,m2⟩:=Jq Gx lB _ [] ks ta [ea] ta' (tb'++[en]) g1 q2 c1 gb z1 l1 ((ta'++(tb'++[en])).length+1) (by omega);obtain ⟨k4,m3,m4⟩:=Jq Gx lB _ [] ks2 tb [eb] tb' [en] g2 gb c2 ge z2 l2 k3 m1;obtain ⟨k4,rfl⟩:∃ j,k4=j+1:=⟨k4 - 1,by simp at m3; omega⟩
 have hk:hdK 0 [en]=true:=by simp [hdK,c3]
 have m5:Fy G6 (k4+1) ks2 [en]=some (.ok (ks2,[en])):=by
  simp only [Fy,if_pos hk]
 have hp:Hk (ta'++(tb'++[en]))=some (.ok (nd 60 (ks++ks2),[en])):=by
  show bnd (Fy G6 ((ta'++(tb'++[en])).length+1) [] (ta'++(tb'++[en]))) (fun ks=>pok (nd 60 ks))=_
  have:=L8 (bl:=G6) k3 ks [] (tb'++[en])
  rw [List.append_nil] at this;rw [m2,this,m4,m5]; rfl
 rw [Rh hlen hs hp hk];by_cases h0:4000 < nsz (nd 60 (ks++ks2))
 ·rw [if_pos h0,if_pos h0]
 ·rw [if_neg h0,if_neg h0,if_neg];rw [O9] at d1 d2 ⊢;show ¬ 40 < ldp (ks++ks2)+1;rw [M5];have e1:ldp ks+1≤40:=d1;have e2:ldp ks2+1≤40:=d2;omega
theorem N2 {K:Nat} (hK:600000≤K) (hb:K < 8000000) (hw:Dl K=some true) (a b:List UInt8):Du K a b=some true:=by
 unfold Du;rw [hw];by_cases h:(a.length:Int) > 5000
 ·rw [if_pos h]; rfl
 rw [if_neg h];by_cases h':(b.length:Int) > 5000
 ·simp only [h',decide_true]; rfl
 simp only [h',decide_false,Option.bind_some];rw [if_neg (by decide),Kw hK hb,Kw hK hb,Kw hK hb];cases hv:Jc Hk a with
 | mk x v =>
  obtain ⟨p,c⟩:=v;cases hu:Jc Hk b with
  | mk y u =>
   obtain ⟨q,d⟩:=u;simp only [Option.bind_some];by_cases hc:c=0
   ·subst hc;rw [if_neg (by decide),Option.bind_some];by_cases hd:d=0
    ·subst hd;rw [if_neg (by simp)];obtain ⟨_,_,_,_,_,_,_,_,n1,_⟩:=It G8 hv;obtain ⟨_,_,_,_,_,_,_,_,n2,_⟩:=It G8 hu;have l1:x.Kids.length+1≤4000:=by have:=Hh x.Kids; rw [Fz] at n1; omega
     have l2:y.Kids.length+1≤4000:=by have:=Hh y.Kids; rw [Fz] at n2; omega
     have l3:nsz (nd 60 (x.Kids++y.Kids))≤8000:=by
      rw [Fz] at n1 n2 ⊢;show lsz (x.Kids++y.Kids)+1≤8000;rw [Gk]; omega
     rw [if_pos (by omega),if_pos (by omega),if_pos (by simp; omega),if_pos (by simp; omega),Pp (by omega) (by omega) hv hu];rw [rsize (by omega) (nd 60 (x.Kids++y.Kids)) (by omega)];by_cases h0:4000 < nsz (nd 60 (x.Kids++y.Kids))
     ·rw [if_pos h0];simp only [Option.bind_some];rw [if_pos (by omega)]; rfl
     ·rw [if_neg h0];simp only [Option.bind_some];rw [if_neg (by omega),if_pos trivial,(Qd K (by omega) (nd 60 (x.Kids++y.Kids)) _ (by omega)).self];rfl
    ·simp [hd]
   ·simp [hc]
theorem L2 (a b:List UInt8):Du 5000000 a b=some true:=N2 (by omega) (by omega) Nx a b
end Go.Proofs.YtifjagfmfkemmaaGreatDoor
