import Derived.Test.YtifjagfmfkemmaaGreatDoorLwH
set_option linter.unusedVariables false
set_option linter.unusedSimpArgs false
set_option maxHeartbeats 4000000
namespace Go.Proofs.YtifjagfmfkemmaaGreatDoor
open Eng Go
theorem Si {K:Nat} (hK:1000≤K) (hb:K≤9000000000) (n:Aa) (h:8 * nsz n+8≤K):Bq K n=some (dc (IsB n)):=(Ks hK hb (nsz n) h K n (Nat.le_refl _) (by omega)).1
theorem U3 {K:Nat} (hK:1000≤K) (hb:K≤9000000000) (l:List Aa) (h:8 * lsz l+16≤K):Ds K l=some (dc (Bs l)):=by
 obtain ⟨g,rfl⟩:∃ g,K=g+4:=⟨K - 4,by omega⟩
 have:=G7 l
 exact Rw (f:=g) (fun y hy=>(Ks hK hb (lsz l) (by omega) g y (F9 hy) (by omega)).1) (by omega) (by omega)
def IsK (n:Aa):Prop:=IsE n∧((1≤n.Op∧n.Op≤5)∨(n.Op=14∧(n.Kids.getD 0 A9).Op=4))
theorem Xb {n:Aa} (h:IsE n) (h14:n.Op=14):(0:Int) < n.Kids.length:=by
 rw [Ho] at h; unfold EX at h; omega
theorem V0 {K:Nat} (hK:1000≤K) (hb:K≤9000000000) (n:Aa) (h:8 * nsz n+8≤K):E1 K n=some (dc (IsK n)):=by
 unfold E1 IsK;rw [Rr hK hb n (by omega)];have h14:=@Xb n;simp only [Option.bind_some,I0,Fv,Ht,if_true,Bool.false_eq_true,if_false,decide_eq_true_eq,Int.toNat_zero];by_cases ho:n.Op=14
 ·by_cases hE:IsE n
  ·have h0:=h14 hE ho;simp only [ho,hE,h0,It,if_true,show ¬ ((14:Int)=1) by omega,show ¬ ((14:Int)=2) by omega,show ¬ ((14:Int)=3) by omega,show ¬ ((14:Int)=4) by omega,show ¬ ((14:Int)=5) by omega,decide_false,if_false,Bool.false_eq_true,T8];refine congrArg some (G1 ?_); simp
  ·simp [ho,hE]
 ·simp [ho];by_cases h1:n.Op=1; · simp [h1]
  by_cases h2:n.Op=2; · simp [h2]
  by_cases h3:n.Op=3; · simp [h3]
  by_cases h4:n.Op=4; · simp [h4]
  by_cases h5:n.Op=5; · simp [h5]
  simp [h1,h2,h3,h4,h5];rw [Ip (by omega)]
def Wf (l:List Aa):Prop:=∃ i x,l=i++[x]∧IsB x∧∀ y∈i,y.Op=6∧IsE y
def IsD (n:Aa):Prop :=
 Nm n.Name∧n.Int=0∧((n.Op=61∧n.Text=[]∧(n.Kids.length:Int)=1∧IsK (n.Kids.getD 0 A9))∨(n.Op=62∧n.Text=[]∧Wf n.Kids) ∨
  ((n.Op=63∨n.Op=64)∧Nm n.Text∧(n.Kids.length:Int)=1∧Bs n.Kids)∨(n.Op=65∧Nm n.Text∧1≤(n.Kids.length:Int)∧(n.Kids.length:Int)≤2∧Bs n.Kids))
theorem Wy {K:Nat} {l:List Aa} (hK:1000≤K) (hb:K≤9000000000) (h:8 * lsz l+16≤K):Fp K l=some (dc (∀ y∈l,y.Op=6∧IsE y)):=by
 have:=G7 l
 refine Ia (d:=A9) (L:=Dz.l7 K l) (f:=Fb K) (fun k i=>rfl) (fun x hx=>?_) (by omega) (by omega);show Option.bind (Ei K x) _=_;unfold Ei;rw [Rr hK hb x (by have:=F9 hx; omega)];simp [Fv,Gb]
theorem S6 {i:List Aa} {x:Aa}:Wf (i++[x])↔IsB x∧∀ y∈i,y.Op=6∧IsE y:=by
 constructor
 ·rintro ⟨j,y,e,h⟩;obtain ⟨rfl,e2⟩:=List.append_inj' e rfl;cases e2; exact h
 ·intro h; exact ⟨i,x,rfl,h⟩
theorem Hp:∀ (a b:List Aa),lsz (a++b)=lsz a+lsz b
 | [],b=>by simp [lsz]
 | x :: a,b=>by simp [lsz,Hp a b]; omega
theorem dopc (op:Int):op=61∨op=62∨op=63∨op=64∨op=65∨(op≠61∧op≠62∧op≠63∧op≠64∧op≠65):=by omega
theorem pDecl {K:Nat} (hK:1000≤K) (hb:K≤9000000000) (n:Aa) (h:8 * nsz n+16≤K):Em K n=some (dc (IsD n)):=by
 unfold Em;have hs:=Gk n;have hl:=G7 n.Kids;rw [w64 (by omega) (by omega)];unfold IsD;have hc:(n.Kids.length:Int)=1→E1 K (n.Kids.getD 0 A9)=some (dc (IsK (n.Kids.getD 0 A9))):=fun h=>V0 hK hb _ (by have:=F9 (Gn (l:=n.Kids) (i:=0) (by omega)); omega)
 have hB:(n.Kids.length:Int)=1→Bq K (n.Kids.getD 0 A9)=some (dc (Bs n.Kids)):=fun h=>by rw [Si hK hb _ (by have:=F9 (Gn (l:=n.Kids) (i:=0) (by omega)); omega),Tn h]
 simp only [Il,Ke hK,U3 hK hb n.Kids (by omega),Option.bind_some,I0,Ht,Fv,if_true,Bool.false_eq_true,if_false,decide_eq_true_eq,Int.toNat_zero];rcases List.eq_nil_or_concat n.Kids with e |⟨i,x,e⟩
 ·simp [e];rw [Ip]; rintro ⟨_,_,h⟩;obtain ⟨_,_,j,x,h,_⟩:=h; simp at h
 ·rw [List.concat_eq_append] at e;have hlen:(n.Kids.length:Int)=(i.length:Int)+1:=by rw [e]; simp
  have hx:n.Kids.getD (Int.toNat ((n.Kids.length:Int) - 1)) A9=x:=by rw [hlen,e]; simp [List.getD]
  have hsl:slc n.Kids 0 ((n.Kids.length:Int) - 1)=i:=by rw [hlen,e]; simp [slc]
  have hz:lsz n.Kids=lsz i+nsz x:=by rw [e,Hp]; simp [lsz]
  rw [hx,hsl,Si hK hb x (by omega),Wy hK hb (by omega)];have hdf:Wf n.Kids=(IsB x∧∀ y∈i,y.Op=6∧IsE y):=by rw [e]; exact propext S6
  rw [hdf];clear hx hsl hdf hz e hl hs;rcases n with ⟨op,nm,it,tx,ks⟩
  dsimp only at *;generalize IsB x=B at *;generalize Bs ks=B' at *;generalize (∀ y∈i,y.Op=6∧IsE y)=E at *;generalize IsK (ks.getD 0 A9)=C at *;generalize E1 K (ks.getD 0 A9)=r0 at *;generalize Bq K (ks.getD 0 A9)=r1 at *;generalize (ks.length:Int)=k at *;have i1:0 < k:=by omega
  have i2:k - 1 < k:=by omega
  have i3:¬ (k - 1 < 0):=by omega
  have i4:(0≤k - 1∧k - 1 < k):=by omega
  have i5:(k - 1≤k):=by omega
  have i6:(k - 1=0)=(k=1):=by apply propext; omega
  have i7:(k - 1≤1)=(k≤2):=by apply propext; omega
  have i8:1≤k:=by omega
  rcases dopc op with h | h | h | h | h | h
  case inr.inr.inr.inr.inr =>
   obtain ⟨n1,n2,n3,n4,n5⟩:=h;simp [n1,n2,n3,n4,n5,i3,Gb]
  all_goals subst h
  all_goals by_cases hk:k=1
  all_goals simp only [i1,i3,i4,i5,i6,i7,i8,if_true,if_false]
  all_goals clear i1 i2 i3 i4 i5 i6 i7 i8 hlen h hb hK
  all_goals try clear hc'
  all_goals first |(simp [hk,hc,hB,Gb]; done) |(simp [hk,hc,hB,Gb]; apply G1; constructor <;> intro h <;> simp_all; done) | trace_state
mutual
def ndp:Aa→Nat
 |⟨_,_,_,_,k⟩=>ldp k+1
def ldp:List Aa→Nat
 | []=>0
 | x :: l=>max (ndp x) (ldp l)
end
theorem Rq (n:Aa):ndp n=ldp n.Kids+1:=by cases n; simp [ndp]
theorem Nh {l:List Aa} {i:Nat} (h:i < l.length):ldp (l.drop i)=max (ndp (l.getD i A9)) (ldp (l.drop (i+1))):=by
 rw [List.drop_eq_getElem_cons h,ldp,H3 h]
mutual
theorem Ox:∀ n:Aa,ndp n≤nsz n
 |⟨_,_,_,_,k⟩=>by have:=Rm k; simp [ndp,nsz]; omega
theorem Rm:∀ l:List Aa,ldp l≤lsz l
 | []=>by simp [ldp]
 | x :: l=>by have:=Ox x; have:=Rm l; simp [ldp,lsz]; omega
end
theorem O2 {K:Nat} (hb:K≤9000000000):∀ (f:Nat) (n:Aa),nsz n≤f→nsz n≤K→(Ep.upto K f).Dc n=some (nsz n:Int):=by
 intro f
 induction f with
 | zero=>intro n h; have:=Hy n; omega
 | succ f ih =>
  intro n h hK;have hs:=Gk n;have hl:=G7 n.Kids;have key:∀ (k i:Nat) (a:Nat),i≤n.Kids.length→n.Kids.length < i+k→a+lsz (n.Kids.drop i)≤nsz n→Dc.l9 K (Ep.upto K f) n k a i=some (((a+lsz (n.Kids.drop i):Nat):Int)):=by
   intro k
   induction k with
   | zero=>intro i a h1 h2; omega
   | succ k ih2 =>
    intro i a h1 h2 h3;rw [Dc.l9];by_cases hi:(i:Int) <(n.Kids.length:Int)
    ·have hm:=F9 (Gn (l:=n.Kids) (i:=i) (by omega));have hd:=N5 (l:=n.Kids) (i:=i) (by omega);rw [if_pos hi,if_pos ⟨by omega,hi⟩,Int.toNat_natCast,ih _ (by omega) (by omega),Option.bind_some,w64 (by omega) (by omega),w64 (by omega) (by omega)]
     have:=ih2 (i+1) (a+nsz (n.Kids.getD i A9)) (by omega) (by omega) (by omega)
     rw [Int.natCast_add] at this;refine this.trans ?_;rw [hd]; congr 2; omega
    ·rw [if_neg hi,List.drop_eq_nil_iff.2 (by omega)]; simp [lsz]
  show Option.bind (Dc.l9 K (Ep.upto K f) n K 1 0) _=_
  have:=key K 0 1 (by omega) (by omega) (by simp; omega)
  replace this:Dc.l9 K (Ep.upto K f) n K 1 0=_:=this;rw [this]; simp; omega
theorem Pb {K:Nat} (hb:K≤9000000000):∀ (f:Nat) (n:Aa),nsz n≤f→nsz n≤K→(Du.upto K f).Ck n=some (nsz n:Int):=by
 intro f
 induction f with
 | zero=>intro n h; have:=Hy n; omega
 | succ f ih =>
  intro n h hK;have hs:=Gk n;have hl:=G7 n.Kids;have key:∀ (k i:Nat) (a:Nat),i≤n.Kids.length→n.Kids.length < i+k→a+lsz (n.Kids.drop i)≤nsz n→Ck.l9 K (Du.upto K f) n k a i=some (((a+lsz (n.Kids.drop i):Nat):Int)):=by
   intro k
   induction k with
   | zero=>intro i a h1 h2; omega
   | succ k ih2 =>
    intro i a h1 h2 h3;rw [Ck.l9];by_cases hi:(i:Int) <(n.Kids.length:Int)
    ·have hm:=F9 (Gn (l:=n.Kids) (i:=i) (by omega));have hd:=N5 (l:=n.Kids) (i:=i) (by omega);rw [if_pos hi,if_pos ⟨by omega,hi⟩,Int.toNat_natCast,ih _ (by omega) (by omega),Option.bind_some,w64 (by omega) (by omega),w64 (by omega) (by omega)]
     have:=ih2 (i+1) (a+nsz (n.Kids.getD i A9)) (by omega) (by omega) (by omega)
     rw [Int.natCast_add] at this;refine this.trans ?_;rw [hd]; congr 2; omega
    ·rw [if_neg hi,List.drop_eq_nil_iff.2 (by omega)]; simp [lsz]
  show Option.bind (Ck.l9 K (Du.upto K f) n K 1 0) _=_
  have:=key K 0 1 (by omega) (by omega) (by simp; omega)
  replace this:Ck.l9 K (Du.upto K f) n K 1 0=_:=this;rw [this]; simp; omega
theorem Oe {K:Nat} (hb:K≤9000000000):∀ (f:Nat) (n:Aa),nsz n≤f→nsz n≤K→(Ek.upto K f).Db n=some (ndp n:Int):=by
 intro f
 induction f with
 | zero=>intro n h; have:=Hy n; omega
 | succ f ih =>
  intro n h hK;have hs:=Gk n;have hl:=G7 n.Kids;have hd:=Rq n; have hd':=Ox n;have key:∀ (k i:Nat) (a:Nat),i≤n.Kids.length→n.Kids.length < i+k→Db.l9 K (Ek.upto K f) n k a i=some ((max a (ldp (n.Kids.drop i)):Nat):Int):=by
   intro k
   induction k with
   | zero=>intro i a h1 h2; omega
   | succ k ih2 =>
    intro i a h1 h2;rw [Db.l9];by_cases hi:(i:Int) <(n.Kids.length:Int)
    ·have hm:=F9 (Gn (l:=n.Kids) (i:=i) (by omega));have hd:=Nh (l:=n.Kids) (i:=i) (by omega);rw [if_pos hi,if_pos ⟨by omega,hi⟩,Int.toNat_natCast,ih _ (by omega) (by omega),Option.bind_some,w64 (by omega) (by omega),hd];generalize ndp (n.Kids.getD i A9)=b
     have:=ih2 (i+1) (max a b) (by omega) (by omega)
     rw [show (if (b:Int) >(a:Int) then (b:Int) else (a:Int))=((max a b:Nat):Int) by split <;> omega];rw [Int.natCast_add] at this;refine this.trans ?_
     congr 2; omega
    ·rw [if_neg hi,List.drop_eq_nil_iff.2 (by omega)]; simp [ldp]
  show Option.bind (Db.l9 K (Ek.upto K f) n K 0 0) _=_
  have:=key K 0 0 (by omega) (by omega)
  replace this:Db.l9 K (Ek.upto K f) n K 0 0=_:=this;rw [this]; simp; rw [w64 (by omega) (by omega)]; omega
theorem Ob {K:Nat} (hb:K≤9000000000):∀ (f:Nat) (n:Aa),nsz n≤f→nsz n≤K→(Dm.upto K f).Ce n=some (ndp n:Int):=by
 intro f
 induction f with
 | zero=>intro n h; have:=Hy n; omega
 | succ f ih =>
  intro n h hK;have hs:=Gk n;have hl:=G7 n.Kids;have hd:=Rq n; have hd':=Ox n;have key:∀ (k i:Nat) (a:Nat),i≤n.Kids.length→n.Kids.length < i+k→Ce.l9 K (Dm.upto K f) n k a i=some ((max a (ldp (n.Kids.drop i)):Nat):Int):=by
   intro k
   induction k with
   | zero=>intro i a h1 h2; omega
   | succ k ih2 =>
    intro i a h1 h2;rw [Ce.l9];by_cases hi:(i:Int) <(n.Kids.length:Int)
    ·have hm:=F9 (Gn (l:=n.Kids) (i:=i) (by omega));have hd:=Nh (l:=n.Kids) (i:=i) (by omega);rw [if_pos hi,if_pos ⟨by omega,hi⟩,Int.toNat_natCast,ih _ (by omega) (by omega),Option.bind_some,w64 (by omega) (by omega),hd];generalize ndp (n.Kids.getD i A9)=b;split
     ·have:=ih2 (i+1) b (by omega) (by omega)
      rw [Int.natCast_add] at this;refine this.trans ?_
      congr 2; omega
     ·have:=ih2 (i+1) a (by omega) (by omega)
      rw [Int.natCast_add] at this;refine this.trans ?_
      congr 2; omega
    ·rw [if_neg hi,List.drop_eq_nil_iff.2 (by omega)]; simp [ldp]
  show Option.bind (Ce.l9 K (Dm.upto K f) n K 0 0) _=_
  have:=key K 0 0 (by omega) (by omega)
  replace this:Ce.l9 K (Dm.upto K f) n K 0 0=_:=this;rw [this]; simp; rw [w64 (by omega) (by omega)]; omega
theorem Vn {K:Nat} (hb:K≤9000000000) (n:Aa) (h:nsz n≤K):Dc K n=some (nsz n:Int):=O2 hb K n h h
theorem rsize {K:Nat} (hb:K≤9000000000) (n:Aa) (h:nsz n≤K):Ck K n=some (nsz n:Int):=Pb hb K n h h
theorem Sl {K:Nat} (hb:K≤9000000000) (n:Aa) (h:nsz n≤K):Db K n=some (ndp n:Int):=Oe hb K n h h
theorem Wp {K:Nat} (hb:K≤9000000000) (n:Aa) (h:nsz n≤K):Ce K n=some (ndp n:Int):=Ob hb K n h h
def Small (n:Aa):Prop:=nsz n≤4000∧ndp n≤40
def IsR (n:Aa):Prop:=Small n∧n.Op=60∧n.Name=[]∧n.Int=0∧n.Text=[]∧∀ x∈n.Kids,IsD x
theorem Wr {K:Nat} (hb:K≤9000000000) (n:Aa) (h:nsz n≤K):Fj K n=some (dc (Small n)):=by
 unfold Fj Small;rw [Vn hb n h,Sl hb n h];simp [It,Gb]; apply G1; omega
theorem Wa {K:Nat} (hK:1000≤K) (hb:K≤9000000000) (n:Aa) (h:8 * nsz n+16≤K):Ff K n=some (dc (IsR n)):=by
 unfold Ff IsR;have hs:=Gk n;have hl:=G7 n.Kids;have he:Gc K n.Kids=some (dc (∀ x∈n.Kids,IsD x)):=by
  refine Ia (d:=A9) (L:=Eb.l7 K n.Kids) (f:=Ft K) (fun k i=>rfl) (fun x hx=>?_) (by omega) (by omega);show Option.bind (Em K x) _=_;rw [pDecl hK hb x (by have:=F9 hx; omega)]; rfl
 rw [Wr hb n (by omega),he,Il];simp [Fv,Gb];apply G1; constructor <;> intro h <;> simp_all
theorem Qs:Ec 5000000=some true:=by decide +kernel
end Go.Proofs.YtifjagfmfkemmaaGreatDoor
