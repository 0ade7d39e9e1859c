import Derived.Test.YtifjagfmfkemmaaGreatDoorLwD
set_option linter.unusedVariables false
set_option linter.unusedSimpArgs false
set_option maxHeartbeats 4000000
namespace Go.Proofs.YtifjagfmfkemmaaGreatDoor
open Eng Go
def EX (op:Int) (nm:List UInt8) (it:Int) (tx:List UInt8) (k:Int) (E P:Prop):Prop :=
 ((op=1∨op=2∨op=3)∧nm=[]∧it=0∧tx=[]∧k=0)∨(op=4∧nm=[]∧tx=[]∧0≤it∧k=0) ∨
 (op=5∧nm=[]∧it=0∧(tx.length:Int)≤4096∧k=0)∨(op=6∧Nm nm∧it=0∧tx=[]∧k=0) ∨
 (op=7∧nm=[]∧it=0∧tx=[]∧E)∨(op=8∧nm=[]∧it=0∧tx=[]∧P) ∨
 ((op=10∨op=11)∧Nm nm∧it=0∧tx=[]∧E)∨((op=12∨op=13∨op=14)∧nm=[]∧it=0∧tx=[]∧k=1∧E) ∨
 (op=29∧Nm nm∧it=0∧tx=[]∧k=1∧E)∨((15≤op∧op≤28)∧nm=[]∧it=0∧tx=[]∧k=2∧E)
mutual
def IsE:Aa→Prop
 |⟨op,nm,it,tx,ks⟩=>EX op nm it tx ks.length (Es ks) (Ps ks)
def Es:List Aa→Prop
 | []=>True
 | x :: l=>IsE x∧Es l
def Ps:List Aa→Prop
 | []=>True
 | x :: l=>IsP x∧Ps l
def IsP:Aa→Prop
 |⟨op,nm,it,tx,ks⟩=>op=9∧nm=[]∧it=0∧(tx.length:Int)≤4096∧(ks.length:Int)=1∧Es ks
end
theorem Ho (n:Aa):IsE n=EX n.Op n.Name n.Int n.Text n.Kids.length (Es n.Kids) (Ps n.Kids):=by cases n; rw [IsE]
theorem Tc (n:Aa):IsP n=(n.Op=9∧n.Name=[]∧n.Int=0∧(n.Text.length:Int)≤4096∧(n.Kids.length:Int)=1∧Es n.Kids):=by cases n; rw [IsP]
theorem Lx:∀ l,Es l↔∀ x∈l,IsE x
 | []=>by simp [Es]
 | x :: l=>by rw [Es,Lx l]; simp
theorem On:∀ l,Ps l↔∀ x∈l,IsP x
 | []=>by simp [Ps]
 | x :: l=>by rw [Ps,On l]; simp
theorem Rp {l:List Aa} (h:(l.length:Int)=1):IsE (l.getD 0 A9)=Es l:=by
 match l,h with
 | [x],_=>simp [Es]
 | [],h=>simp at h
 | x :: y :: l,h=>exfalso; simp at h; omega
theorem Il (K:Nat) (n:Aa) (a b c:Bool):Bb K n a b c=some (dc ((a=true∨n.Name=[])∧(b=true∨n.Text=[])∧(c=true∨n.Int=0))):=by
 unfold Bb;cases a <;> cases b <;> cases c <;> simp only [if_true,Bool.false_eq_true,if_false,false_or,true_or,true_and,and_true]
 all_goals repeat' split
 all_goals apply Pt
 all_goals simp_all
theorem I0 {α β:Type} {c:Prop} [Decidable c] (a b:Option α) (f:α→Option β):Option.bind (if c then a else b) f=if c then Option.bind a f else Option.bind b f:=by split <;> rfl
theorem Gb {c p:Prop} [Decidable c]:(if c then some (dc p) else some false)=some (dc (c∧p)):=by
 split
 ·rename_i h; rw [G1 (show p↔c∧p from ⟨fun x=>⟨h,x⟩,fun x=>x.2⟩)]
 ·rename_i h; rw [Ip (fun x=>h x.1)]
theorem Jg {c p:Prop} [Decidable c]:(if c then some false else some (dc p))=some (dc (¬ c∧p)):=by
 split
 ·rename_i h; rw [Ip (fun x=>x.1 h)]
 ·rename_i h; rw [G1 (show p↔¬ c∧p from ⟨fun x=>⟨h,x⟩,fun x=>x.2⟩)]
theorem Fv {α:Type} (o:Option α):(Option.bind o fun a=>some a)=o:=by cases o <;> rfl
theorem opc (op:Int):op=1∨op=2∨op=3∨op=4∨op=5∨op=6∨op=7∨op=8∨op=10∨op=11∨op=12∨op=13∨op=14∨op=29∨(15≤op∧op≤28)∨(op≤0∨op=9∨30≤op):=by omega
theorem Wi {K f:Nat} {l:List Aa} (h:∀ x∈l,(Az.upto K f).D7 x=some (dc (IsP x))) (hl:l.length≤9000000000) (hK:l.length < K):(Az.upto K (f+4)).Dy l=some (dc (Ps l)):=by
 rw [G1 (On l)];exact Ia (d:=A9) (L:=Cm.l7 K (Az.upto K (f+1)) l) (f:=(Az.upto K (f+1)).Dg) (fun k i=>rfl) (fun x hx=>by show Option.bind ((Az.upto K f).D7 x) _=_; rw [h x hx]; rfl) hl hK
theorem Rg {K f:Nat} {l:List Aa} (h:∀ x∈l,(Az.upto K f).Bo x=some (dc (IsE x))) (hl:l.length≤9000000000) (hK:l.length < K):(Az.upto K (f+4)).C9 l=some (dc (Es l)):=by
 rw [G1 (Lx l)];exact Ia (d:=A9) (L:=Cp.l7 K (Az.upto K (f+1)) l) (f:=(Az.upto K (f+1)).Di) (fun k i=>rfl) (fun x hx=>by show Option.bind ((Az.upto K f).Bo x) _=_; rw [h x hx]; rfl) hl hK
theorem O4 {K:Nat} {R:Az} (hK:1000≤K) (n:Aa)
  (h1:(n.Kids.length:Int)=1→R.Bo (n.Kids.getD 0 A9)=some (dc (Es n.Kids)))
  (h2:R.Dy n.Kids=some (dc (Ps n.Kids))) (h3:R.C9 n.Kids=some (dc (Es n.Kids))):Bo.F K R n=some (dc (IsE n)):=by
 rw [Ho];unfold Bo.F;simp only [Il,Ke hK,h2,h3,Option.bind_some,I0,Ht,Int.toNat_zero,if_true,Bool.false_eq_true,if_false,decide_eq_true_eq];rcases n with ⟨op,nm,it,tx,ks⟩
 dsimp only at *;generalize (ks.length:Int)=k at *;generalize Es ks=E at *;generalize Ps ks=P at *;generalize R.Bo (ks.getD 0 A9)=r at *;have hr:k=1→r=some (dc E):=h1;clear h1;rcases opc op with h | h | h | h | h | h | h | h | h | h | h | h | h | h | h | h
 all_goals by_cases hk:k=1
 all_goals first |(subst h; simp [EX,Gb,Jg,It,Fv,hr,hk]; done) |(subst h; simp [EX,Gb,Jg,It,Fv,hr,hk]; apply G1; constructor <;> intro h <;> simp_all; done) | skip
 all_goals
  have n1:¬ op=1:=by omega
  have n2:¬ op=2:=by omega
  have n3:¬ op=3:=by omega
  have n4:¬ op=4:=by omega
  have n5:¬ op=5:=by omega
  have n6:¬ op=6:=by omega
  have n7:¬ op=7:=by omega
  have n8:¬ op=8:=by omega
  have n10:¬ op=10:=by omega
  have n11:¬ op=11:=by omega
  have n12:¬ op=12:=by omega
  have n13:¬ op=13:=by omega
  have n14:¬ op=14:=by omega
  have n29:¬ op=29:=by omega
  simp [EX,Gb,Jg,It,Fv,hr,hk,n1,n2,n3,n4,n5,n6,n7,n8,n10,n11,n12,n13,n14,n29]
 all_goals apply G1
 all_goals constructor <;> intro h <;> simp_all <;> omega
theorem Lb {K:Nat} (hK:1000≤K) (hb:K≤9000000000):∀ (m:Nat),∀ (f:Nat) (n:Aa),nsz n≤m→8 * m≤f→m < K→(Az.upto K f).Bo n=some (dc (IsE n)):=by
 intro m
 induction m with
 | zero=>intro f n h; have:=Hy n; omega
 | succ m ih =>
  intro f n h hf hk;obtain ⟨g,rfl⟩:∃ g,f=g+8:=⟨f - 8,by omega⟩
  have hs:=Gk n;have hl:=G7 n.Kids;have he:∀ (g:Nat),8 * m≤g→∀ x∈n.Kids,(Az.upto K g).Bo x=some (dc (IsE x)):=fun g hg x hx=>ih g x (by have:=F9 hx; omega) hg (by omega)
  refine O4 hK n (fun h1=>?_) ?_ ?_
  ·rw [he (g+7) (by omega) _ (Gn (by omega)),Rp h1]
  ·refine Wi (f:=g+3) (fun x hx=>?_) (by omega) (by omega);show D7.F K (Az.upto K (g+2)) x=_;unfold D7.F;have hx1:(x.Kids.length:Int)=1→(Az.upto K (g+2)).Bo (x.Kids.getD 0 A9)=some (dc (Es x.Kids)):=fun h1=>by
    have hm:=Gn (l:=x.Kids) (i:=0) (by omega);rw [ih (g+2) _ (by have:=F9 hx; have:=F9 hm; have:=Gk x; omega) (by omega) (by omega),Rp h1]
   rw [Tc];simp only [Il,Option.bind_some,Int.toNat_zero,Ht,Fv];generalize (Az.upto K (g+2)).Bo (x.Kids.getD 0 A9)=r at *;generalize (x.Kids.length:Int)=k at *;by_cases hk:k=1
   ·simp [hx1 hk,hk,Gb,It];apply G1; constructor <;> intro h <;> simp_all
   ·simp [hk,Gb]
  ·exact Rg (f:=g+3) (he _ (by omega)) (by omega) (by omega)
theorem Rr {K:Nat} (hK:1000≤K) (hb:K≤9000000000) (n:Aa) (h:8 * nsz n≤K):Bo K n=some (dc (IsE n)):=Lb hK hb (nsz n) K n (Nat.le_refl _) h (by have:=Hy n; omega)
theorem Up {K:Nat} (hK:1000≤K) (hb:K≤9000000000) (l:List Aa) (h:8 * lsz l+8≤K):C9 K l=some (dc (Es l)):=by
 obtain ⟨g,rfl⟩:∃ g,K=g+4:=⟨K - 4,by omega⟩
 have:=G7 l
 exact Rg (f:=g) (fun y hy=>Lb hK hb (lsz l) g y (F9 hy) (by omega) (by omega)) (by omega) (by omega)
end Go.Proofs.YtifjagfmfkemmaaGreatDoor
