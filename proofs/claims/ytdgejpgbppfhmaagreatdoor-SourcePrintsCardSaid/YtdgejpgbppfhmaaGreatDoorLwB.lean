import Derived.Test.YtdgejpgbppfhmaaGreatDoorLwA
set_option linter.unusedVariables false
set_option linter.unusedSimpArgs false
set_option maxHeartbeats 4000000
namespace Go.Proofs.YtdgejpgbppfhmaaGreatDoor
open Eng Go
noncomputable def dc (p:Prop):Bool:=@decide p (Classical.propDecidable p)
@[simp] theorem Hm {p:Prop}:(dc p=true)=p:=by unfold dc; simp
theorem I9 {p:Prop} (h:p):dc p=true:=by rw [Hm]; exact h
theorem H1 {p:Prop} (h:¬ p):dc p=false:=by
 cases e:dc p with
 | false=>rfl
 | true=>rw [Hm] at e; exact absurd e h
theorem L7 {b:Bool} {p:Prop} (h:b=true↔p):some b=some (dc p):=by
 congr 1
 by_cases hp:p
 ·rw [I9 hp,h.2 hp]
 ·rw [H1 hp]; cases b with
  | false=>rfl
  | true=>exact absurd (h.1 rfl) hp
@[simp] theorem Of:dc True=true:=I9 trivial
@[simp] theorem dc_False:dc False=false:=H1 id
theorem Hn {p:Prop} [Decidable p]:decide p=dc p:=by
 by_cases h:p
 ·rw [I9 h]; simp [h]
 ·rw [H1 h]; simp [h]
theorem Gr {p q:Prop} (h:p↔q):dc p=dc q:=by rw [propext h]
theorem Qu {α:Type} {l:List α} {d:α} {L:Nat→Int→Option (Ty Bool Unit)} {f:α→Option Bool} {p:α→Prop}
  (hL:∀ k i,L (k+1) i=(if i <(l.length:Int) then (if (0:Int)≤i∧(i:Int) <(l.length:Int) then ((f (l.getD (Int.toNat i) d)).bind fun a=>(if a=true then L k (IntKind.i64.wrap (i+1)) else some (Ty.done false))) else none) else some (Ty.go ())))
  (hf:∀ x∈l,f x=some (dc (p x))) (hb:l.length≤9000000000) :
  ∀ (k i:Nat),i≤l.length→l.length < i+k→L k i=some (if dc (∀ x∈l.drop i,p x) then Ty.go () else Ty.done false):=by
 intro k
 induction k with
 | zero=>intro i h1 h2; omega
 | succ k ih =>
  intro i h1 h2;rw [hL];by_cases hi:(i:Int) <(l.length:Int)
  ·have hi':i < l.length:=by omega
   rw [if_pos hi,if_pos ⟨by omega,hi⟩,Int.toNat_natCast,Hf hi',hf _ (List.getElem_mem hi'),Option.bind_some,List.drop_eq_getElem_cons hi'];by_cases hp:p l[i]
   ·rw [I9 hp,if_pos rfl,w64 (by omega) (by omega)]
    have:=ih (i+1) (by omega) (by omega)
    rw [Int.natCast_add] at this;refine this.trans ?_;rw [Gr (show (∀ x∈l.drop (i+1),p x)↔(∀ x∈l[i] :: l.drop (i+1),p x) from ?_)];simp only [List.mem_cons,forall_eq_or_imp]; exact ⟨fun h=>⟨hp,h⟩,fun h=>h.2⟩
   ·rw [H1 hp,H1 (fun h=>hp (h _ (List.mem_cons_self)))]; rfl
  ·rw [if_neg hi,List.drop_eq_nil_iff.2 (by omega),I9 (by simp)]; rfl
theorem Jd {α:Type} {l:List α} {d:α} {L:Nat→Int→Option (Ty Bool Unit)} {f:α→Option Bool} {p:α→Prop} {K:Nat}
  (hL:∀ k i,L (k+1) i=(if i <(l.length:Int) then (if (0:Int)≤i∧(i:Int) <(l.length:Int) then ((f (l.getD (Int.toNat i) d)).bind fun a=>(if a=true then L k (IntKind.i64.wrap (i+1)) else some (Ty.done false))) else none) else some (Ty.go ())))
  (hf:∀ x∈l,f x=some (dc (p x))) (hb:l.length≤9000000000) (hK:l.length < K):L K 0=some (if dc (∀ x∈l,p x) then Ty.go () else Ty.done false):=by
 have:=Qu hL hf hb K 0 (by omega) (by omega)
 exact this
theorem N0 {α:Type} {l:List α} {d:α} {L:Nat→Int→Option (Ty Int Unit)} {f:α→Option Bool} {p:α→Prop}
  (hL:∀ k i,L (k+1) i=(if i <(l.length:Int) then (if (0:Int)≤i∧(i:Int) <(l.length:Int) then ((f (l.getD (Int.toNat i) d)).bind fun a=>(if a=true then some (Ty.done i) else L k (IntKind.i64.wrap (i+1)))) else none) else some (Ty.go ())))
  (hf:∀ x∈l,f x=some (!dc (p x))) (hb:l.length≤9000000000) :
  ∀ (k i:Nat),i≤l.length→l.length < i+k→∃ o,L k i=some o∧((∀ x∈l.drop i,p x)→o=Ty.go ())∧((¬ ∀ x∈l.drop i,p x)→∃ j:Int,0≤j∧o=Ty.done j):=by
 intro k
 induction k with
 | zero=>intro i h1 h2; omega
 | succ k ih =>
  intro i h1 h2;rw [hL];by_cases hi:(i:Int) <(l.length:Int)
  ·have hi':i < l.length:=by omega
   rw [if_pos hi,if_pos ⟨by omega,hi⟩,Int.toNat_natCast,Hf hi',hf _ (List.getElem_mem hi'),Option.bind_some,List.drop_eq_getElem_cons hi'];by_cases hp:p l[i]
   ·rw [I9 hp,if_neg (by simp),w64 (by omega) (by omega)];obtain ⟨o,e1,e2,e3⟩:=ih (i+1) (by omega) (by omega);rw [Int.natCast_add] at e1;refine ⟨o,e1,fun h=>e2 fun x hx=>h x (List.mem_cons_of_mem _ hx),fun h=>e3 fun h'=>h fun x hx=>?_⟩;rcases List.mem_cons.1 hx with e | e
    ·exact e ▸ hp
    ·exact h' x e
   ·rw [H1 hp];exact ⟨_,rfl,fun h=>absurd (h _ List.mem_cons_self) hp,fun _=>⟨i,by omega,rfl⟩⟩
  ·rw [if_neg hi,List.drop_eq_nil_iff.2 (by omega)];exact ⟨_,rfl,fun _=>rfl,fun h=>absurd (by simp) h⟩
theorem Ir {α:Type} {l:List α} {d:α} {L:Nat→Int→Option (Ty Int Unit)} {f:α→Option Bool} {p:α→Prop} {K:Nat}
  (hL:∀ k i,L (k+1) i=(if i <(l.length:Int) then (if (0:Int)≤i∧(i:Int) <(l.length:Int) then ((f (l.getD (Int.toNat i) d)).bind fun a=>(if a=true then some (Ty.done i) else L k (IntKind.i64.wrap (i+1)))) else none) else some (Ty.go ())))
  (hf:∀ x∈l,f x=some (!dc (p x))) (hb:l.length≤9000000000) (hK:l.length < K) :
  Option.bind ((Ub (L K 0) (fun r=>r) (fun _=>some (-1))).bind fun a=>some (decide (a≥0))) (fun a=>some (!a))=some (dc (∀ x∈l,p x)):=by
 obtain ⟨o,e1,e2,e3⟩:=N0 hL hf hb K 0 (by omega) (by omega);have e1':L K 0=some o:=e1;rw [e1'];simp only [List.drop_zero] at e2 e3;by_cases h:∀ x∈l,p x
 ·rw [e2 h,I9 h]; rfl
 ·obtain ⟨j,hj,rfl⟩:=e3 h;rw [H1 h];simp [Ub,hj]
def Nm (s:Ge):Prop:=s≠[]∧s.length≤64∧isK s=false∧Ph isD s=false∧∀ c∈s,isW c=true
theorem L2 (c:UInt8):isW c=true↔(97≤c.toNat∧c.toNat≤122)∨(65≤c.toNat∧c.toNat≤90)∨c.toNat=95∨(48≤c.toNat∧c.toNat≤57):=by
 unfold isW isL isD; simp; omega
theorem Oq (c:UInt8):isD c=true↔(48≤c.toNat∧c.toNat≤57):=by unfold isD; simp
theorem Ot (c:UInt8):isL c=true↔(97≤c.toNat∧c.toNat≤122)∨(65≤c.toNat∧c.toNat≤90)∨c.toNat=95:=by
 unfold isL; simp; omega
theorem N7 (K:Nat) (s:Ge) (k:Nat) (i:Int):Ca.l15 K s (k+1) i=(if i <(s.length:Int) then (if (0:Int)≤i∧(i:Int) <(s.length:Int) then (((fun c=>some (isW c)) (s.getD (Int.toNat i) 0)).bind fun a=>(if a=true then Ca.l15 K s k (IntKind.i64.wrap (i+1)) else some (Ty.done false))) else none) else some (Ty.go ())):=by
 rw [Ca.l15];generalize s.getD (Int.toNat i) 0=c;generalize Ca.l15 K s k (IntKind.i64.wrap (i+1))=X;have e:=L2 c;simp only [Option.bind_some];by_cases h:isW c=true
 ·rw [if_pos h]; rw [h] at e; simp only [true_iff] at e
  repeat' split
  all_goals first | rfl |(exfalso; omega)
 ·rw [if_neg h]; replace e:=(not_congr e).1 h
  repeat' split
  all_goals first | rfl |(exfalso; omega)
theorem N2 (K:Nat) (s:Ge) (k:Nat) (i:Int):Cv.l15 K s (k+1) i=(if i <(s.length:Int) then (if (0:Int)≤i∧(i:Int) <(s.length:Int) then (((fun c=>some (isW c)) (s.getD (Int.toNat i) 0)).bind fun a=>(if a=true then Cv.l15 K s k (IntKind.i64.wrap (i+1)) else some (Ty.done false))) else none) else some (Ty.go ())):=by
 rw [Cv.l15];generalize s.getD (Int.toNat i) 0=c;generalize Cv.l15 K s k (IntKind.i64.wrap (i+1))=X;have e:=L2 c;have l:=Ot c;have e0:E5 K (c.toNat:Int)=some (isL c):=K5 c.toNat;rw [e0];simp only [Option.bind_some];by_cases h:isW c=true
 ·rw [if_pos h]; rw [h] at e; simp only [true_iff] at e;cases hl:isL c <;> rw [hl] at l <;> simp only [true_iff,Bool.false_eq_true,false_iff] at l
  all_goals repeat' split
  all_goals first | rfl |(exfalso; omega) |(exfalso; simp_all; done)
 ·rw [if_neg h]; replace e:=(not_congr e).1 h;cases hl:isL c <;> rw [hl] at l <;> simp only [true_iff,Bool.false_eq_true,false_iff] at l
  all_goals repeat' split
  all_goals first | rfl |(exfalso; omega) |(exfalso; simp_all; done)
theorem byW (s:Ge):∀ x∈s,(fun c=>some (isW c)) x=some (dc (isW x=true)):=fun x _=>L7 Iff.rfl
theorem J2 {K:Nat} (hK:1000≤K) (s:Ge):Ca K s=some (dc (Nm s)):=by
 unfold Ca Nm;rw [N8 hK];by_cases h1:s=[]
 ·subst h1; rw [H1 (by simp)]; simp [Ub]
 have hl:0 < s.length:=List.length_pos_iff.2 h1;rw [if_neg (by omega)];by_cases h2:(s.length:Int) > 64
 ·rw [if_pos h2,H1 (by omega)]; rfl
 rw [if_neg h2,Option.bind_some];cases h3:isK s with
 | true=>rw [H1 (by simp)]; rfl
 | false =>
  rw [if_neg (by simp),if_pos (by omega)];obtain ⟨c,r,rfl⟩:∃ c r,s=c :: r:=by cases s with | nil=>exact absurd rfl h1 | cons c r=>exact ⟨c,r,rfl⟩
  have hd:Ph isD (c :: r)=isD c:=rfl;have e:=Oq c;have g:(c :: r).getD (Int.toNat 0) 0=c:=rfl;simp only [g];rw [hd];by_cases h4:isD c=true
  ·have e1:=e.1 h4;rw [if_pos (by omega),if_pos (by omega),H1 (by simp [h4])]; rfl
  ·have:(if (c.toNat:Int)≥48 then (if (c.toNat:Int)≤57 then some (Ty.done false) else some (Ty.go ())) else some (Ty.go ()))=(some (Ty.go ()):Option (Ty Bool Unit)):=by
    split
    ·split
     ·exfalso; exact h4 (e.2 (by omega))
     ·rfl
    ·rfl
   rw [this];show Ub (Ca.l15 K (c :: r) K 0) _ _=_;rw [Jd (N7 K (c :: r)) (byW _) (by omega) (by omega)];by_cases h5:∀ x∈c :: r,isW x=true
   ·rw [I9 h5,I9 (show _∧_∧_∧_∧_ from ⟨by simp,by omega,by trivial,by simpa using h4,h5⟩)]; rfl
   ·rw [H1 h5,H1 (fun h=>h5 h.2.2.2.2)]; rfl
theorem Ln {K:Nat} (hK:1000≤K) (s:Ge):Cv K s=some (dc (Nm s)):=by
 unfold Cv Nm;rw [M2 hK];by_cases h1:s=[]
 ·subst h1; rw [H1 (by simp)]; simp
 have hl:0 < s.length:=List.length_pos_iff.2 h1;rw [if_neg h1];by_cases h2:(s.length:Int) > 64
 ·rw [if_pos h2,H1 (by omega)]
 rw [if_neg h2,if_pos (by omega)];obtain ⟨c,r,rfl⟩:∃ c r,s=c :: r:=by cases s with | nil=>exact absurd rfl h1 | cons c r=>exact ⟨c,r,rfl⟩
 have hd:Ph isD (c :: r)=isD c:=rfl;have e:=Oq c;have el:=Ot c;have ew:=L2 c;have e0:E5 K (((c :: r).getD (Int.toNat 0) 0).toNat:Int)=some (isL c):=K5 c.toNat;rw [e0,Option.bind_some,hd];by_cases h4:isL c=true
 ·rw [if_pos h4,Option.bind_some];have h4':isD c=false:=by
   cases h:isD c with
   | false=>rfl
   | true=>rw [h4] at el; rw [h] at e; simp only [true_iff] at e el; omega
  cases h3:isK (c :: r) with
  | true=>rw [H1 (by simp)]; rfl
  | false =>
   rw [if_neg (by simp)];show Ub (Cv.l15 K (c :: r) K 0) _ _=_;rw [Jd (N2 K (c :: r)) (byW _) (by omega) (by omega)];by_cases h5:∀ x∈c :: r,isW x=true
   ·rw [I9 h5,I9 ⟨by simp,by omega,rfl,h4',h5⟩]; rfl
   ·rw [H1 h5,H1 (fun h=>h5 h.2.2.2.2)]; rfl
 ·rw [if_neg h4,H1];intro h;have hw:=h.2.2.2.2 c List.mem_cons_self;have h6:=h.2.2.2.1;rw [hw] at ew; simp only [true_iff] at ew;have h4':=(not_congr el).1 h4
  have:isD c=true:=e.2 (by omega)
  rw [this] at h6; cases h6
def EX (op:Int) (nm:Ge) (it:Int) (tx:Ge) (k:Int) (E P:Prop):Prop :=
 ((op=1∨op=2∨op=3)∧nm=[]∧it=0∧tx=[]∧k=0)∨(op=4∧nm=[]∧tx=[]∧0≤it∧k=0) ∨
 (op=5∧nm=[]∧it=0∧(tx.length:Int)≤4096∧k=0)∨(op=6∧Nm nm∧it=0∧tx=[]∧k=0) ∨
 (op=7∧nm=[]∧it=0∧tx=[]∧E)∨(op=8∧nm=[]∧it=0∧tx=[]∧P) ∨
 ((op=10∨op=11)∧Nm nm∧it=0∧tx=[]∧E)∨((op=12∨op=13∨op=14)∧nm=[]∧it=0∧tx=[]∧k=1∧E) ∨
 (op=29∧Nm nm∧it=0∧tx=[]∧k=1∧E)∨((15≤op∧op≤28)∧nm=[]∧it=0∧tx=[]∧k=2∧E)
mutual
def IsE:Aa→Prop
 |⟨op,nm,it,tx,ks⟩=>EX op nm it tx ks.length (Es ks) (Ps ks)
def Es:List Aa→Prop
 | []=>True
 | x :: l=>IsE x∧Es l
def Ps:List Aa→Prop
 | []=>True
 | x :: l=>IsP x∧Ps l
def IsP:Aa→Prop
 |⟨op,nm,it,tx,ks⟩=>op=9∧nm=[]∧it=0∧(tx.length:Int)≤4096∧(ks.length:Int)=1∧Es ks
end
theorem Jm (n:Aa):IsE n=EX n.Op n.Name n.Int n.Text n.Kids.length (Es n.Kids) (Ps n.Kids):=by cases n; rw [IsE]
theorem Jr (n:Aa):IsP n=(n.Op=9∧n.Name=[]∧n.Int=0∧(n.Text.length:Int)≤4096∧(n.Kids.length:Int)=1∧Es n.Kids):=by cases n; rw [IsP]
theorem F8:∀ l,Es l↔∀ x∈l,IsE x
 | []=>by simp [Es]
 | x :: l=>by rw [Es,F8 l]; simp
theorem Jp:∀ l,Ps l↔∀ x∈l,IsP x
 | []=>by simp [Ps]
 | x :: l=>by rw [Ps,Jp l]; simp
theorem Qh {l:List Aa} (h:(l.length:Int)=1):IsE (l.getD 0 Ah)=Es l:=by
 match l,h with
 | [x],_=>simp [Es]
 | [],h=>simp at h
 | x :: y :: l,h=>exfalso; simp at h; omega
theorem Iv (K:Nat) (n:Aa) (a b c:Bool):A5 K n a b c=some (dc ((a=true∨n.Name=[])∧(b=true∨n.Text=[])∧(c=true∨n.Int=0))):=by
 unfold A5;cases a <;> cases b <;> cases c <;> simp only [if_true,Bool.false_eq_true,if_false,false_or,true_or,true_and,and_true]
 all_goals repeat' split
 all_goals apply L7
 all_goals simp_all
theorem I6 {K:Nat} (hK:1000≤K) (n:Aa) (a b:Bool):Al K n a b=some (dc ((if a=true then Nm n.Name else n.Name=[])∧(b=true∨n.Text=[])∧n.Int=0∧(n.Text.length:Int)≤4096)):=by
 unfold Al;rw [Ln hK];simp only [Option.bind_some,Hm];cases a <;> cases b <;> simp only [if_true,Bool.false_eq_true,if_false,false_or,true_or,true_and]
 all_goals repeat' split
 all_goals apply L7
 all_goals (try simp_all)
 all_goals (try omega)
theorem Hy {α β:Type} {c:Prop} [Decidable c] (a b:Option α) (f:α→Option β):Option.bind (if c then a else b) f=if c then Option.bind a f else Option.bind b f:=by split <;> rfl
theorem Fp {c p:Prop} [Decidable c]:(if c then some (dc p) else some false)=some (dc (c∧p)):=by
 split
 ·rename_i h; rw [Gr (show p↔c∧p from ⟨fun x=>⟨h,x⟩,fun x=>x.2⟩)]
 ·rename_i h; rw [H1 (fun x=>h x.1)]
theorem Hz {c p:Prop} [Decidable c]:(if c then some false else some (dc p))=some (dc (¬ c∧p)):=by
 split
 ·rename_i h; rw [H1 (fun x=>x.1 h)]
 ·rename_i h; rw [Gr (show p↔¬ c∧p from ⟨fun x=>⟨h,x⟩,fun x=>x.2⟩)]
theorem Fe {α:Type} (o:Option α):(Option.bind o fun a=>some a)=o:=by cases o <;> rfl
theorem opc (op:Int):op=1∨op=2∨op=3∨op=4∨op=5∨op=6∨op=7∨op=8∨op=10∨op=11∨op=12∨op=13∨op=14∨op=29∨(15≤op∧op≤28)∨(op≤0∨op=9∨30≤op):=by omega
theorem Sk {K f:Nat} {l:List Aa} (h:∀ x∈l,(A2.upto K f).Fd x=some (dc (IsP x))) (hl:l.length≤9000000000) (hK:l.length < K):(A2.upto K (f+4)).Fx l=some (dc (Ps l)):=by
 rw [Gr (Jp l)];exact Ir (d:=Ah) (L:=Du.l7 K (A2.upto K (f+1)) l) (f:=(A2.upto K (f+1)).Fb) (fun k i=>rfl) (fun x hx=>by show Option.bind ((A2.upto K f).Fd x) _=_; rw [h x hx]; rfl) hl hK
theorem Qr {K f:Nat} {l:List Aa} (h:∀ x∈l,(A2.upto K f).Bq x=some (dc (IsE x))) (hl:l.length≤9000000000) (hK:l.length < K):(A2.upto K (f+4)).D4 l=some (dc (Es l)):=by
 rw [Gr (F8 l)];exact Ir (d:=Ah) (L:=Db.l7 K (A2.upto K (f+1)) l) (f:=(A2.upto K (f+1)).Er) (fun k i=>rfl) (fun x hx=>by show Option.bind ((A2.upto K f).Bq x) _=_; rw [h x hx]; rfl) hl hK
theorem Nq {K:Nat} {R:A2} (hK:1000≤K) (n:Aa)
  (h1:(n.Kids.length:Int)=1→R.Bq (n.Kids.getD 0 Ah)=some (dc (Es n.Kids)))
  (h2:R.Fx n.Kids=some (dc (Ps n.Kids))) (h3:R.D4 n.Kids=some (dc (Es n.Kids))):Bq.F K R n=some (dc (IsE n)):=by
 rw [Jm];unfold Bq.F;simp only [Iv,J2 hK,h2,h3,Option.bind_some,Hy,Hm,Int.toNat_zero,if_true,Bool.false_eq_true,if_false,decide_eq_true_eq];rcases n with ⟨op,nm,it,tx,ks⟩
 dsimp only at *;generalize (ks.length:Int)=k at *;generalize Es ks=E at *;generalize Ps ks=P at *;generalize R.Bq (ks.getD 0 Ah)=r at *;have hr:k=1→r=some (dc E):=h1;clear h1;rcases opc op with h | h | h | h | h | h | h | h | h | h | h | h | h | h | h | h
 all_goals by_cases hk:k=1
 all_goals first |(subst h; simp [EX,Fp,Hz,Hn,Fe,hr,hk]; done) |(subst h; simp [EX,Fp,Hz,Hn,Fe,hr,hk]; apply Gr; constructor <;> intro h <;> simp_all; done) | skip
 all_goals
  have n1:¬ op=1:=by omega
  have n2:¬ op=2:=by omega
  have n3:¬ op=3:=by omega
  have n4:¬ op=4:=by omega
  have n5:¬ op=5:=by omega
  have n6:¬ op=6:=by omega
  have n7:¬ op=7:=by omega
  have n8:¬ op=8:=by omega
  have n10:¬ op=10:=by omega
  have n11:¬ op=11:=by omega
  have n12:¬ op=12:=by omega
  have n13:¬ op=13:=by omega
  have n14:¬ op=14:=by omega
  have n29:¬ op=29:=by omega
  simp [EX,Fp,Hz,Hn,Fe,hr,hk,n1,n2,n3,n4,n5,n6,n7,n8,n10,n11,n12,n13,n14,n29]
 all_goals apply Gr
 all_goals constructor <;> intro h <;> simp_all <;> omega
theorem K2 {K:Nat} (hK:1000≤K) (hb:K≤9000000000):∀ (m:Nat),∀ (f:Nat) (n:Aa),nsz n≤m→8 * m≤f→m < K→(A2.upto K f).Bq n=some (dc (IsE n)):=by
 intro m
 induction m with
 | zero=>intro f n h; have:=Gx n; omega
 | succ m ih =>
  intro f n h hf hk;obtain ⟨g,rfl⟩:∃ g,f=g+8:=⟨f - 8,by omega⟩
  have hs:=Gg n;have hl:=Gf n.Kids;have he:∀ (g:Nat),8 * m≤g→∀ x∈n.Kids,(A2.upto K g).Bq x=some (dc (IsE x)):=fun g hg x hx=>ih g x (by have:=D7 hx; omega) hg (by omega)
  refine Nq hK n (fun h1=>?_) ?_ ?_
  ·rw [he (g+7) (by omega) _ (G0 (by omega)),Qh h1]
  ·refine Sk (f:=g+3) (fun x hx=>?_) (by omega) (by omega);show Fd.F K (A2.upto K (g+2)) x=_;unfold Fd.F;have hx1:(x.Kids.length:Int)=1→(A2.upto K (g+2)).Bq (x.Kids.getD 0 Ah)=some (dc (Es x.Kids)):=fun h1=>by
    have hm:=G0 (l:=x.Kids) (i:=0) (by omega);rw [ih (g+2) _ (by have:=D7 hx; have:=D7 hm; have:=Gg x; omega) (by omega) (by omega),Qh h1]
   rw [Jr];simp only [Iv,Option.bind_some,Int.toNat_zero,Hm,Fe];generalize (A2.upto K (g+2)).Bq (x.Kids.getD 0 Ah)=r at *;generalize (x.Kids.length:Int)=k at *;by_cases hk:k=1
   ·simp [hx1 hk,hk,Fp,Hn];apply Gr; constructor <;> intro h <;> simp_all
   ·simp [hk,Fp]
  ·exact Qr (f:=g+3) (he _ (by omega)) (by omega) (by omega)
theorem O8 {K:Nat} (hK:1000≤K) (hb:K≤9000000000) (n:Aa) (h:8 * nsz n≤K):Bq K n=some (dc (IsE n)):=K2 hK hb (nsz n) K n (Nat.le_refl _) h (by have:=Gx n; omega)
theorem I0 {P:Prop}:Ub (some (if dc P then Ty.go () else Ty.done false):Option (Ty Bool Unit)) (fun r=>r) (fun _=>some true)=some (dc P):=by
 by_cases h:P
 ·rw [I9 h]; rfl
 ·rw [H1 h]; rfl
theorem Nn {P Q:Prop}:Ub (some (if dc P then Ty.go () else Ty.done false):Option (Ty Bool Unit)) (fun r=>r) (fun _=>some (dc Q))=some (dc (P∧Q)):=by
 by_cases h:P
 ·rw [I9 h]; simp [Ub,h]
 ·rw [H1 h,H1 (show ¬ (P∧Q) from fun x=>h x.1)]; rfl
theorem Ob {K f:Nat} {l:List Aa} (h:∀ x∈l,(Ch.upto K f).Au x=some (dc (IsE x))) (hl:l.length≤9000000000) (hK:l.length < K):(Ch.upto K (f+1)).Bi l=some (dc (Es l)):=by
 show Ub (Bi.l7 K (Ch.upto K f) l K 0) _ _=_;rw [Jd (d:=Ah) (L:=Bi.l7 K (Ch.upto K f) l) (f:=(Ch.upto K f).Au) (fun k i=>rfl) h hl hK,Gr (F8 l)];exact I0
theorem So {K:Nat} {R:Ch} (hK0:1000≤K) {n:Aa} (h:∀ x∈n.Kids,(x.Kids.length:Int)=1→R.Bi x.Kids=some (dc (Es x.Kids))) (hl:n.Kids.length≤9000000000) (hK:n.Kids.length < K) :
  Au.l54 K R n K 0=some (if dc (Ps n.Kids) then Ty.go () else Ty.done false):=by
 rw [Gr (Jp n.Kids)];refine Jd (d:=Ah) (f:=fun x=>if x.Op≠9 then some false else Option.bind (Al K x false true) (fun a=>if a=true then (if (x.Kids.length:Int)≠1 then some false else R.Bi x.Kids) else some false)) (fun k i=>?_) (fun x hx=>?_) hl hK
 ·rw [Au.l54];generalize n.Kids.getD (Int.toNat i) Ah=x;generalize Al K x false true=o1;generalize R.Bi x.Kids=o2;generalize Au.l54 K R n k (IntKind.i64.wrap (i+1))=X;cases o1 <;> cases o2 <;> simp only [Option.bind_none,Option.bind_some,Hy] <;> repeat' split
  all_goals first | rfl | simp_all
 ·rw [Jr];simp only [I6 hK0,Option.bind_some,Hm,ne_eq,ite_not];by_cases h1:(x.Kids.length:Int)=1
  ·simp [h x hx h1,h1,Fp,Hn];apply Gr; constructor <;> intro h <;> simp_all
  ·simp [h1,Fp]
theorem N9 {K:Nat} {R:Ch} (hK:1000≤K) (n:Aa) (h2:Au.l54 K R n K 0=some (if dc (Ps n.Kids) then Ty.go () else Ty.done false))
  (h3:R.Bi n.Kids=some (dc (Es n.Kids))):Au.F K R n=some (dc (IsE n)):=by
 rw [Jm];unfold Au.F;rw [h2];simp only [I6 hK,h3,Option.bind_some,Hy,Hm,Nn,Fe,if_true,Bool.false_eq_true,if_false,decide_eq_true_eq];rcases n with ⟨op,nm,it,tx,ks⟩
 dsimp only at *;generalize (ks.length:Int)=k at *;generalize Es ks=E at *;generalize Ps ks=P at *;have ht:tx=[]→(tx.length:Int)≤4096:=fun h=>by rw [h]; simp
 rcases opc op with h | h | h | h | h | h | h | h | h | h | h | h | h | h | h | h
 all_goals first |(subst h; simp [EX,Fp,Hz,Hn,Fe]; done) |(subst h; simp [EX,Fp,Hz,Hn,Fe]; apply Gr; constructor <;> intro h <;> simp_all; done) | skip
 all_goals
  have n1:¬ op=1:=by omega
  have n2:¬ op=2:=by omega
  have n3:¬ op=3:=by omega
  have n4:¬ op=4:=by omega
  have n5:¬ op=5:=by omega
  have n6:¬ op=6:=by omega
  have n7:¬ op=7:=by omega
  have n8:¬ op=8:=by omega
  have n10:¬ op=10:=by omega
  have n11:¬ op=11:=by omega
  have n12:¬ op=12:=by omega
  have n13:¬ op=13:=by omega
  have n14:¬ op=14:=by omega
  have n29:¬ op=29:=by omega
  simp [EX,Fp,Hz,Hn,Fe,n1,n2,n3,n4,n5,n6,n7,n8,n10,n11,n12,n13,n14,n29]
 all_goals apply Gr
 all_goals constructor <;> intro h <;> simp_all <;> omega
theorem K1 {K:Nat} (hK:1000≤K) (hb:K≤9000000000):∀ (m:Nat),∀ (f:Nat) (n:Aa),nsz n≤m→8 * m≤f→m < K→(Ch.upto K f).Au n=some (dc (IsE n)):=by
 intro m
 induction m with
 | zero=>intro f n h; have:=Gx n; omega
 | succ m ih =>
  intro f n h hf hk;obtain ⟨g,rfl⟩:∃ g,f=g+2:=⟨f - 2,by omega⟩
  have hs:=Gg n;have hl:=Gf n.Kids;refine N9 hK n (So hK (fun x hx h1=>?_) (by omega) (by omega)) ?_
  ·have:=D7 hx; have:=Gg x; have:=Gf x.Kids
   exact Ob (fun y hy=>ih g y (by have:=D7 hy; omega) (by omega) (by omega)) (by omega) (by omega)
  ·exact Ob (fun y hy=>ih g y (by have:=D7 hy; omega) (by omega) (by omega)) (by omega) (by omega)
theorem M4 {K:Nat} (hK:1000≤K) (hb:K≤9000000000) (n:Aa) (h:8 * nsz n≤K):Au K n=some (dc (IsE n)):=K1 hK hb (nsz n) K n (Nat.le_refl _) h (by have:=Gx n; omega)
theorem Sm {K:Nat} (hK:1000≤K) (hb:K≤9000000000) (l:List Aa) (h:8 * lsz l+8≤K):Bi K l=some (dc (Es l)):=by
 obtain ⟨g,rfl⟩:∃ g,K=g+1:=⟨K - 1,by omega⟩
 have:=Gf l
 exact Ob (f:=g) (fun y hy=>K1 hK hb (lsz l) g y (D7 hy) (by omega) (by omega)) (by omega) (by omega)
theorem R0 {K:Nat} (hK:1000≤K) (hb:K≤9000000000) (l:List Aa) (h:8 * lsz l+8≤K):D4 K l=some (dc (Es l)):=by
 obtain ⟨g,rfl⟩:∃ g,K=g+4:=⟨K - 4,by omega⟩
 have:=Gf l
 exact Qr (f:=g) (fun y hy=>K2 hK hb (lsz l) g y (D7 hy) (by omega) (by omega)) (by omega) (by omega)
def SX (op:Int) (nm:Ge) (it:Int) (tx:Ge) (k:Int) (E B W I C:Prop):Prop :=
 ((op=40∨op=41)∧Nm nm∧it=0∧tx=[]∧k=1∧E)∨(op=42∧nm=[]∧it=0∧tx=[]∧I) ∨
 (op=43∧nm=[]∧it=0∧tx=[]∧W)∨(op=44∧nm=[]∧it=0∧tx=[]∧k≤1∧E) ∨
 ((op=45∨op=52)∧nm=[]∧it=0∧tx=[]∧k=1∧E)∨(op=46∧Nm nm∧it=0∧tx=[]∧k=2∧B) ∨
 (op=47∧nm=[]∧it=0∧tx=[]∧k=1∧B)∨(op=48∧Nm nm∧it=0∧tx=[]∧E)∨(op=49∧nm=[]∧it=0∧tx=[]∧C)
mutual
def IsB:Aa→Prop
 |⟨op,nm,it,tx,ks⟩=>op=53∧nm=[]∧it=0∧tx=[]∧Ss ks
def IsS:Aa→Prop
 |⟨op,nm,it,tx,ks⟩=>SX op nm it tx ks.length (Es ks) (Bs ks) (W2 ks) (I3 ks) (ks≠[]∧Cs ks 16)
def Ss:List Aa→Prop
 | []=>True
 | x :: l=>IsS x∧Ss l
def Bs:List Aa→Prop
 | []=>True
 | x :: l=>IsB x∧Bs l
def W2:List Aa→Prop
 | []=>False
 | x :: l=>IsE x∧(l.length:Int)=1∧Bs l
def I3:List Aa→Prop
 | []=>False
 | x :: l=>IsE x∧I2 l
def I2:List Aa→Prop
 | []=>False
 | x :: l=>IsB x∧I1 l
def I1:List Aa→Prop
 | []=>True
 | x :: l=>l=[]∧(IsB x∨x.Op=42∧IsS x)
def Cs:List Aa→Nat→Prop
 | []=>fun _=>True
 | x :: l=>fun r=>(IsZ x∧l=[])∨(1≤r∧IsC x∧Cs l (r - 1))
def IsC:Aa→Prop
 |⟨op,nm,it,tx,ks⟩=>op=50∧(nm=[]∨Nm nm)∧it=0∧tx=[]∧W2 ks
def IsZ:Aa→Prop
 |⟨op,nm,it,tx,ks⟩=>op=51∧nm=[]∧it=0∧tx=[]∧(ks.length:Int)=1∧Bs ks
end
theorem Jl (n:Aa):IsB n=(n.Op=53∧n.Name=[]∧n.Int=0∧n.Text=[]∧Ss n.Kids):=by cases n; rw [IsB]
theorem Js (n:Aa):IsS n=SX n.Op n.Name n.Int n.Text n.Kids.length (Es n.Kids) (Bs n.Kids) (W2 n.Kids) (I3 n.Kids) (n.Kids≠[]∧Cs n.Kids 16):=by cases n; rw [IsS]
theorem Kg (n:Aa):IsC n=(n.Op=50∧(n.Name=[]∨Nm n.Name)∧n.Int=0∧n.Text=[]∧W2 n.Kids):=by cases n; rw [IsC]
theorem Kh (n:Aa):IsZ n=(n.Op=51∧n.Name=[]∧n.Int=0∧n.Text=[]∧(n.Kids.length:Int)=1∧Bs n.Kids):=by cases n; rw [IsZ]
theorem Kf:∀ l,Ss l↔∀ x∈l,IsS x
 | []=>by simp [Ss]
 | x :: l=>by rw [Ss,Kf l]; simp
theorem Ia:∀ l,Bs l↔∀ x∈l,IsB x
 | []=>by simp [Bs]
 | x :: l=>by rw [Bs,Ia l]; simp
theorem Ng {l:List Aa} (h:(l.length:Int)=1):IsB (l.getD 0 Ah)=Bs l:=by
 match l,h with
 | [x],_=>simp [Bs]
 | [],h=>simp at h
 | x :: y :: l,h=>exfalso; simp at h; omega
theorem Oz {l:List Aa} (h:(l.length:Int)=2):W2 l=(IsE (l.getD 0 Ah)∧IsB (l.getD 1 Ah)):=by
 match l,h with
 | [x,y],_=>simp [W2,Bs]
 | [],h=>simp at h
 | [x],h=>simp at h
 | x :: y :: z :: l,h=>exfalso; simp at h; omega
theorem Oh {l:List Aa} (h:¬ (l.length:Int)=2):W2 l=False:=by
 match l,h with
 | [],_=>simp [W2]
 | x :: l,h=>simp [W2] at h ⊢; intros; omega
theorem Sb (l:List Aa):I3 l=(2≤(l.length:Int)∧(l.length:Int)≤3∧IsE (l.getD 0 Ah)∧IsB (l.getD 1 Ah)∧((l.length:Int)=2∨IsB (l.getD 2 Ah)∨(l.getD 2 Ah).Op=42∧IsS (l.getD 2 Ah))):=by
 match l with
 | []=>simp [I3]
 | [x]=>simp [I3,I2]
 | [x,y]=>simp [I3,I2,I1]
 | [x,y,z]=>simp [I3,I2,I1]
 | x :: y :: z :: w :: l=>simp [I3,I2,I1]; intros; omega
theorem O5:∀ (l:List Aa) (x:Aa) (r:Nat),Cs (l++[x]) r↔((IsZ x∧l.length≤r)∨(IsC x∧l.length+1≤r))∧∀ y∈l,IsC y
 | [],x,r=>by simp [Cs]; constructor <;>(rintro (h | h)) <;> simp_all
 | y :: l,x,r=>by
  rw [List.cons_append,Cs]; show _∨_∧_∧Cs (l++[x]) (r - 1)↔_; rw [O5 l x (r - 1)];simp;constructor
  ·rintro ⟨h1,h2,h3,h4⟩;refine ⟨?_,h2,h4⟩;rcases h3 with h | h
   ·exact .inl ⟨h.1,by omega⟩
   ·exact .inr ⟨h.1,by omega⟩
  ·rintro ⟨h1,h2,h4⟩;rcases h1 with h | h
   ·exact ⟨by omega,h2,.inl ⟨h.1,by omega⟩,h4⟩
   ·exact ⟨by omega,h2,.inr ⟨h.1,by omega⟩,h4⟩
theorem sopc (op:Int):op=40∨op=41∨op=42∨op=43∨op=44∨op=45∨op=46∨op=47∨op=48∨op=49∨op=52∨(op≠40∧op≠41∧op≠42∧op≠43∧op≠44∧op≠45∧op≠46∧op≠47∧op≠48∧op≠49∧op≠52):=by omega
theorem S9 {K f:Nat} {l:List Aa} (h:∀ x∈l,(Am.upto K f).Dw x=some (dc (IsS x))) (hl:l.length≤9000000000) (hK:l.length < K):(Am.upto K (f+4)).Fa l=some (dc (Ss l)):=by
 rw [Gr (Kf l)];exact Ir (d:=Ah) (L:=Dc.l7 K (Am.upto K (f+1)) l) (f:=(Am.upto K (f+1)).Eo) (fun k i=>rfl) (fun x hx=>by show Option.bind ((Am.upto K f).Dw x) _=_; rw [h x hx]; rfl) hl hK
theorem P5 {K f:Nat} {l:List Aa} (h:∀ x∈l,(Am.upto K f).Bv x=some (dc (IsB x))) (hl:l.length≤9000000000) (hK:l.length < K):(Am.upto K (f+4)).Em l=some (dc (Bs l)):=by
 rw [Gr (Ia l)];exact Ir (d:=Ah) (L:=C9.l7 K (Am.upto K (f+1)) l) (f:=(Am.upto K (f+1)).En) (fun k i=>rfl) (fun x hx=>by show Option.bind ((Am.upto K f).Bv x) _=_; rw [h x hx]; rfl) hl hK
theorem Sw {K f:Nat} {l:List Aa} (h:∀ x∈l,(Am.upto K f).E7 x=some (dc (IsC x))) (hl:l.length≤9000000000) (hK:l.length < K):(Am.upto K (f+4)).Ev l=some (dc (∀ x∈l,IsC x)) :=
 Ir (d:=Ah) (L:=Da.l7 K (Am.upto K (f+1)) l) (f:=(Am.upto K (f+1)).Ep) (fun k i=>rfl) (fun x hx=>by show Option.bind ((Am.upto K f).E7 x) _=_; rw [h x hx]; rfl) hl hK
theorem Mm {c p:Prop} [Decidable c]:(if c then some true else some (dc p))=some (dc (c∨p)):=by
 split
 ·rename_i h; rw [I9 (.inl h)]
 ·rename_i h; rw [Gr (show p↔c∨p from ⟨.inr,fun x=>x.resolve_left h⟩)]
theorem Qp {c:Prop} [Decidable c]:(if c then some true else some false)=some (dc c):=by
 split
 ·rename_i h; rw [I9 h]
 ·rename_i h; rw [H1 h]
theorem Oe {K:Nat} {R:Am} (hK:1000≤K) (n:Aa)
  (hE:∀ i,i < n.Kids.length→Bq K (n.Kids.getD i Ah)=some (dc (IsE (n.Kids.getD i Ah))))
  (hEs:D4 K n.Kids=some (dc (Es n.Kids)))
  (hB:∀ i,i < n.Kids.length→R.Bv (n.Kids.getD i Ah)=some (dc (IsB (n.Kids.getD i Ah))))
  (hI:R.Fz n.Kids=some (dc (I3 n.Kids))) (hBs:R.Em n.Kids=some (dc (Bs n.Kids))) (hC:R.E1 n.Kids=some (dc (n.Kids≠[]∧Cs n.Kids 16))) :
  Dw.F K R n=some (dc (IsS n)):=by
 rw [Js];unfold Dw.F;simp only [Iv,J2 hK,hEs,hI,hBs,hC,Option.bind_some,Hy,Hm,Fe,if_true,Bool.false_eq_true,if_false,decide_eq_true_eq,Int.toNat_zero,Int.toNat_one];rcases n with ⟨op,nm,it,tx,ks⟩
 dsimp only at *;have h1:(ks.length:Int)=1→Bq K (ks.getD 0 Ah)=some (dc (Es ks)):=fun h=>by rw [hE 0 (by omega),Qh h]
 have h2:(ks.length:Int)=1→R.Bv (ks.getD 0 Ah)=some (dc (Bs ks)):=fun h=>by rw [hB 0 (by omega),Ng h]
 have h3:(ks.length:Int)=2→Bq K (ks.getD 0 Ah)=some (dc (IsE (ks.getD 0 Ah))):=fun h=>hE 0 (by omega)
 have h4:(ks.length:Int)=2→R.Bv (ks.getD 1 Ah)=some (dc (IsB (ks.getD 1 Ah))):=fun h=>hB 1 (by omega)
 have h5:(ks.length:Int)=2→W2 ks=(IsE (ks.getD 0 Ah)∧IsB (ks.getD 1 Ah)):=Oz;have h6:¬ (ks.length:Int)=2→W2 ks=False:=Oh;clear hE hB hEs hI hBs hC;generalize (ks≠[]∧Cs ks 16)=C at *;generalize (ks.length:Int)=k at *;generalize Es ks=E at *;generalize Bs ks=B at *;generalize W2 ks=W at *;generalize I3 ks=I at *;generalize IsE (ks.getD 0 Ah)=E0 at *;generalize IsB (ks.getD 1 Ah)=B1 at *;generalize Bq K (ks.getD 0 Ah)=r at *;generalize R.Bv (ks.getD 0 Ah)=r0 at *;generalize R.Bv (ks.getD 1 Ah)=r1 at *;rcases sopc op with h | h | h | h | h | h | h | h | h | h | h | h
 case inr.inr.inr.inr.inr.inr.inr.inr.inr.inr.inr =>
  obtain ⟨n1,n2,n3,n4,n5,n6,n7,n8,n9,n10,n11⟩:=h;simp [SX,n1,n2,n3,n4,n5,n6,n7,n8,n9,n10,n11]
 all_goals subst h
 all_goals by_cases hk:k=1
 all_goals first |(simp [SX,Fp,Hz,Hn,Fe,hk,h1,h2]; done) |(simp [SX,Fp,Hz,Hn,Fe,hk,h1,h2]; apply Gr; constructor <;> intro h <;> simp_all; done) | skip
 all_goals by_cases hk2:k=2
 all_goals first |(simp [SX,Fp,Hz,Hn,Fe,hk,hk2,h3,h4,h5,h6]; done) |(simp [SX,Fp,Hz,Hn,Fe,hk,hk2,h3,h4,h5,h6]; apply Gr; constructor <;> intro h <;> simp_all; done) | skip
theorem Qc {K:Nat} {R:Am} (l:List Aa)
  (hE:∀ i,i < l.length→Bq K (l.getD i Ah)=some (dc (IsE (l.getD i Ah))))
  (hB:∀ i,i < l.length→R.Bv (l.getD i Ah)=some (dc (IsB (l.getD i Ah))))
  (hS:∀ i,i < l.length→R.Dw (l.getD i Ah)=some (dc (IsS (l.getD i Ah)))):Fz.F K R l=some (dc (I3 l)):=by
 rw [Sb];unfold Fz.F;simp only [Int.toNat_zero,Int.toNat_one,show Int.toNat 2=2 from rfl];by_cases h2:(l.length:Int) < 2
 ·rw [if_pos h2,H1 (by omega)]
 rw [if_neg h2];by_cases h3:(l.length:Int) > 3
 ·rw [if_pos h3,H1 (by omega)]
 rw [if_neg h3,if_pos (by omega),hE 0 (by omega),hB 1 (by omega)];simp only [Option.bind_some,Hm,Fe];rw [if_pos (show (1:Int) < l.length by omega)];by_cases h4:(l.length:Int)=2
 ·simp [h4,Fp,Qp]
 ·have h5:(l.length:Int)=3:=by omega
  simp only [hB 2 (by omega),hS 2 (by omega),Option.bind_some,Hm,Fe];simp [h5,Fp,Mm]
theorem Nr {K:Nat} {R:Am} (hK:1000≤K) (n:Aa)
  (hE:∀ i,i < n.Kids.length→Bq K (n.Kids.getD i Ah)=some (dc (IsE (n.Kids.getD i Ah))))
  (hB:∀ i,i < n.Kids.length→R.Bv (n.Kids.getD i Ah)=some (dc (IsB (n.Kids.getD i Ah)))):E7.F K R n=some (dc (IsC n)):=by
 rw [Kg];unfold E7.F;simp only [Iv,J2 hK,Option.bind_some,Hy,Hm,Fe,Int.toNat_zero,Int.toNat_one];rcases n with ⟨op,nm,it,tx,ks⟩
 dsimp only at *;by_cases hk:(ks.length:Int)=2
 ·rw [hE 0 (by omega),hB 1 (by omega),Oz hk];simp [hk,Fp];by_cases hn:nm=[]
  ·simp [hn,Fp]; apply Gr; constructor <;> intro h <;> simp_all
  ·simp [hn,Fp]; apply Gr; constructor <;> intro h <;> simp_all
 ·rw [Oh hk];simp [hk,Fp]
theorem L9 {K:Nat} {R:Am} (hK:1000≤K) (l:List Aa) (hl:l.length≤9000000000)
  (hB:∀ x∈l,∀ i,i < x.Kids.length→R.Bv (x.Kids.getD i Ah)=some (dc (IsB (x.Kids.getD i Ah))))
  (hC:∀ l':List Aa,(∀ x∈l',x∈l)→l'.length≤l.length→R.Ev l'=some (dc (∀ x∈l',IsC x))):E1.F K R l=some (dc (l≠[]∧Cs l 16)):=by
 unfold E1.F;rcases List.eq_nil_or_concat l with rfl |⟨l,x,rfl⟩
 ·rw [H1 (by simp)]; rfl
 rw [List.concat_eq_append] at *;have hlen:((l++[x]).length:Int)=(l.length:Int)+1:=by simp
 have hw:IntKind.i64.wrap (((l++[x]).length:Int) - 1)=(l.length:Int):=by rw [hlen]; simp at hl; rw [w64 (by omega) (by omega)]; omega
 have hx:(l++[x]).getD (Int.toNat (l.length:Int)) Ah=x:=by simp [List.getD]
 have hs:We (l++[x]) 0 (l.length:Int)=l:=by simp [We]
 rw [hw,hx,hs,hlen];have e1:=hC l (fun y hy=>by simp [hy]) (by simp);have e2:=hC (l++[x]) (fun y hy=>hy) (Nat.le_refl _);have e3:(x.Kids.length:Int)=1→R.Bv (x.Kids.getD 0 Ah)=some (dc (Bs x.Kids)):=fun h=>by rw [hB x (by simp) 0 (by omega),Ng h]
 rw [Gr (show (l++[x]≠[]∧Cs (l++[x]) 16)↔Cs (l++[x]) 16 by simp),Gr (O5 l x 16)];have i1:(0:Int)≤(l.length:Int)∧(l.length:Int) <(l.length:Int)+1:=⟨by omega,by omega⟩
 rw [if_pos (show (l.length:Int)≥0 by omega),if_pos i1,Option.bind_some,if_pos i1];simp only [Iv,Option.bind_some,Hy,Hm,Fe,Int.toNat_zero,e1,e2,decide_eq_true_eq];by_cases h51:x.Op=51
 ·have hc:IsC x=False:=by rw [Kg]; simp [h51]
  rw [if_pos h51,Kh,hc];by_cases hk:(x.Kids.length:Int)=1
  ·rw [e3 hk];have i2:(l.length:Int)≤(l.length:Int)+1:=by omega
   simp only [hk,h51,i2,Fp,Option.bind_some,Hm,ne_eq,not_true,if_false,if_true,show (0:Int) < 1 by omega];refine congrArg some (Gr ?_);have i3:((l.length:Int)≤16)=(l.length≤16):=by apply propext; omega
   simp only [i3];constructor <;> intro h <;> simp_all
  ·simp [hk,h51,Fp,Hz]
 ·have hz:IsZ x=False:=by rw [Kh]; simp [h51]
  rw [if_neg h51,hz,if_pos (by omega)];simp only [Fp];refine congrArg some (Gr ?_);simp only [List.mem_append,List.mem_singleton,false_and,false_or];constructor
  ·rintro ⟨h1,h2⟩;exact ⟨⟨h2 x (.inr rfl),by omega⟩,fun y hy=>h2 y (.inl hy)⟩
  ·rintro ⟨⟨h1,h2⟩,h3⟩;exact ⟨by omega,fun y hy=>hy.elim (h3 y) (fun e=>e ▸ h1)⟩
theorem Kn {K:Nat} (hK:1000≤K) (hb:K≤9000000000):∀ (m:Nat),8 * m+8≤K→∀ (f:Nat) (n:Aa),nsz n≤m→8 * m≤f →
  (Am.upto K f).Bv n=some (dc (IsB n))∧(Am.upto K f).Dw n=some (dc (IsS n))∧(Am.upto K f).E7 n=some (dc (IsC n)):=by
 intro m
 induction m with
 | zero=>intro hm f n h; have:=Gx n; omega
 | succ m ih =>
  intro hm f n h hf;obtain ⟨g,rfl⟩:∃ g,f=g+8:=⟨f - 8,by omega⟩
  have hs:=Gg n;have hl:=Gf n.Kids;have he:∀ i,i < n.Kids.length→Bq K (n.Kids.getD i Ah)=some (dc (IsE (n.Kids.getD i Ah))):=fun i hi=>O8 hK hb _ (by have:=D7 (G0 hi); omega)
  have hk:∀ (g:Nat),8 * m≤g→∀ x∈n.Kids,_:=fun g hg x hx=>ih (by omega) g x (by have:=D7 hx; omega) hg
  have hk2:∀ (g:Nat),8 * m≤g→∀ x∈n.Kids,∀ y∈x.Kids,_:=fun g hg x hx y hy=>ih (by omega) g y (by have:=D7 hx; have:=D7 hy; have:=Gg x; omega) hg
  have hB:∀ g,8 * m≤g→∀ i,i < n.Kids.length→(Am.upto K g).Bv (n.Kids.getD i Ah)=some (dc (IsB (n.Kids.getD i Ah))):=fun g hg i hi=>(hk g hg _ (G0 hi)).1
  refine ⟨?_,?_,?_⟩
  ·show Bv.F K (Am.upto K (g+7)) n=_;unfold Bv.F;rw [S9 (f:=g+3) (fun x hx=>(hk _ (by omega) x hx).2.1) (by omega) (by omega),Iv,Jl];simp [Fp];apply Gr; constructor <;> intro h <;> simp_all
  ·refine Oe hK n he (R0 hK hb _ (by omega)) (hB _ (by omega)) ?_ (P5 (f:=g+3) (fun x hx=>(hk _ (by omega) x hx).1) (by omega) (by omega)) ?_
   ·exact Qc (R:=Am.upto K (g+6)) _ he (hB _ (by omega)) fun i hi=>(hk _ (by omega) _ (G0 hi)).2.1
   ·exact L9 (R:=Am.upto K (g+6)) hK _ (by omega) (fun x hx i hi=>(hk2 _ (by omega) x hx _ (G0 hi)).1) fun l' h1 h2=>Sw (f:=g+2) (fun x hx=>(hk _ (by omega) x (h1 x hx)).2.2) (by omega) (by omega)
  ·exact Nr (R:=Am.upto K (g+7)) hK n he (hB _ (by omega))
theorem Oi {K f:Nat} {l:List Aa} (h:∀ x∈l,(A3.upto K f).Az x=some (dc (IsB x))) (hl:l.length≤9000000000) (hK:l.length < K):(A3.upto K (f+1)).Ci l=some (dc (Bs l)):=by
 show Ub (Ci.l7 K (A3.upto K f) l K 0) _ _=_;rw [Jd (d:=Ah) (L:=Ci.l7 K (A3.upto K f) l) (f:=(A3.upto K f).Az) (fun k i=>rfl) h hl hK,Gr (Ia l)];exact I0
theorem Sj {K f:Nat} {n:Aa} (hK0:1000≤K) (h:∀ x∈n.Kids,(A3.upto K f).C7 x=some (dc (IsS x))) (hl:n.Kids.length≤9000000000) (hK:n.Kids.length < K):(A3.upto K (f+1)).Az n=some (dc (IsB n)):=by
 show Az.F K (A3.upto K f) n=_;unfold Az.F;rw [Jd (d:=Ah) (L:=Az.l15 K (A3.upto K f) n) (f:=(A3.upto K f).C7) (fun k i=>rfl) h hl hK,I6 hK0,I0,← Gr (Kf n.Kids),Jl];have ht:n.Text=[]→(n.Text.length:Int)≤4096:=fun h=>by rw [h]; simp
 simp [Fp,Hz];apply Gr; constructor <;> intro h <;> simp_all
theorem Ns {c p:Prop} [Decidable c]:(if c then some (if dc p=true then Ty.go () else Ty.done false) else some (Ty.done false):Option (Ty Bool Unit))=some (if dc (c∧p)=true then Ty.go () else Ty.done false):=by
 split
 ·rename_i h; rw [Gr (show p↔c∧p from ⟨fun x=>⟨h,x⟩,fun x=>x.2⟩)]
 ·rename_i h; rw [H1 (show ¬ (c∧p) from fun x=>h x.1)]; rfl
theorem Pe {K:Nat} {R:A3} (hK0:1000≤K) (l:List Aa) (hl:l.length≤9000000000)
  (hE:∀ x∈l,∀ i,i < x.Kids.length→Au K (x.Kids.getD i Ah)=some (dc (IsE (x.Kids.getD i Ah))))
  (hB:∀ x∈l,∀ i,i < x.Kids.length→R.Az (x.Kids.getD i Ah)=some (dc (IsB (x.Kids.getD i Ah)))) :
  ∀ (k i:Nat),i≤l.length→l.length < i+k→Cu.l7 K R l k i=some (if dc (Cs (l.drop i) (16 - i)) then Ty.go () else Ty.done false):=by
 intro k
 induction k with
 | zero=>intro i h1 h2; omega
 | succ k ih =>
  intro i h1 h2;rw [Cu.l7];by_cases hi:(i:Int) <(l.length:Int)
  case neg=>rw [if_neg hi,List.drop_eq_nil_iff.2 (by omega),I9 (by simp [Cs])]; rfl
  have hi':i < l.length:=by omega
  have hx:=Hf (d:=Ah) hi';have hm:=List.getElem_mem hi';rw [if_pos hi,if_pos ⟨by omega,hi⟩,Int.toNat_natCast,List.drop_eq_getElem_cons hi',hx];generalize l[i]=x at *;have ih':=ih (i+1) (by omega) (by omega);replace ih':Cu.l7 K R l k ((i:Int)+1)=_:=ih';have hz:((i:Int)=(l.length:Int) - 1)↔(l.drop (i+1)=[]):=by rw [List.drop_eq_nil_iff]; omega
  rw [w64 (x:=(i:Int)+1) (by omega) (by omega),w64 (x:=(l.length:Int) - 1) (by omega) (by omega),ih',Cs];show _=some (if dc ((IsZ x∧l.drop (i+1)=[])∨(1≤16 - i∧IsC x∧Cs (l.drop (i+1)) (16 - i - 1)))=true then Ty.go () else Ty.done false);rw [show 16 - (i+1)=16 - i - 1 by omega];have hN:Cs [] (16 - i - 1)=True:=by simp [Cs]
  have hC:l.drop (i+1)=[]→Cs (l.drop (i+1)) (16 - i - 1):=fun h=>by rw [h,hN]; trivial
  have hg:((i:Int)≥16)↔¬ (1≤16 - i):=by omega
  have hzz:((i:Int)=(l.length:Int) - 1)=True∨((i:Int)=(l.length:Int) - 1)=False:=by by_cases h:(i:Int)=(l.length:Int) - 1 <;> simp [h]
  have hgg:((i:Int)≥16)=True∨((i:Int)≥16)=False:=by by_cases h:(i:Int)≥16 <;> simp [h]
  generalize Cs (l.drop (i+1)) (16 - i - 1)=C at *;generalize (l.drop (i+1)=[])=rn at *;generalize (1≤16 - i)=rm at *;clear hN ih ih';have ht:x.Text=[]→(x.Text.length:Int)≤4096:=fun h=>by rw [h]; simp
  have e1:(x.Kids.length:Int)=1→R.Az (x.Kids.getD 0 Ah)=some (dc (Bs x.Kids)):=fun h=>by rw [hB x hm 0 (by omega),Ng h]
  have e2:(x.Kids.length:Int)=2→Au K (x.Kids.getD 0 Ah)=some (dc (IsE (x.Kids.getD 0 Ah))):=fun h=>hE x hm 0 (by omega)
  have e3:(x.Kids.length:Int)=2→R.Az (x.Kids.getD 1 Ah)=some (dc (IsB (x.Kids.getD 1 Ah))):=fun h=>hB x hm 1 (by omega)
  have e4:(x.Kids.length:Int)=2→W2 x.Kids=(IsE (x.Kids.getD 0 Ah)∧IsB (x.Kids.getD 1 Ah)):=Oz;have e5:¬ (x.Kids.length:Int)=2→W2 x.Kids=False:=Oh;rw [Kh,Kg];simp only [I6 hK0,Option.bind_some,Hy,Hm,Int.toNat_zero,Int.toNat_one,ne_eq,ite_not];clear hE hB;rcases x with ⟨op,nm,it,tx,ks⟩
  dsimp only at *;generalize IsE (ks.getD 0 Ah)=E0 at *;generalize IsB (ks.getD 1 Ah)=B1 at *;generalize Au K (ks.getD 0 Ah)=r0 at *;generalize R.Az (ks.getD 0 Ah)=r1 at *;generalize R.Az (ks.getD 1 Ah)=r2 at *;generalize W2 ks=W at *;generalize Bs ks=B at *;generalize (ks.length:Int)=k at *;rcases hzz with hz1 | hz1 <;> rcases hgg with hg1 | hg1 <;> rw [hz1] at hz <;> rw [hg1] at hg <;> simp only [hz1,hg1,true_iff,false_iff,iff_true,iff_false,Classical.not_not] at hz hg ⊢
  all_goals simp only [hz,hg,if_true,if_false]
  all_goals by_cases h51:op=51
  all_goals first |(subst h51; by_cases hk:k=1 <;> simp [hk,e1,Ns]; done) |(subst h51; by_cases hk:k=1 <;> simp [hk,e1,Ns]; refine congrArg (fun b:Bool=>if b=true then Ty.go () else Ty.done false) (Gr ?_); simp only [Hm]; constructor <;> intro h <;> simp_all; done) |(by_cases h50:op=50 <;> simp [h51,h50]; done) | skip
  all_goals by_cases h50:op=50
  all_goals first |(simp [h51,h50]; done) | skip
  all_goals by_cases hk:k=2
  all_goals first |(simp [hk,e5,h50]; done) | skip
  all_goals
   subst hk;rw [e2 rfl,e3 rfl,e4 rfl];simp [Ns];refine congrArg (fun b:Bool=>if b=true then Ty.go () else Ty.done false) (Gr ?_);simp only [Hm];by_cases hn:nm=[] <;> simp [hn,h51,h50] <;> constructor <;> intro h <;> simp_all
theorem N1 {K:Nat} {R:A3} (hK:1000≤K) (n:Aa)
  (hE:∀ i,i < n.Kids.length→Au K (n.Kids.getD i Ah)=some (dc (IsE (n.Kids.getD i Ah))))
  (hEs:Bi K n.Kids=some (dc (Es n.Kids)))
  (hB:∀ i,i < n.Kids.length→R.Az (n.Kids.getD i Ah)=some (dc (IsB (n.Kids.getD i Ah))))
  (hS:∀ i,i < n.Kids.length→R.C7 (n.Kids.getD i Ah)=some (dc (IsS (n.Kids.getD i Ah))))
  (hBs:R.Ci n.Kids=some (dc (Bs n.Kids))) (hC:R.Cu n.Kids=some (dc (Cs n.Kids 16))) :
  C7.F K R n=some (dc (IsS n)):=by
 rw [Js];unfold C7.F;have hi:=Sb n.Kids;have hne:(n.Kids≠[])=((n.Kids.length:Int) > 0):=by
  apply propext;constructor
  ·intro h; have:=List.length_pos_iff.2 h; omega
  ·intro h e; rw [e] at h; simp at h
 rw [hne];simp only [I6 hK,hEs,hBs,hC,Option.bind_some,Hy,Hm,Fe,if_true,Bool.false_eq_true,if_false,decide_eq_true_eq,Int.toNat_zero,Int.toNat_one,show Int.toNat 2=2 from rfl];rcases n with ⟨op,nm,it,tx,ks⟩
 dsimp only at *;have h1:(ks.length:Int)=1→R.Az (ks.getD 0 Ah)=some (dc (Bs ks)):=fun h=>by rw [hB 0 (by omega),Ng h]
 have h3:2≤(ks.length:Int)→Au K (ks.getD 0 Ah)=some (dc (IsE (ks.getD 0 Ah))):=fun h=>hE 0 (by omega)
 have h4:2≤(ks.length:Int)→R.Az (ks.getD 1 Ah)=some (dc (IsB (ks.getD 1 Ah))):=fun h=>hB 1 (by omega)
 have h7:3≤(ks.length:Int)→R.Az (ks.getD 2 Ah)=some (dc (IsB (ks.getD 2 Ah))):=fun h=>hB 2 (by omega)
 have h8:3≤(ks.length:Int)→R.C7 (ks.getD 2 Ah)=some (dc (IsS (ks.getD 2 Ah))):=fun h=>hS 2 (by omega)
 have h5:(ks.length:Int)=2→W2 ks=(IsE (ks.getD 0 Ah)∧IsB (ks.getD 1 Ah)):=Oz;have h6:¬ (ks.length:Int)=2→W2 ks=False:=Oh;have h9:0≤(ks.length:Int):=by omega
 clear hE hB hS hEs hBs hC hne;have ht:tx=[]→(tx.length:Int)≤4096:=fun h=>by rw [h]; simp
 generalize Cs ks 16=C at *;generalize (ks.length:Int)=k at *;generalize Es ks=E at *;generalize Bs ks=B at *;generalize W2 ks=W at *;generalize I3 ks=I at *;generalize IsE (ks.getD 0 Ah)=E0 at *;generalize IsB (ks.getD 1 Ah)=B1 at *;generalize IsB (ks.getD 2 Ah)=B2 at *;generalize IsS (ks.getD 2 Ah)=S2 at *;generalize (ks.getD 2 Ah).Op=o2 at *;generalize Au K (ks.getD 0 Ah)=r at *;generalize R.Az (ks.getD 0 Ah)=r0 at *;generalize R.Az (ks.getD 1 Ah)=r1 at *;generalize R.Az (ks.getD 2 Ah)=r2 at *;generalize R.C7 (ks.getD 2 Ah)=r3 at *;rcases sopc op with h | h | h | h | h | h | h | h | h | h | h | h
 case inr.inr.inr.inr.inr.inr.inr.inr.inr.inr.inr =>
  obtain ⟨n1,n2,n3,n4,n5,n6,n7,n8,n9,n10,n11⟩:=h;simp [SX,n1,n2,n3,n4,n5,n6,n7,n8,n9,n10,n11]
 all_goals subst h
 case inr.inr.inl =>
  rw [hi];by_cases k2:k < 2
  ·simp [SX,k2,Fp];rw [H1 (by omega)]
  by_cases k3:k > 3
  ·simp [SX,k2,k3,Fp];rw [H1 (by omega)]
  have k4:k=2∨k=3:=by omega
  rw [h3 (by omega),h4 (by omega)];rcases k4 with rfl | rfl
  ·simp [SX,Fp,Qp];apply Gr; constructor <;> intro h <;> simp_all
  ·rw [h7 (by omega),h8 (by omega)];simp [SX,Fp,Qp,Mm];apply Gr; constructor <;> intro h <;> simp_all
 all_goals by_cases hk2:k=2
 all_goals first |(simp [SX,Fp,Hz,Hn,Fe,hk2,h3,h4,h5,h6]; done) |(simp [SX,Fp,Hz,Hn,Fe,hk2,h3,h4,h5,h6]; apply Gr; constructor <;> intro h <;> simp_all; done) | skip
 all_goals by_cases hk:k=1
 all_goals first |(simp [SX,Fp,Hz,Hn,Fe,hk,h1]; done) |(simp [SX,Fp,Hz,Hn,Fe,hk,h1]; apply Gr; constructor <;> intro h <;> simp_all; done) | skip
 all_goals trace_state
theorem Km {K:Nat} (hK:1000≤K) (hb:K≤9000000000):∀ (m:Nat),8 * m+8≤K→∀ (f:Nat) (n:Aa),nsz n≤m→8 * m≤f →
  (A3.upto K f).Az n=some (dc (IsB n))∧(A3.upto K f).C7 n=some (dc (IsS n)):=by
 intro m
 induction m with
 | zero=>intro hm f n h; have:=Gx n; omega
 | succ m ih =>
  intro hm f n h hf;obtain ⟨g,rfl⟩:∃ g,f=g+8:=⟨f - 8,by omega⟩
  have hs:=Gg n;have hl:=Gf n.Kids;have he:∀ i,i < n.Kids.length→Au K (n.Kids.getD i Ah)=some (dc (IsE (n.Kids.getD i Ah))):=fun i hi=>M4 hK hb _ (by have:=D7 (G0 hi); omega)
  have hk:∀ (g:Nat),8 * m≤g→∀ x∈n.Kids,_:=fun g hg x hx=>ih (by omega) g x (by have:=D7 hx; omega) hg
  have hk2:∀ (g:Nat),8 * m≤g→∀ x∈n.Kids,∀ y∈x.Kids,_:=fun g hg x hx y hy=>ih (by omega) g y (by have:=D7 hx; have:=D7 hy; have:=Gg x; omega) hg
  have he2:∀ x∈n.Kids,∀ i,i < x.Kids.length→Au K (x.Kids.getD i Ah)=some (dc (IsE (x.Kids.getD i Ah))):=fun x hx i hi=>M4 hK hb _ (by have:=D7 hx; have:=Gg x; have:=D7 (G0 hi); omega)
  have hB:∀ g,8 * m≤g→∀ i,i < n.Kids.length→(A3.upto K g).Az (n.Kids.getD i Ah)=some (dc (IsB (n.Kids.getD i Ah))):=fun g hg i hi=>(hk g hg _ (G0 hi)).1
  refine ⟨?_,?_⟩
  ·exact Sj hK (fun x hx=>(hk _ (by omega) x hx).2) (by omega) (by omega)
  ·refine N1 hK n he (Sm hK hb _ (by omega)) (hB _ (by omega)) (fun i hi=>(hk _ (by omega) _ (G0 hi)).2) (Oi (f:=g+6) (fun x hx=>(hk _ (by omega) x hx).1) (by omega) (by omega)) ?_;show Ub (Cu.l7 K (A3.upto K (g+6)) n.Kids K 0) _ _=_
   have:=Pe (R:=A3.upto K (g+6)) hK n.Kids (by omega) he2 (fun x hx i hi=>(hk2 _ (by omega) x hx _ (G0 hi)).1) K 0 (by omega) (by omega)
   replace this:Cu.l7 K (A3.upto K (g+6)) n.Kids K 0=_:=this;rw [this];exact I0
theorem P9 {K:Nat} (hK:1000≤K) (hb:K≤9000000000) (n:Aa) (h:8 * nsz n+8≤K):Bv K n=some (dc (IsB n)):=(Kn hK hb (nsz n) h K n (Nat.le_refl _) (by omega)).1
theorem S0 {K:Nat} (hK:1000≤K) (hb:K≤9000000000) (n:Aa) (h:8 * nsz n+8≤K):Az K n=some (dc (IsB n)):=(Km hK hb (nsz n) h K n (Nat.le_refl _) (by omega)).1
theorem Rh {K:Nat} (hK:1000≤K) (hb:K≤9000000000) (l:List Aa) (h:8 * lsz l+16≤K):Ci K l=some (dc (Bs l)):=by
 obtain ⟨g,rfl⟩:∃ g,K=g+1:=⟨K - 1,by omega⟩
 have:=Gf l
 exact Oi (f:=g) (fun y hy=>(Km hK hb (lsz l) (by omega) g y (D7 hy) (by omega)).1) (by omega) (by omega)
theorem Rj {K:Nat} (hK:1000≤K) (hb:K≤9000000000) (l:List Aa) (h:8 * lsz l+16≤K):Em K l=some (dc (Bs l)):=by
 obtain ⟨g,rfl⟩:∃ g,K=g+4:=⟨K - 4,by omega⟩
 have:=Gf l
 exact P5 (f:=g) (fun y hy=>(Kn hK hb (lsz l) (by omega) g y (D7 hy) (by omega)).1) (by omega) (by omega)
def IsK (n:Aa):Prop:=IsE n∧((1≤n.Op∧n.Op≤5)∨(n.Op=14∧(n.Kids.getD 0 Ah).Op=4))
theorem Qo {n:Aa} (h:IsE n) (h14:n.Op=14):(0:Int) < n.Kids.length:=by
 rw [Jm] at h; unfold EX at h; omega
theorem Te {K:Nat} (hK:1000≤K) (hb:K≤9000000000) (n:Aa) (h:8 * nsz n+8≤K):Gc K n=some (dc (IsK n)):=by
 unfold Gc IsK;rw [O8 hK hb n (by omega)];have h14:=@Qo n;simp only [Option.bind_some,Hy,Fe,Hm,if_true,Bool.false_eq_true,if_false,decide_eq_true_eq,Int.toNat_zero];by_cases ho:n.Op=14
 ·by_cases hE:IsE n
  ·have h0:=h14 hE ho;simp only [ho,hE,h0,Hn,if_true,show ¬ ((14:Int)=1) by omega,show ¬ ((14:Int)=2) by omega,show ¬ ((14:Int)=3) by omega,show ¬ ((14:Int)=4) by omega,show ¬ ((14:Int)=5) by omega,decide_false,if_false,Bool.false_eq_true,Of];refine congrArg some (Gr ?_); simp
  ·simp [ho,hE]
 ·simp [ho];by_cases h1:n.Op=1; · simp [h1]
  by_cases h2:n.Op=2; · simp [h2]
  by_cases h3:n.Op=3; · simp [h3]
  by_cases h4:n.Op=4; · simp [h4]
  by_cases h5:n.Op=5; · simp [h5]
  simp [h1,h2,h3,h4,h5];rw [H1 (by omega)]
theorem Se {K:Nat} (hK:1000≤K) (hb:K≤9000000000) (n:Aa) (h:8 * nsz n+8≤K):Fr K n=some (dc (IsK n)):=by
 unfold Fr IsK;rw [M4 hK hb n (by omega)];have h14:=@Qo n;simp only [Option.bind_some,Hy,Fe,Hm,if_true,Bool.false_eq_true,if_false,decide_eq_true_eq,Int.toNat_zero];by_cases ho:n.Op=14
 ·by_cases hE:IsE n
  ·have h0:=h14 hE ho;simp only [ho,hE,h0,Hn,if_true,show ¬ ((14:Int)=1) by omega,show ¬ ((14:Int)=2) by omega,show ¬ ((14:Int)=3) by omega,show ¬ ((14:Int)=4) by omega,show ¬ ((14:Int)=5) by omega,decide_false,if_false,Bool.false_eq_true,Of];refine congrArg some (Gr ?_); simp
  ·simp [ho,hE]
 ·simp [ho,Fp,Hn]
def Rz (l:List Aa):Prop:=∃ i x,l=i++[x]∧IsB x∧∀ y∈i,y.Op=6∧IsE y
def IsD (n:Aa):Prop :=
 Nm n.Name∧n.Int=0∧((n.Op=61∧n.Text=[]∧(n.Kids.length:Int)=1∧IsK (n.Kids.getD 0 Ah))∨(n.Op=62∧n.Text=[]∧Rz n.Kids) ∨
  ((n.Op=63∨n.Op=64)∧Nm n.Text∧(n.Kids.length:Int)=1∧Bs n.Kids)∨(n.Op=65∧Nm n.Text∧1≤(n.Kids.length:Int)∧(n.Kids.length:Int)≤2∧Bs n.Kids))
theorem Tg {K:Nat} {l:List Aa} (hK:1000≤K) (hb:K≤9000000000) (h:8 * lsz l+16≤K):Hj K l=some (dc (∀ y∈l,y.Op=6∧IsE y)):=by
 have:=Gf l
 refine Ir (d:=Ah) (L:=Ey.l7 K l) (f:=G3 K) (fun k i=>rfl) (fun x hx=>?_) (by omega) (by omega);show Option.bind (F5 K x) _=_;unfold F5;rw [O8 hK hb x (by have:=D7 hx; omega)];simp [Fe,Fp]
theorem Ra {i:List Aa} {x:Aa}:Rz (i++[x])↔IsB x∧∀ y∈i,y.Op=6∧IsE y:=by
 constructor
 ·rintro ⟨j,y,e,h⟩;obtain ⟨rfl,e2⟩:=List.append_inj' e rfl;cases e2; exact h
 ·intro h; exact ⟨i,x,rfl,h⟩
theorem J1:∀ (a b:List Aa),lsz (a++b)=lsz a+lsz b
 | [],b=>by simp [lsz]
 | x :: a,b=>by simp [lsz,J1 a b]; omega
theorem dopc (op:Int):op=61∨op=62∨op=63∨op=64∨op=65∨(op≠61∧op≠62∧op≠63∧op≠64∧op≠65):=by omega
theorem pDecl {K:Nat} (hK:1000≤K) (hb:K≤9000000000) (n:Aa) (h:8 * nsz n+16≤K):F7 K n=some (dc (IsD n)):=by
 unfold F7;have hs:=Gg n;have hl:=Gf n.Kids;rw [w64 (by omega) (by omega)];unfold IsD;have hc:(n.Kids.length:Int)=1→Gc K (n.Kids.getD 0 Ah)=some (dc (IsK (n.Kids.getD 0 Ah))):=fun h=>Te hK hb _ (by have:=D7 (G0 (l:=n.Kids) (i:=0) (by omega)); omega)
 have hB:(n.Kids.length:Int)=1→Bv K (n.Kids.getD 0 Ah)=some (dc (Bs n.Kids)):=fun h=>by rw [P9 hK hb _ (by have:=D7 (G0 (l:=n.Kids) (i:=0) (by omega)); omega),Ng h]
 simp only [Iv,J2 hK,Rj hK hb n.Kids (by omega),Option.bind_some,Hy,Hm,Fe,if_true,Bool.false_eq_true,if_false,decide_eq_true_eq,Int.toNat_zero];rcases List.eq_nil_or_concat n.Kids with e |⟨i,x,e⟩
 ·simp [e];rw [H1]; rintro ⟨_,_,h⟩;obtain ⟨_,_,j,x,h,_⟩:=h; simp at h
 ·rw [List.concat_eq_append] at e;have hlen:(n.Kids.length:Int)=(i.length:Int)+1:=by rw [e]; simp
  have hx:n.Kids.getD (Int.toNat ((n.Kids.length:Int) - 1)) Ah=x:=by rw [hlen,e]; simp [List.getD]
  have hsl:We n.Kids 0 ((n.Kids.length:Int) - 1)=i:=by rw [hlen,e]; simp [We]
  have hz:lsz n.Kids=lsz i+nsz x:=by rw [e,J1]; simp [lsz]
  rw [hx,hsl,P9 hK hb x (by omega),Tg hK hb (by omega)];have hdf:Rz n.Kids=(IsB x∧∀ y∈i,y.Op=6∧IsE y):=by rw [e]; exact propext Ra
  rw [hdf];clear hx hsl hdf hz e hl hs;rcases n with ⟨op,nm,it,tx,ks⟩
  dsimp only at *;generalize IsB x=B at *;generalize Bs ks=B' at *;generalize (∀ y∈i,y.Op=6∧IsE y)=E at *;generalize IsK (ks.getD 0 Ah)=C at *;generalize Gc K (ks.getD 0 Ah)=r0 at *;generalize Bv K (ks.getD 0 Ah)=r1 at *;generalize (ks.length:Int)=k at *;have i1:0 < k:=by omega
  have i2:k - 1 < k:=by omega
  have i3:¬ (k - 1 < 0):=by omega
  have i4:(0≤k - 1∧k - 1 < k):=by omega
  have i5:(k - 1≤k):=by omega
  have i6:(k - 1=0)=(k=1):=by apply propext; omega
  have i7:(k - 1≤1)=(k≤2):=by apply propext; omega
  have i8:1≤k:=by omega
  rcases dopc op with h | h | h | h | h | h
  case inr.inr.inr.inr.inr =>
   obtain ⟨n1,n2,n3,n4,n5⟩:=h;simp [n1,n2,n3,n4,n5,i3,Fp]
  all_goals subst h
  all_goals by_cases hk:k=1
  all_goals simp only [i1,i3,i4,i5,i6,i7,i8,if_true,if_false]
  all_goals clear i1 i2 i3 i4 i5 i6 i7 i8 hlen h hb hK
  all_goals try clear hc'
  all_goals first |(simp [hk,hc,hB,Fp]; done) |(simp [hk,hc,hB,Fp]; apply Gr; constructor <;> intro h <;> simp_all; done) | trace_state
theorem Q1 {K:Nat} (hK:1000≤K) (hb:K≤9000000000) (n:Aa) (i:List Aa) (x:Aa) (e:n.Kids=i++[x]) (h:8 * nsz n+16≤K) :
  D9.l22 K n K 0=some (if dc (∀ y∈i,y.Op=6∧IsE y) then Ty.go () else Ty.done false):=by
 have hs:=Gg n;have hl:=Gf n.Kids;have hz:lsz n.Kids=lsz i+nsz x:=by rw [e,J1]; simp [lsz]
 have hlen:n.Kids.length=i.length+1:=by rw [e]; simp
 refine Jd (d:=Ah) (l:=i) (f:=fun y=>if y.Op≠6 then some false else Au K y) (fun k j=>?_) (fun y hy=>?_) (by omega) (by omega)
 ·rw [D9.l22,w64 (by omega) (by omega),hlen];by_cases hj:j <(i.length:Int)
  ·rw [if_pos (show j <((i.length+1:Nat):Int) - 1 by omega),if_pos hj];by_cases h0:0≤j
   ·have:n.Kids.getD j.toNat Ah=i.getD j.toNat Ah:=by
     rw [e]; simp [List.getD]; rw [List.getElem?_append_left (by omega)]
    rw [this,if_pos (show 0≤j∧j <(i.length:Int) from ⟨h0,hj⟩),if_pos (show 0≤j∧j <((i.length+1:Nat):Int) from ⟨h0,by omega⟩)];generalize i.getD j.toNat Ah=y;by_cases h6:y.Op=6
    ·simp [h6]
    ·simp [h6]
   ·rw [if_neg (show ¬ (0≤j∧j <((i.length+1:Nat):Int)) by omega),if_neg (show ¬ (0≤j∧j <(i.length:Int)) by omega)]
  ·rw [if_neg (by omega),if_neg hj]
 ·have:=D7 hy
  show (if y.Op≠6 then some false else Au K y)=_;rw [M4 hK hb y (by omega)];simp [Fp,Hz]
theorem rDecl {K:Nat} (hK:1000≤K) (hb:K≤9000000000) (n:Aa) (h:8 * nsz n+16≤K):D9 K n=some (dc (IsD n)):=by
 unfold D9;have hs:=Gg n;have hl:=Gf n.Kids;rw [w64 (by omega) (by omega)];unfold IsD;have hc:(n.Kids.length:Int)=1→Fr K (n.Kids.getD 0 Ah)=some (dc (IsK (n.Kids.getD 0 Ah))):=fun h=>Se hK hb _ (by have:=D7 (G0 (l:=n.Kids) (i:=0) (by omega)); omega)
 have ht:Nm n.Text→(n.Text.length:Int)≤4096:=fun h=>by have:=h.2.1; omega
 have ht2:n.Text=[]→(n.Text.length:Int)≤4096:=fun h=>by rw [h]; simp
 simp only [I6 hK,Ln hK,Rh hK hb n.Kids (by omega),Option.bind_some,Hy,Hm,Fe,if_true,Bool.false_eq_true,if_false,decide_eq_true_eq,Int.toNat_zero,true_or,true_and,false_or];rcases List.eq_nil_or_concat n.Kids with e |⟨i,x,e⟩
 ·have e22:D9.l22 K n K 0=some (Ty.go ()):=by
   obtain ⟨k,rfl⟩:∃ k,K=k+1:=⟨K - 1,by omega⟩
   rw [D9.l22,e];exact if_neg (by decide)
  rw [e22];simp [e,Ub];by_cases h61:n.Op=61; · simp [h61]
  by_cases h62:n.Op=62
  ·simp [h62];rw [H1]; rintro ⟨_,_,_,j,x,h,_⟩; simp at h
  simp [h61,h62]
 ·rw [List.concat_eq_append] at e;have hlen:(n.Kids.length:Int)=(i.length:Int)+1:=by rw [e]; simp
  have hx:n.Kids.getD (Int.toNat ((n.Kids.length:Int) - 1)) Ah=x:=by rw [hlen,e]; simp [List.getD]
  have hz:lsz n.Kids=lsz i+nsz x:=by rw [e,J1]; simp [lsz]
  rw [hx,S0 hK hb x (by omega),Q1 hK hb n i x e h];have hdf:Rz n.Kids=(IsB x∧∀ y∈i,y.Op=6∧IsE y):=by rw [e]; exact propext Ra
  rw [hdf];clear hx hdf hz e hl hs h;rcases n with ⟨op,nm,it,tx,ks⟩
  dsimp only at *;generalize IsB x=B at *;generalize Bs ks=B' at *;generalize (∀ y∈i,y.Op=6∧IsE y)=E at *;generalize IsK (ks.getD 0 Ah)=C at *;generalize Fr K (ks.getD 0 Ah)=r0 at *;generalize (ks.length:Int)=k at *;have i1:0 < k:=by omega
  have i4:(0≤k - 1∧k - 1 < k):=by omega
  have i8:1≤k:=by omega
  have i9:k > 0:=i1;have i10:k≥1:=i8;simp only [i1,i4,i8,i9,i10,if_true];clear i1 i4 i8 i9 i10 hlen hb;rcases dopc op with h | h | h | h | h | h
  case inr.inr.inr.inr.inr =>
   obtain ⟨n1,n2,n3,n4,n5⟩:=h;simp [n1,n2,n3,n4,n5]
  all_goals subst h
  all_goals by_cases hE:E
  all_goals by_cases hk:k=1
  all_goals first |(simp [hE,Ub,hk,hc,Fp]; done) |(simp [hE,Ub,hk,hc,Fp]; apply Gr; constructor <;> intro h <;> simp_all; done) | trace_state
mutual
def ndp:Aa→Nat
 |⟨_,_,_,_,k⟩=>ldp k+1
def ldp:List Aa→Nat
 | []=>0
 | x :: l=>max (ndp x) (ldp l)
end
theorem Hp (n:Aa):ndp n=ldp n.Kids+1:=by cases n; simp [ndp]
theorem H6:∀ {l:List Aa} {x:Aa},x∈l→ndp x≤ldp l
 | y :: l,x,h=>by
  rcases List.mem_cons.1 h with e | e
  ·subst e; simp [ldp]; omega
  ·have:=H6 e; simp [ldp]; omega
theorem Ni {l:List Aa} {i:Nat} (h:i < l.length):ldp (l.drop i)=max (ndp (l.getD i Ah)) (ldp (l.drop (i+1))):=by
 rw [List.drop_eq_getElem_cons h,ldp,Hf h]
mutual
theorem Od:∀ n:Aa,ndp n≤nsz n
 |⟨_,_,_,_,k⟩=>by have:=Q4 k; simp [ndp,nsz]; omega
theorem Q4:∀ l:List Aa,ldp l≤lsz l
 | []=>by simp [ldp]
 | x :: l=>by have:=Od x; have:=Q4 l; simp [ldp,lsz]; omega
end
theorem Nt {K:Nat} (hb:K≤9000000000):∀ (f:Nat) (n:Aa),nsz n≤f→nsz n≤K→(Fk.upto K f).Ee n=some (nsz n:Int):=by
 intro f
 induction f with
 | zero=>intro n h; have:=Gx n; omega
 | succ f ih =>
  intro n h hK;have hs:=Gg n;have hl:=Gf n.Kids;have key:∀ (k i:Nat) (a:Nat),i≤n.Kids.length→n.Kids.length < i+k→a+lsz (n.Kids.drop i)≤nsz n→Ee.l9 K (Fk.upto K f) n k a i=some (((a+lsz (n.Kids.drop i):Nat):Int)):=by
   intro k
   induction k with
   | zero=>intro i a h1 h2; omega
   | succ k ih2 =>
    intro i a h1 h2 h3;rw [Ee.l9];by_cases hi:(i:Int) <(n.Kids.length:Int)
    ·have hm:=D7 (G0 (l:=n.Kids) (i:=i) (by omega));have hd:=K8 (l:=n.Kids) (i:=i) (by omega);rw [if_pos hi,if_pos ⟨by omega,hi⟩,Int.toNat_natCast,ih _ (by omega) (by omega),Option.bind_some,w64 (by omega) (by omega),w64 (by omega) (by omega)]
     have:=ih2 (i+1) (a+nsz (n.Kids.getD i Ah)) (by omega) (by omega) (by omega)
     rw [Int.natCast_add] at this;refine this.trans ?_;rw [hd]; congr 2; omega
    ·rw [if_neg hi,List.drop_eq_nil_iff.2 (by omega)]; simp [lsz]
  show Option.bind (Ee.l9 K (Fk.upto K f) n K 1 0) _=_
  have:=key K 0 1 (by omega) (by omega) (by simp; omega)
  replace this:Ee.l9 K (Fk.upto K f) n K 1 0=_:=this;rw [this]; simp; omega
theorem N6 {K:Nat} (hb:K≤9000000000):∀ (f:Nat) (n:Aa),nsz n≤f→nsz n≤K→(Ea.upto K f).C5 n=some (nsz n:Int):=by
 intro f
 induction f with
 | zero=>intro n h; have:=Gx n; omega
 | succ f ih =>
  intro n h hK;have hs:=Gg n;have hl:=Gf n.Kids;have key:∀ (k i:Nat) (a:Nat),i≤n.Kids.length→n.Kids.length < i+k→a+lsz (n.Kids.drop i)≤nsz n→C5.l9 K (Ea.upto K f) n k a i=some (((a+lsz (n.Kids.drop i):Nat):Int)):=by
   intro k
   induction k with
   | zero=>intro i a h1 h2; omega
   | succ k ih2 =>
    intro i a h1 h2 h3;rw [C5.l9];by_cases hi:(i:Int) <(n.Kids.length:Int)
    ·have hm:=D7 (G0 (l:=n.Kids) (i:=i) (by omega));have hd:=K8 (l:=n.Kids) (i:=i) (by omega);rw [if_pos hi,if_pos ⟨by omega,hi⟩,Int.toNat_natCast,ih _ (by omega) (by omega),Option.bind_some,w64 (by omega) (by omega),w64 (by omega) (by omega)]
     have:=ih2 (i+1) (a+nsz (n.Kids.getD i Ah)) (by omega) (by omega) (by omega)
     rw [Int.natCast_add] at this;refine this.trans ?_;rw [hd]; congr 2; omega
    ·rw [if_neg hi,List.drop_eq_nil_iff.2 (by omega)]; simp [lsz]
  show Option.bind (C5.l9 K (Ea.upto K f) n K 1 0) _=_
  have:=key K 0 1 (by omega) (by omega) (by simp; omega)
  replace this:C5.l9 K (Ea.upto K f) n K 1 0=_:=this;rw [this]; simp; omega
theorem M8 {K:Nat} (hb:K≤9000000000):∀ (f:Nat) (n:Aa),nsz n≤f→nsz n≤K→(Ff.upto K f).D6 n=some (ndp n:Int):=by
 intro f
 induction f with
 | zero=>intro n h; have:=Gx n; omega
 | succ f ih =>
  intro n h hK;have hs:=Gg n;have hl:=Gf n.Kids;have hd:=Hp n; have hd':=Od n;have key:∀ (k i:Nat) (a:Nat),i≤n.Kids.length→n.Kids.length < i+k→D6.l9 K (Ff.upto K f) n k a i=some ((max a (ldp (n.Kids.drop i)):Nat):Int):=by
   intro k
   induction k with
   | zero=>intro i a h1 h2; omega
   | succ k ih2 =>
    intro i a h1 h2;rw [D6.l9];by_cases hi:(i:Int) <(n.Kids.length:Int)
    ·have hm:=D7 (G0 (l:=n.Kids) (i:=i) (by omega));have hd:=Ni (l:=n.Kids) (i:=i) (by omega);rw [if_pos hi,if_pos ⟨by omega,hi⟩,Int.toNat_natCast,ih _ (by omega) (by omega),Option.bind_some,w64 (by omega) (by omega),hd];generalize ndp (n.Kids.getD i Ah)=b
     have:=ih2 (i+1) (max a b) (by omega) (by omega)
     rw [show (if (b:Int) >(a:Int) then (b:Int) else (a:Int))=((max a b:Nat):Int) by split <;> omega];rw [Int.natCast_add] at this;refine this.trans ?_
     congr 2; omega
    ·rw [if_neg hi,List.drop_eq_nil_iff.2 (by omega)]; simp [ldp]
  show Option.bind (D6.l9 K (Ff.upto K f) n K 0 0) _=_
  have:=key K 0 0 (by omega) (by omega)
  replace this:D6.l9 K (Ff.upto K f) n K 0 0=_:=this;rw [this]; simp; rw [w64 (by omega) (by omega)]; omega
theorem M5 {K:Nat} (hb:K≤9000000000):∀ (f:Nat) (n:Aa),nsz n≤f→nsz n≤K→(D5.upto K f).C1 n=some (ndp n:Int):=by
 intro f
 induction f with
 | zero=>intro n h; have:=Gx n; omega
 | succ f ih =>
  intro n h hK;have hs:=Gg n;have hl:=Gf n.Kids;have hd:=Hp n; have hd':=Od n;have key:∀ (k i:Nat) (a:Nat),i≤n.Kids.length→n.Kids.length < i+k→C1.l9 K (D5.upto K f) n k a i=some ((max a (ldp (n.Kids.drop i)):Nat):Int):=by
   intro k
   induction k with
   | zero=>intro i a h1 h2; omega
   | succ k ih2 =>
    intro i a h1 h2;rw [C1.l9];by_cases hi:(i:Int) <(n.Kids.length:Int)
    ·have hm:=D7 (G0 (l:=n.Kids) (i:=i) (by omega));have hd:=Ni (l:=n.Kids) (i:=i) (by omega);rw [if_pos hi,if_pos ⟨by omega,hi⟩,Int.toNat_natCast,ih _ (by omega) (by omega),Option.bind_some,w64 (by omega) (by omega),hd];generalize ndp (n.Kids.getD i Ah)=b;split
     ·have:=ih2 (i+1) b (by omega) (by omega)
      rw [Int.natCast_add] at this;refine this.trans ?_
      congr 2; omega
     ·have:=ih2 (i+1) a (by omega) (by omega)
      rw [Int.natCast_add] at this;refine this.trans ?_
      congr 2; omega
    ·rw [if_neg hi,List.drop_eq_nil_iff.2 (by omega)]; simp [ldp]
  show Option.bind (C1.l9 K (D5.upto K f) n K 0 0) _=_
  have:=key K 0 0 (by omega) (by omega)
  replace this:C1.l9 K (D5.upto K f) n K 0 0=_:=this;rw [this]; simp; rw [w64 (by omega) (by omega)]; omega
theorem psize {K:Nat} (hb:K≤9000000000) (n:Aa) (h:nsz n≤K):Ee K n=some (nsz n:Int):=Nt hb K n h h
theorem rsize {K:Nat} (hb:K≤9000000000) (n:Aa) (h:nsz n≤K):C5 K n=some (nsz n:Int):=N6 hb K n h h
theorem S6 {K:Nat} (hb:K≤9000000000) (n:Aa) (h:nsz n≤K):D6 K n=some (ndp n:Int):=M8 hb K n h h
theorem S8 {K:Nat} (hb:K≤9000000000) (n:Aa) (h:nsz n≤K):C1 K n=some (ndp n:Int):=M5 hb K n h h
def Small (n:Aa):Prop:=nsz n≤4000∧ndp n≤40
def IsR (n:Aa):Prop:=Small n∧n.Op=60∧n.Name=[]∧n.Int=0∧n.Text=[]∧∀ x∈n.Kids,IsD x
theorem Qi {K:Nat} (hb:K≤9000000000) (n:Aa) (h:nsz n≤K):Gj K n=some (dc (Small n)):=by
 unfold Gj Small;rw [psize hb n h,S6 hb n h];simp [Hn,Fp]; apply Gr; omega
theorem Q6 {K:Nat} (hb:K≤9000000000) (n:Aa) (h:nsz n≤K):Fv K n=some (dc (Small n)):=by
 unfold Fv Small;rw [rsize hb n h,S8 hb n h];simp [Hn,Fp]; apply Gr; omega
theorem Sv {K:Nat} (hK:1000≤K) (hb:K≤9000000000) (n:Aa) (h:8 * nsz n+16≤K):Hv K n=some (dc (IsR n)):=by
 unfold Hv IsR;have hs:=Gg n;have hl:=Gf n.Kids;have he:Hh K n.Kids=some (dc (∀ x∈n.Kids,IsD x)):=by
  refine Ir (d:=Ah) (L:=Ez.l7 K n.Kids) (f:=G4 K) (fun k i=>rfl) (fun x hx=>?_) (by omega) (by omega);show Option.bind (F7 K x) _=_;rw [pDecl hK hb x (by have:=D7 hx; omega)]; rfl
 rw [Qi hb n (by omega),he,Iv];simp [Fe,Fp];apply Gr; constructor <;> intro h <;> simp_all
theorem S7 {K:Nat} (hK:1000≤K) (hb:K≤9000000000) (n:Aa) (h:8 * nsz n+16≤K):E4 K n=some (dc (IsR n)):=by
 unfold E4 IsR;have hs:=Gg n;have hl:=Gf n.Kids;rw [Q6 hb n (by omega),I6 hK,Jd (d:=Ah) (L:=E4.l15 K n) (f:=D9 K) (fun k i=>rfl) (fun x hx=>rDecl hK hb x (by have:=D7 hx; omega)) (by omega) (by omega),I0];have ht2:n.Text=[]→(n.Text.length:Int)≤4096:=fun h=>by rw [h]; simp
 simp [Fp,Hz];apply Gr; constructor <;> intro h <;> simp_all
theorem Ru {K:Nat} (hK:1000≤K) (hb:K≤9000000000) (n:Aa) (h:8 * nsz n+16≤K):G5 K n=some (dc (Small n∧IsE n)):=by
 unfold G5;rw [Qi hb n (by omega),O8 hK hb n (by omega)];simp [Fe,Fp]
theorem Ri {K:Nat} (hK:1000≤K) (hb:K≤9000000000) (n:Aa) (h:8 * nsz n+16≤K):F4 K n=some (dc (Small n∧IsE n)):=by
 unfold F4;rw [Q6 hb n (by omega),M4 hK hb n (by omega)];simp [Fe,Fp]
end Go.Proofs.YtdgejpgbppfhmaaGreatDoor
