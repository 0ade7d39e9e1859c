import Derived.Test.YtifjagfmfkemmaaGreatDoorLwH
set_option linter.unusedVariables false
set_option linter.unusedSimpArgs false
set_option maxHeartbeats 4000000
namespace Go.Proofs.YtifjagfmfkemmaaGreatDoor
open Eng Go
def IsK (n:Aa):Prop:=IsE n∧((1≤n.Op∧n.Op≤5)∨(n.Op=14∧(n.Kids.getD 0 B5).Op=4))
def IsDf (l:List Aa):Prop:=∃ i x,l=i++[x]∧IsB x∧∀ y∈i,y.Op=6∧IsE y
def IsD (n:Aa):Prop :=
 Nm n.Name∧n.Int=0∧((n.Op=61∧n.Text=[]∧(n.Kids.length:Int)=1∧IsK (n.Kids.getD 0 B5))∨(n.Op=62∧n.Text=[]∧IsDf n.Kids) ∨
  ((n.Op=63∨n.Op=64)∧Nm n.Text∧(n.Kids.length:Int)=1∧Bs n.Kids)∨(n.Op=65∧Nm n.Text∧1≤(n.Kids.length:Int)∧(n.Kids.length:Int)≤2∧Bs n.Kids))
theorem Td {i:List Aa} {x:Aa}:IsDf (i++[x])↔IsB x∧∀ y∈i,y.Op=6∧IsE y:=by
 constructor
 ·rintro ⟨j,y,e,h⟩;obtain ⟨rfl,e2⟩:=List.append_inj' e rfl;cases e2; exact h
 ·intro h; exact ⟨i,x,rfl,h⟩
theorem Gk:∀ (a b:List Aa),lsz (a++b)=lsz a+lsz b
 | [],b=>by simp [lsz]
 | x :: a,b=>by simp [lsz,Gk a b]; omega
mutual
def ndp:Aa→Nat
 |⟨_,_,_,_,k⟩=>ldp k+1
def ldp:List Aa→Nat
 | []=>0
 | x :: l=>max (ndp x) (ldp l)
end
theorem O9 (n:Aa):ndp n=ldp n.Kids+1:=by cases n; simp [ndp]
theorem O6 {l:List Aa} {i:Nat} (h:i < l.length):ldp (l.drop i)=max (ndp (l.getD i B5)) (ldp (l.drop (i+1))):=by
 rw [List.drop_eq_getElem_cons h,ldp,Hp h]
mutual
theorem O3:∀ n:Aa,ndp n≤nsz n
 |⟨_,_,_,_,k⟩=>by have:=Oy k; simp [ndp,nsz]; omega
theorem Oy:∀ l:List Aa,ldp l≤lsz l
 | []=>by simp [ldp]
 | x :: l=>by have:=O3 x; have:=Oy l; simp [ldp,lsz]; omega
end
theorem Mh {K:Nat} (hb:K≤9000000000):∀ (f:Nat) (n:Aa),nsz n≤f→nsz n≤K→(D9.upto K f).C3 n=some (nsz n:Int):=by
 intro f
 induction f with
 | zero=>intro n h; have:=Ie n; omega
 | succ f ih =>
  intro n h hK;have hs:=Fz n;have hl:=Hh n.Kids;have key:∀ (k i:Nat) (a:Nat),i≤n.Kids.length→n.Kids.length < i+k→a+lsz (n.Kids.drop i)≤nsz n→C3.l9 K (D9.upto K f) n k a i=some (((a+lsz (n.Kids.drop i):Nat):Int)):=by
   intro k
   induction k with
   | zero=>intro i a h1 h2; omega
   | succ k ih2 =>
    intro i a h1 h2 h3;rw [C3.l9];by_cases hi:(i:Int) <(n.Kids.length:Int)
    ·have hm:=Hv (Ic (l:=n.Kids) (i:=i) (by omega));have hd:=Ll (l:=n.Kids) (i:=i) (by omega);rw [if_pos hi,if_pos ⟨by omega,hi⟩,Int.toNat_natCast,ih _ (by omega) (by omega),Option.bind_some,w64 (by omega) (by omega),w64 (by omega) (by omega)]
     have:=ih2 (i+1) (a+nsz (n.Kids.getD i B5)) (by omega) (by omega) (by omega)
     rw [Int.natCast_add] at this;refine this.trans ?_;rw [hd]; congr 2; omega
    ·rw [if_neg hi,List.drop_eq_nil_iff.2 (by omega)]; simp [lsz]
  show Option.bind (C3.l9 K (D9.upto K f) n K 1 0) _=_
  have:=key K 0 1 (by omega) (by omega) (by simp; omega)
  replace this:C3.l9 K (D9.upto K f) n K 1 0=_:=this;rw [this]; simp; omega
theorem Md {K:Nat} (hb:K≤9000000000):∀ (f:Nat) (n:Aa),nsz n≤f→nsz n≤K→(Dg.upto K f).B8 n=some (nsz n:Int):=by
 intro f
 induction f with
 | zero=>intro n h; have:=Ie n; omega
 | succ f ih =>
  intro n h hK;have hs:=Fz n;have hl:=Hh n.Kids;have key:∀ (k i:Nat) (a:Nat),i≤n.Kids.length→n.Kids.length < i+k→a+lsz (n.Kids.drop i)≤nsz n→B8.l9 K (Dg.upto K f) n k a i=some (((a+lsz (n.Kids.drop i):Nat):Int)):=by
   intro k
   induction k with
   | zero=>intro i a h1 h2; omega
   | succ k ih2 =>
    intro i a h1 h2 h3;rw [B8.l9];by_cases hi:(i:Int) <(n.Kids.length:Int)
    ·have hm:=Hv (Ic (l:=n.Kids) (i:=i) (by omega));have hd:=Ll (l:=n.Kids) (i:=i) (by omega);rw [if_pos hi,if_pos ⟨by omega,hi⟩,Int.toNat_natCast,ih _ (by omega) (by omega),Option.bind_some,w64 (by omega) (by omega),w64 (by omega) (by omega)]
     have:=ih2 (i+1) (a+nsz (n.Kids.getD i B5)) (by omega) (by omega) (by omega)
     rw [Int.natCast_add] at this;refine this.trans ?_;rw [hd]; congr 2; omega
    ·rw [if_neg hi,List.drop_eq_nil_iff.2 (by omega)]; simp [lsz]
  show Option.bind (B8.l9 K (Dg.upto K f) n K 1 0) _=_
  have:=key K 0 1 (by omega) (by omega) (by simp; omega)
  replace this:B8.l9 K (Dg.upto K f) n K 1 0=_:=this;rw [this]; simp; omega
theorem Lg {K:Nat} (hb:K≤9000000000):∀ (f:Nat) (n:Aa),nsz n≤f→nsz n≤K→(D4.upto K f).C1 n=some (ndp n:Int):=by
 intro f
 induction f with
 | zero=>intro n h; have:=Ie n; omega
 | succ f ih =>
  intro n h hK;have hs:=Fz n;have hl:=Hh n.Kids;have hd:=O9 n; have hd':=O3 n;have key:∀ (k i:Nat) (a:Nat),i≤n.Kids.length→n.Kids.length < i+k→C1.l9 K (D4.upto K f) n k a i=some ((max a (ldp (n.Kids.drop i)):Nat):Int):=by
   intro k
   induction k with
   | zero=>intro i a h1 h2; omega
   | succ k ih2 =>
    intro i a h1 h2;rw [C1.l9];by_cases hi:(i:Int) <(n.Kids.length:Int)
    ·have hm:=Hv (Ic (l:=n.Kids) (i:=i) (by omega));have hd:=O6 (l:=n.Kids) (i:=i) (by omega);rw [if_pos hi,if_pos ⟨by omega,hi⟩,Int.toNat_natCast,ih _ (by omega) (by omega),Option.bind_some,w64 (by omega) (by omega),hd];generalize ndp (n.Kids.getD i B5)=b
     have:=ih2 (i+1) (max a b) (by omega) (by omega)
     rw [show (if (b:Int) >(a:Int) then (b:Int) else (a:Int))=((max a b:Nat):Int) by split <;> omega];rw [Int.natCast_add] at this;refine this.trans ?_
     congr 2; omega
    ·rw [if_neg hi,List.drop_eq_nil_iff.2 (by omega)]; simp [ldp]
  show Option.bind (C1.l9 K (D4.upto K f) n K 0 0) _=_
  have:=key K 0 0 (by omega) (by omega)
  replace this:C1.l9 K (D4.upto K f) n K 0 0=_:=this;rw [this]; simp; rw [w64 (by omega) (by omega)]; omega
theorem psize {K:Nat} (hb:K≤9000000000) (n:Aa) (h:nsz n≤K):C3 K n=some (nsz n:Int):=Mh hb K n h h
theorem rsize {K:Nat} (hb:K≤9000000000) (n:Aa) (h:nsz n≤K):B8 K n=some (nsz n:Int):=Md hb K n h h
theorem S7 {K:Nat} (hb:K≤9000000000) (n:Aa) (h:nsz n≤K):C1 K n=some (ndp n:Int):=Lg hb K n h h
theorem Nx:Dl 5000000=some true:=by decide +kernel
end Go.Proofs.YtifjagfmfkemmaaGreatDoor
