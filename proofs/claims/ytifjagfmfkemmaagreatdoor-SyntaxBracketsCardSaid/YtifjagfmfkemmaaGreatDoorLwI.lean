import Derived.Test.YtifjagfmfkemmaaGreatDoorLwH
set_option linter.unusedVariables false
set_option linter.unusedSimpArgs false
set_option maxHeartbeats 4000000
namespace Go.Proofs.YtifjagfmfkemmaaGreatDoor
open Eng Go
theorem Jw:∀ (a b:List Aa),lsz (a++b)=lsz a+lsz b
 | [],b=>by simp [lsz]
 | x :: a,b=>by simp [lsz,Jw a b]; omega
mutual
def ndp:Aa→Nat
 |⟨_,_,_,_,k⟩=>ldp k+1
def ldp:List Aa→Nat
 | []=>0
 | x :: l=>max (ndp x) (ldp l)
end
theorem Ot (n:Aa):ndp n=ldp n.Kids+1:=by cases n; simp [ndp]
theorem Mt {l:List Aa} {i:Nat} (h:i < l.length):ldp (l.drop i)=max (ndp (l.getD i Ca)) (ldp (l.drop (i+1))):=by
 rw [List.drop_eq_getElem_cons h,ldp,G2 h]
mutual
theorem M0:∀ n:Aa,ndp n≤nsz n
 |⟨_,_,_,_,k⟩=>by have:=Mo k; simp [ndp,nsz]; omega
theorem Mo:∀ l:List Aa,ldp l≤lsz l
 | []=>by simp [ldp]
 | x :: l=>by have:=M0 x; have:=Mo l; simp [ldp,lsz]; omega
end
theorem Kv {K:Nat} (hb:K≤9000000000):∀ (f:Nat) (n:Aa),nsz n≤f→nsz n≤K→(D9.upto K f).C2 n=some (nsz n:Int):=by
 intro f
 induction f with
 | zero=>intro n h; have:=Ii n; omega
 | succ f ih =>
  intro n h hK;have hs:=F1 n;have hl:=Im n.Kids;have key:∀ (k i:Nat) (a:Nat),i≤n.Kids.length→n.Kids.length < i+k→a+lsz (n.Kids.drop i)≤nsz n→C2.l9 K (D9.upto K f) n k a i=some (((a+lsz (n.Kids.drop i):Nat):Int)):=by
   intro k
   induction k with
   | zero=>intro i a h1 h2; omega
   | succ k ih2 =>
    intro i a h1 h2 h3;rw [C2.l9];by_cases hi:(i:Int) <(n.Kids.length:Int)
    ·have hm:=Ho (Iz (l:=n.Kids) (i:=i) (by omega));have hd:=Ms (l:=n.Kids) (i:=i) (by omega);rw [if_pos hi,if_pos ⟨by omega,hi⟩,Int.toNat_natCast,ih _ (by omega) (by omega),Option.bind_some,w64 (by omega) (by omega),w64 (by omega) (by omega)]
     have:=ih2 (i+1) (a+nsz (n.Kids.getD i Ca)) (by omega) (by omega) (by omega)
     rw [Int.natCast_add] at this;refine this.trans ?_;rw [hd]; congr 2; omega
    ·rw [if_neg hi,List.drop_eq_nil_iff.2 (by omega)]; simp [lsz]
  show Option.bind (C2.l9 K (D9.upto K f) n K 1 0) _=_
  have:=key K 0 1 (by omega) (by omega) (by simp; omega)
  replace this:C2.l9 K (D9.upto K f) n K 1 0=_:=this;rw [this]; simp; omega
theorem Km {K:Nat} (hb:K≤9000000000):∀ (f:Nat) (n:Aa),nsz n≤f→nsz n≤K→(D5.upto K f).Cz n=some (ndp n:Int):=by
 intro f
 induction f with
 | zero=>intro n h; have:=Ii n; omega
 | succ f ih =>
  intro n h hK;have hs:=F1 n;have hl:=Im n.Kids;have hd:=Ot n; have hd':=M0 n;have key:∀ (k i:Nat) (a:Nat),i≤n.Kids.length→n.Kids.length < i+k→Cz.l9 K (D5.upto K f) n k a i=some ((max a (ldp (n.Kids.drop i)):Nat):Int):=by
   intro k
   induction k with
   | zero=>intro i a h1 h2; omega
   | succ k ih2 =>
    intro i a h1 h2;rw [Cz.l9];by_cases hi:(i:Int) <(n.Kids.length:Int)
    ·have hm:=Ho (Iz (l:=n.Kids) (i:=i) (by omega));have hd:=Mt (l:=n.Kids) (i:=i) (by omega);rw [if_pos hi,if_pos ⟨by omega,hi⟩,Int.toNat_natCast,ih _ (by omega) (by omega),Option.bind_some,w64 (by omega) (by omega),hd];generalize ndp (n.Kids.getD i Ca)=b
     have:=ih2 (i+1) (max a b) (by omega) (by omega)
     rw [show (if (b:Int) >(a:Int) then (b:Int) else (a:Int))=((max a b:Nat):Int) by split <;> omega];rw [Int.natCast_add] at this;refine this.trans ?_
     congr 2; omega
    ·rw [if_neg hi,List.drop_eq_nil_iff.2 (by omega)]; simp [ldp]
  show Option.bind (Cz.l9 K (D5.upto K f) n K 0 0) _=_
  have:=key K 0 0 (by omega) (by omega)
  replace this:Cz.l9 K (D5.upto K f) n K 0 0=_:=this;rw [this]; simp; rw [w64 (by omega) (by omega)]; omega
theorem psize {K:Nat} (hb:K≤9000000000) (n:Aa) (h:nsz n≤K):C2 K n=some (nsz n:Int):=Kv hb K n h h
theorem Ov {K:Nat} (hb:K≤9000000000) (n:Aa) (h:nsz n≤K):Cz K n=some (ndp n:Int):=Km hb K n h h
def Small (n:Aa):Prop:=nsz n≤4000∧ndp n≤40
theorem Lw:Dw 5000000=some true:=by decide +kernel
end Go.Proofs.YtifjagfmfkemmaaGreatDoor
