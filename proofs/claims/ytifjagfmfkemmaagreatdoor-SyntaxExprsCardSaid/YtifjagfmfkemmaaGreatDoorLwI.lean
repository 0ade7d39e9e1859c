import Derived.Test.YtifjagfmfkemmaaGreatDoorLwH
set_option linter.unusedVariables false
set_option linter.unusedSimpArgs false
set_option maxHeartbeats 4000000
namespace Go.Proofs.YtifjagfmfkemmaaGreatDoor
open Eng Go
theorem Kj:∀ (a b:List Aa),lsz (a++b)=lsz a+lsz b
 | [],b=>by simp [lsz]
 | x :: a,b=>by simp [lsz,Kj a b]; omega
mutual
def ndp:Aa→Nat
 |⟨_,_,_,_,k⟩=>ldp k+1
def ldp:List Aa→Nat
 | []=>0
 | x :: l=>max (ndp x) (ldp l)
end
theorem Ot (n:Aa):ndp n=ldp n.Kids+1:=by cases n; simp [ndp]
theorem La {l:List Aa} {i:Nat} (h:i < l.length):ldp (l.drop i)=max (ndp (l.getD i B3)) (ldp (l.drop (i+1))):=by
 rw [List.drop_eq_getElem_cons h,ldp,Gq h]
mutual
theorem Lp:∀ n:Aa,ndp n≤nsz n
 |⟨_,_,_,_,k⟩=>by have:=Om k; simp [ndp,nsz]; omega
theorem Om:∀ l:List Aa,ldp l≤lsz l
 | []=>by simp [ldp]
 | x :: l=>by have:=Lp x; have:=Om l; simp [ldp,lsz]; omega
end
theorem L2 {K:Nat} (hb:K≤9000000000):∀ (f:Nat) (n:Aa),nsz n≤f→nsz n≤K→(Ei.upto K f).C7 n=some (nsz n:Int):=by
 intro f
 induction f with
 | zero=>intro n h; have:=Gw n; omega
 | succ f ih =>
  intro n h hK
  have hs:=Fy n
  have hl:=Ha n.Kids
  have key:∀ (k i:Nat) (a:Nat),i≤n.Kids.length→n.Kids.length < i+k→a+lsz (n.Kids.drop i)≤nsz n→C7.l9 K (Ei.upto K f) n k a i=some (((a+lsz (n.Kids.drop i):Nat):Int)):=by
   intro k
   induction k with
   | zero=>intro i a h1 h2; omega
   | succ k ih2 =>
    intro i a h1 h2 h3
    rw [C7.l9]
    by_cases hi:(i:Int) <(n.Kids.length:Int)
    ·have hm:=Gj (Gr (l:=n.Kids) (i:=i) (by omega))
     have hd:=Kq (l:=n.Kids) (i:=i) (by omega)
     rw [if_pos hi,if_pos ⟨by omega,hi⟩,Int.toNat_natCast,ih _ (by omega) (by omega),Option.bind_some,w64 (by omega) (by omega),w64 (by omega) (by omega)]
     have:=ih2 (i+1) (a+nsz (n.Kids.getD i B3)) (by omega) (by omega) (by omega)
     rw [Int.natCast_add] at this
     refine this.trans ?_
     rw [hd]; congr 2; omega
    ·rw [if_neg hi,List.drop_eq_nil_iff.2 (by omega)]; simp [lsz]
  show Option.bind (C7.l9 K (Ei.upto K f) n K 1 0) _=_
  have:=key K 0 1 (by omega) (by omega) (by simp; omega)
  replace this:C7.l9 K (Ei.upto K f) n K 1 0=_:=this
  rw [this]; simp; omega
theorem Ls {K:Nat} (hb:K≤9000000000):∀ (f:Nat) (n:Aa),nsz n≤f→nsz n≤K→(Dm.upto K f).B9 n=some (nsz n:Int):=by
 intro f
 induction f with
 | zero=>intro n h; have:=Gw n; omega
 | succ f ih =>
  intro n h hK
  have hs:=Fy n
  have hl:=Ha n.Kids
  have key:∀ (k i:Nat) (a:Nat),i≤n.Kids.length→n.Kids.length < i+k→a+lsz (n.Kids.drop i)≤nsz n→B9.l9 K (Dm.upto K f) n k a i=some (((a+lsz (n.Kids.drop i):Nat):Int)):=by
   intro k
   induction k with
   | zero=>intro i a h1 h2; omega
   | succ k ih2 =>
    intro i a h1 h2 h3
    rw [B9.l9]
    by_cases hi:(i:Int) <(n.Kids.length:Int)
    ·have hm:=Gj (Gr (l:=n.Kids) (i:=i) (by omega))
     have hd:=Kq (l:=n.Kids) (i:=i) (by omega)
     rw [if_pos hi,if_pos ⟨by omega,hi⟩,Int.toNat_natCast,ih _ (by omega) (by omega),Option.bind_some,w64 (by omega) (by omega),w64 (by omega) (by omega)]
     have:=ih2 (i+1) (a+nsz (n.Kids.getD i B3)) (by omega) (by omega) (by omega)
     rw [Int.natCast_add] at this
     refine this.trans ?_
     rw [hd]; congr 2; omega
    ·rw [if_neg hi,List.drop_eq_nil_iff.2 (by omega)]; simp [lsz]
  show Option.bind (B9.l9 K (Dm.upto K f) n K 1 0) _=_
  have:=key K 0 1 (by omega) (by omega) (by simp; omega)
  replace this:B9.l9 K (Dm.upto K f) n K 1 0=_:=this
  rw [this]; simp; omega
theorem Lg {K:Nat} (hb:K≤9000000000):∀ (f:Nat) (n:Aa),nsz n≤f→nsz n≤K→(Ed.upto K f).C6 n=some (ndp n:Int):=by
 intro f
 induction f with
 | zero=>intro n h; have:=Gw n; omega
 | succ f ih =>
  intro n h hK
  have hs:=Fy n
  have hl:=Ha n.Kids
  have hd:=Ot n; have hd':=Lp n
  have key:∀ (k i:Nat) (a:Nat),i≤n.Kids.length→n.Kids.length < i+k→C6.l9 K (Ed.upto K f) n k a i=some ((max a (ldp (n.Kids.drop i)):Nat):Int):=by
   intro k
   induction k with
   | zero=>intro i a h1 h2; omega
   | succ k ih2 =>
    intro i a h1 h2
    rw [C6.l9]
    by_cases hi:(i:Int) <(n.Kids.length:Int)
    ·have hm:=Gj (Gr (l:=n.Kids) (i:=i) (by omega))
     have hd:=La (l:=n.Kids) (i:=i) (by omega)
     rw [if_pos hi,if_pos ⟨by omega,hi⟩,Int.toNat_natCast,ih _ (by omega) (by omega),Option.bind_some,w64 (by omega) (by omega),hd]
     generalize ndp (n.Kids.getD i B3)=b
     have:=ih2 (i+1) (max a b) (by omega) (by omega)
     rw [show (if (b:Int) >(a:Int) then (b:Int) else (a:Int))=((max a b:Nat):Int) by split <;> omega]
     rw [Int.natCast_add] at this
     refine this.trans ?_
     congr 2; omega
    ·rw [if_neg hi,List.drop_eq_nil_iff.2 (by omega)]; simp [ldp]
  show Option.bind (C6.l9 K (Ed.upto K f) n K 0 0) _=_
  have:=key K 0 0 (by omega) (by omega)
  replace this:C6.l9 K (Ed.upto K f) n K 0 0=_:=this
  rw [this]; simp; rw [w64 (by omega) (by omega)]; omega
theorem Kx {K:Nat} (hb:K≤9000000000):∀ (f:Nat) (n:Aa),nsz n≤f→nsz n≤K→(De.upto K f).B2 n=some (ndp n:Int):=by
 intro f
 induction f with
 | zero=>intro n h; have:=Gw n; omega
 | succ f ih =>
  intro n h hK
  have hs:=Fy n
  have hl:=Ha n.Kids
  have hd:=Ot n; have hd':=Lp n
  have key:∀ (k i:Nat) (a:Nat),i≤n.Kids.length→n.Kids.length < i+k→B2.l9 K (De.upto K f) n k a i=some ((max a (ldp (n.Kids.drop i)):Nat):Int):=by
   intro k
   induction k with
   | zero=>intro i a h1 h2; omega
   | succ k ih2 =>
    intro i a h1 h2
    rw [B2.l9]
    by_cases hi:(i:Int) <(n.Kids.length:Int)
    ·have hm:=Gj (Gr (l:=n.Kids) (i:=i) (by omega))
     have hd:=La (l:=n.Kids) (i:=i) (by omega)
     rw [if_pos hi,if_pos ⟨by omega,hi⟩,Int.toNat_natCast,ih _ (by omega) (by omega),Option.bind_some,w64 (by omega) (by omega),hd]
     generalize ndp (n.Kids.getD i B3)=b
     split
     ·have:=ih2 (i+1) b (by omega) (by omega)
      rw [Int.natCast_add] at this
      refine this.trans ?_
      congr 2; omega
     ·have:=ih2 (i+1) a (by omega) (by omega)
      rw [Int.natCast_add] at this
      refine this.trans ?_
      congr 2; omega
    ·rw [if_neg hi,List.drop_eq_nil_iff.2 (by omega)]; simp [ldp]
  show Option.bind (B2.l9 K (De.upto K f) n K 0 0) _=_
  have:=key K 0 0 (by omega) (by omega)
  replace this:B2.l9 K (De.upto K f) n K 0 0=_:=this
  rw [this]; simp; rw [w64 (by omega) (by omega)]; omega
theorem Px {K:Nat} (hb:K≤9000000000) (n:Aa) (h:nsz n≤K):C7 K n=some (nsz n:Int):=L2 hb K n h h
theorem rsize {K:Nat} (hb:K≤9000000000) (n:Aa) (h:nsz n≤K):B9 K n=some (nsz n:Int):=Ls hb K n h h
theorem N3 {K:Nat} (hb:K≤9000000000) (n:Aa) (h:nsz n≤K):C6 K n=some (ndp n:Int):=Lg hb K n h h
theorem Qm {K:Nat} (hb:K≤9000000000) (n:Aa) (h:nsz n≤K):B2 K n=some (ndp n:Int):=Kx hb K n h h
def Small (n:Aa):Prop:=nsz n≤4000∧ndp n≤40
theorem P8 {K:Nat} (hb:K≤9000000000) (n:Aa) (h:nsz n≤K):Ex K n=some (dc (Small n)):=by
 unfold Ex Small
 rw [Px hb n h,N3 hb n h]
 simp [Jg,Hz]; apply H4; omega
theorem O2 {K:Nat} (hK:1000≤K) (hb:K≤9000000000) (n:Aa) (h:8 * nsz n+16≤K):Ez K n=some (dc (Small n∧IsE n)):=by
 unfold Ez
 rw [P8 hb n (by omega),pExpr hK hb n (by omega)]
 simp [G2,Hz]
theorem M7:D5 5000000=some true:=by decide +kernel
end Go.Proofs.YtifjagfmfkemmaaGreatDoor
