import Derived.Test.YtifjagfmfkemmaaGreatDoorFn5
set_option linter.unusedVariables false
set_option maxHeartbeats 0
namespace Go.Proofs.YtifjagfmfkemmaaGreatDoor
open Eng Go
theorem Aa.ext' {a b:Aa} (h0:a.Op=b.Op) (h1:a.Name=b.Name) (h2:a.Int=b.Int) (h3:a.Text=b.Text) (h4:a.Kids=b.Kids):a=b:=by
 cases a; cases b; cases h0; cases h1; cases h2; cases h3; cases h4; rfl
mutual
def nsz:Aa→Nat
 |⟨_,_,_,_,k⟩=>lsz k+1
def lsz:List Aa→Nat
 | []=>0
 | x :: l=>nsz x+lsz l
end
theorem Fz (n:Aa):nsz n=lsz n.Kids+1:=by cases n; simp [nsz]
theorem Ie (n:Aa):1≤nsz n:=by rw [Fz]; omega
theorem Hv:∀ {l:List Aa} {x:Aa},x∈l→nsz x≤lsz l
 | y :: l,x,h=>by
  rcases List.mem_cons.1 h with e | e
  ·subst e; simp [lsz]
  ·have:=Hv e; simp [lsz]; omega
theorem Hh:∀ (l:List Aa),l.length≤lsz l
 | []=>by simp
 | y :: l=>by have:=Hh l; have:=Ie y; simp [lsz]; omega
theorem Hp {α:Type} {l:List α} {i:Nat} {d:α} (h:i < l.length):l.getD i d=l[i]:=by simp [List.getD,h]
theorem Ll {l:List Aa} {i:Nat} (h:i < l.length):lsz (l.drop i)=nsz (l.getD i B5)+lsz (l.drop (i+1)):=by
 rw [List.drop_eq_getElem_cons h,lsz,Hp h]
theorem Ic {l:List Aa} {i:Nat} (h:i < l.length):l.getD i B5∈l:=by
 rw [Hp h]; exact List.getElem_mem h
theorem w64 {x:Int} (h:-9223372036854775808≤x) (h':x≤9223372036854775807):IntKind.i64.wrap x=x:=by
 unfold IntKind.wrap; simp only [IntKind.signed,IntKind.bits]; simp; omega
def Hg {α:Type} (o:Option Bool) (a b:α):Prop:=∃ r,o=some r∧(r=true↔a=b)
theorem Hg.self {α:Type} {o:Option Bool} {a:α} (h:Hg o a a):o=some true:=by
 obtain ⟨r,e,f⟩:=h; rw [e,f.2 rfl]
theorem Hg.same {α:Type} {o o':Option Bool} {a b:α} (h:Hg o a b) (h':Hg o' a b):o=o':=by
 obtain ⟨r,e,f⟩:=h; obtain ⟨r',e',f'⟩:=h';rw [e,e']; congr 1;cases r <;> cases r' <;> simp_all
theorem Ov {l m:List Aa} {i:Nat} (h:i < l.length) (h':i < m.length):(l.drop i=m.drop i)↔(l.getD i B5=m.getD i B5∧l.drop (i+1)=m.drop (i+1)):=by
 rw [List.drop_eq_getElem_cons h,List.drop_eq_getElem_cons h',Hp h,Hp h']; exact ⟨fun e=>List.cons.inj e,fun e=>List.cons_eq_cons.2 e⟩
theorem Mi (K:Nat) (R:Df) (a b:Aa) (hl:a.Kids.length=b.Kids.length)
  (ih:∀ x∈a.Kids,∀ y,Hg (R.Bg x y) x y) (hb:a.Kids.length≤9000000000) :
  ∀ (k i:Nat),i≤a.Kids.length→a.Kids.length < i+k →
   ∃ r:Bool,Bg.l15 K R a b k i=some (if r then T5.go () else T5.done false)∧(r=true↔a.Kids.drop i=b.Kids.drop i):=by
 intro k
 induction k with
 | zero=>intro i h1 h2; omega
 | succ k ih2 =>
  intro i h1 h2;unfold Bg.l15;by_cases hi:(i:Int) <(a.Kids.length:Int)
  ·rw [if_pos hi,if_pos ⟨by omega,hi⟩,if_pos (by omega)];obtain ⟨r,e,f⟩:=ih _ (Ic (l:=a.Kids) (i:=i) (by omega)) (b.Kids.getD i B5);have e':R.Bg (a.Kids.getD (Int.toNat (i:Int)) B5) (b.Kids.getD (Int.toNat (i:Int)) B5)=some r:=e;rw [e',Option.bind_some,w64 (by omega) (by omega),Ov (by omega) (by omega)];cases r with
   | true =>
    obtain ⟨r,g,j⟩:=ih2 (i+1) (by omega) (by omega);refine ⟨r,g,?_⟩;rw [j]; exact ⟨fun h=>⟨f.1 rfl,h⟩,fun h=>h.2⟩
   | false=>exact ⟨false,rfl,⟨(by simp),fun h=>absurd (f.2 h.1) (by simp)⟩⟩
  ·rw [if_neg hi];refine ⟨true,rfl,?_⟩;rw [List.drop_eq_nil_iff.2 (by omega),List.drop_eq_nil_iff.2 (by omega)]; simp
theorem Mp (K:Nat) (hK:K≤9000000000):∀ (f:Nat) (a:Aa),nsz a≤f→nsz a≤K→∀ b,Hg ((Df.upto K f).Bg a b) a b:=by
 intro f
 induction f with
 | zero=>intro a h; have:=Ie a; omega
 | succ f ih =>
  intro a h hk b;show Hg (Bg.F K _ a b) a b;unfold Bg.F;by_cases h1:a.Op=b.Op
  case neg=>rw [if_pos h1]; exact ⟨false,rfl,by simp,fun e=>absurd (e ▸ rfl) h1⟩
  rw [if_neg (by simpa using h1)];by_cases h2:a.Name=b.Name
  case neg=>rw [if_pos h2]; exact ⟨false,rfl,by simp,fun e=>absurd (e ▸ rfl) h2⟩
  rw [if_neg (by simpa using h2)];by_cases h3:a.Int=b.Int
  case neg=>rw [if_pos h3]; exact ⟨false,rfl,by simp,fun e=>absurd (e ▸ rfl) h3⟩
  rw [if_neg (by simpa using h3)];by_cases h4:a.Text=b.Text
  case neg=>rw [if_pos h4]; exact ⟨false,rfl,by simp,fun e=>absurd (e ▸ rfl) h4⟩
  rw [if_neg (by simpa using h4)];by_cases h5:(a.Kids.length:Int)=(b.Kids.length:Int)
  case neg=>rw [if_pos h5]; exact ⟨false,rfl,by simp,fun e=>absurd (e ▸ rfl) h5⟩
  rw [if_neg (by simpa using h5)]
  have:=Fz a; have:=Hh a.Kids
  obtain ⟨r,e,j⟩:=Mi K (Df.upto K f) a b (by omega) (fun x hx y=>ih x (by have:=Hv hx; omega) (by have:=Hv hx; omega) y) (by omega) K 0 (by omega) (by omega);have e':Bg.l15 K (Df.upto K f) a b K 0=some (if r then T5.go () else T5.done false):=e;rw [e'];simp only [List.drop_zero] at j
  have:r=true↔a=b:=by rw [j]; exact ⟨fun h=>Aa.ext' h1 h2 h3 h4 h,fun h=>h ▸ rfl⟩
  cases r with
  | true=>exact ⟨true,rfl,this⟩
  | false=>exact ⟨false,rfl,this⟩
theorem Qd (K:Nat) (hK:K≤9000000000) (a b:Aa) (h:nsz a≤K):Hg (Bg K a b) a b:=Mp K hK K a h h b
end Go.Proofs.YtifjagfmfkemmaaGreatDoor
