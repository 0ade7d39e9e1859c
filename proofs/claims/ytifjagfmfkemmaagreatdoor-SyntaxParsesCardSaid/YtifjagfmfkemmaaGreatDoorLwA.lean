import Derived.Test.YtifjagfmfkemmaaGreatDoorFn5
set_option linter.unusedVariables false
set_option maxHeartbeats 0
namespace Go.Proofs.YtifjagfmfkemmaaGreatDoor
open Eng Go
theorem Aa.ext' {a b:Aa} (h0:a.Op=b.Op) (h1:a.Name=b.Name) (h2:a.Int=b.Int) (h3:a.Text=b.Text) (h4:a.Kids=b.Kids):a=b:=by
 cases a; cases b; cases h0; cases h1; cases h2; cases h3; cases h4; rfl
mutual
def nsz:Aa→Nat
 |⟨_,_,_,_,k⟩=>lsz k+1
def lsz:List Aa→Nat
 | []=>0
 | x :: l=>nsz x+lsz l
end
theorem Gk (n:Aa):nsz n=lsz n.Kids+1:=by cases n; simp [nsz]
theorem Hy (n:Aa):1≤nsz n:=by rw [Gk]; omega
theorem F9:∀ {l:List Aa} {x:Aa},x∈l→nsz x≤lsz l
 | y :: l,x,h=>by
  rcases List.mem_cons.1 h with e | e
  ·subst e; simp [lsz]
  ·have:=F9 e; simp [lsz]; omega
theorem G7:∀ (l:List Aa),l.length≤lsz l
 | []=>by simp
 | y :: l=>by have:=G7 l; have:=Hy y; simp [lsz]; omega
theorem H3 {α:Type} {l:List α} {i:Nat} {d:α} (h:i < l.length):l.getD i d=l[i]:=by simp [List.getD,h]
theorem N5 {l:List Aa} {i:Nat} (h:i < l.length):lsz (l.drop i)=nsz (l.getD i A9)+lsz (l.drop (i+1)):=by
 rw [List.drop_eq_getElem_cons h,lsz,H3 h]
theorem Gn {l:List Aa} {i:Nat} (h:i < l.length):l.getD i A9∈l:=by
 rw [H3 h]; exact List.getElem_mem h
theorem w64 {x:Int} (h:-9223372036854775808≤x) (h':x≤9223372036854775807):IntKind.i64.wrap x=x:=by
 unfold IntKind.wrap; simp only [IntKind.signed,IntKind.bits]; simp; omega
def I9 {α:Type} (o:Option Bool) (a b:α):Prop:=∃ r,o=some r∧(r=true↔a=b)
theorem I9.self {α:Type} {o:Option Bool} {a:α} (h:I9 o a a):o=some true:=by
 obtain ⟨r,e,f⟩:=h; rw [e,f.2 rfl]
theorem I9.same {α:Type} {o o':Option Bool} {a b:α} (h:I9 o a b) (h':I9 o' a b):o=o':=by
 obtain ⟨r,e,f⟩:=h; obtain ⟨r',e',f'⟩:=h';rw [e,e']; congr 1;cases r <;> cases r' <;> simp_all
theorem Sk {l m:List Aa} {i:Nat} (h:i < l.length) (h':i < m.length):(l.drop i=m.drop i)↔(l.getD i A9=m.getD i A9∧l.drop (i+1)=m.drop (i+1)):=by
 rw [List.drop_eq_getElem_cons h,List.drop_eq_getElem_cons h',H3 h,H3 h']; exact ⟨fun e=>List.cons.inj e,fun e=>List.cons_eq_cons.2 e⟩
theorem Ol (K:Nat) (R:Dt) (a b:Aa) (hl:a.Kids.length=b.Kids.length)
  (ih:∀ x∈a.Kids,∀ y,I9 (R.Bn x y) x y) (hb:a.Kids.length≤9000000000) :
  ∀ (k i:Nat),i≤a.Kids.length→a.Kids.length < i+k →
   ∃ r:Bool,Bn.l15 K R a b k i=some (if r then X3.go () else X3.done false)∧(r=true↔a.Kids.drop i=b.Kids.drop i):=by
 intro k
 induction k with
 | zero=>intro i h1 h2; omega
 | succ k ih2 =>
  intro i h1 h2;unfold Bn.l15;by_cases hi:(i:Int) <(a.Kids.length:Int)
  ·rw [if_pos hi,if_pos ⟨by omega,hi⟩,if_pos (by omega)];obtain ⟨r,e,f⟩:=ih _ (Gn (l:=a.Kids) (i:=i) (by omega)) (b.Kids.getD i A9);have e':R.Bn (a.Kids.getD (Int.toNat (i:Int)) A9) (b.Kids.getD (Int.toNat (i:Int)) A9)=some r:=e;rw [e',Option.bind_some,w64 (by omega) (by omega),Sk (by omega) (by omega)];cases r with
   | true =>
    obtain ⟨r,g,j⟩:=ih2 (i+1) (by omega) (by omega);refine ⟨r,g,?_⟩;rw [j]; exact ⟨fun h=>⟨f.1 rfl,h⟩,fun h=>h.2⟩
   | false=>exact ⟨false,rfl,⟨(by simp),fun h=>absurd (f.2 h.1) (by simp)⟩⟩
  ·rw [if_neg hi];refine ⟨true,rfl,?_⟩;rw [List.drop_eq_nil_iff.2 (by omega),List.drop_eq_nil_iff.2 (by omega)]; simp
theorem Pe (K:Nat) (hK:K≤9000000000):∀ (f:Nat) (a:Aa),nsz a≤f→nsz a≤K→∀ b,I9 ((Dt.upto K f).Bn a b) a b:=by
 intro f
 induction f with
 | zero=>intro a h; have:=Hy a; omega
 | succ f ih =>
  intro a h hk b;show I9 (Bn.F K _ a b) a b;unfold Bn.F;by_cases h1:a.Op=b.Op
  case neg=>rw [if_pos h1]; exact ⟨false,rfl,by simp,fun e=>absurd (e ▸ rfl) h1⟩
  rw [if_neg (by simpa using h1)];by_cases h2:a.Name=b.Name
  case neg=>rw [if_pos h2]; exact ⟨false,rfl,by simp,fun e=>absurd (e ▸ rfl) h2⟩
  rw [if_neg (by simpa using h2)];by_cases h3:a.Int=b.Int
  case neg=>rw [if_pos h3]; exact ⟨false,rfl,by simp,fun e=>absurd (e ▸ rfl) h3⟩
  rw [if_neg (by simpa using h3)];by_cases h4:a.Text=b.Text
  case neg=>rw [if_pos h4]; exact ⟨false,rfl,by simp,fun e=>absurd (e ▸ rfl) h4⟩
  rw [if_neg (by simpa using h4)];by_cases h5:(a.Kids.length:Int)=(b.Kids.length:Int)
  case neg=>rw [if_pos h5]; exact ⟨false,rfl,by simp,fun e=>absurd (e ▸ rfl) h5⟩
  rw [if_neg (by simpa using h5)]
  have:=Gk a; have:=G7 a.Kids
  obtain ⟨r,e,j⟩:=Ol K (Dt.upto K f) a b (by omega) (fun x hx y=>ih x (by have:=F9 hx; omega) (by have:=F9 hx; omega) y) (by omega) K 0 (by omega) (by omega);have e':Bn.l15 K (Dt.upto K f) a b K 0=some (if r then X3.go () else X3.done false):=e;rw [e'];simp only [List.drop_zero] at j
  have:r=true↔a=b:=by rw [j]; exact ⟨fun h=>Aa.ext' h1 h2 h3 h4 h,fun h=>h ▸ rfl⟩
  cases r with
  | true=>exact ⟨true,rfl,this⟩
  | false=>exact ⟨false,rfl,this⟩
theorem Ta (K:Nat) (hK:K≤9000000000) (a b:Aa) (h:nsz a≤K):I9 (Bn K a b) a b:=Pe K hK K a h h b
end Go.Proofs.YtifjagfmfkemmaaGreatDoor
