import Derived.Test.YtifjagfmfkemmaaGreatDoorLwC
set_option linter.unusedVariables false
set_option linter.unusedSimpArgs false
set_option maxHeartbeats 4000000
namespace Go.Proofs.YtifjagfmfkemmaaGreatDoor
open Eng Go
noncomputable def dc (p:Prop):Bool:=@decide p (Classical.propDecidable p)
@[simp] theorem Ht {p:Prop}:(dc p=true)=p:=by unfold dc; simp
theorem Kx {p:Prop} (h:p):dc p=true:=by rw [Ht]; exact h
theorem Ip {p:Prop} (h:¬ p):dc p=false:=by
 cases e:dc p with
 | false=>rfl
 | true=>rw [Ht] at e; exact absurd e h
theorem Pt {b:Bool} {p:Prop} (h:b=true↔p):some b=some (dc p):=by
 congr 1
 by_cases hp:p
 ·rw [Kx hp,h.2 hp]
 ·rw [Ip hp]; cases b with
  | false=>rfl
  | true=>exact absurd (h.1 rfl) hp
@[simp] theorem T8:dc True=true:=Kx trivial
@[simp] theorem dc_False:dc False=false:=Ip id
theorem It {p:Prop} [Decidable p]:decide p=dc p:=by
 by_cases h:p
 ·rw [Kx h]; simp [h]
 ·rw [Ip h]; simp [h]
theorem G1 {p q:Prop} (h:p↔q):dc p=dc q:=by rw [propext h]
theorem S0 {α:Type} {l:List α} {d:α} {L:Nat→Int→Option (X3 Bool Unit)} {f:α→Option Bool} {p:α→Prop}
  (hL:∀ k i,L (k+1) i=(if i <(l.length:Int) then (if (0:Int)≤i∧(i:Int) <(l.length:Int) then (Option.bind (f (l.getD (Int.toNat i) d)) (fun a=>(if a=true then L k (IntKind.i64.wrap (i+1)) else some (X3.done false)))) else none) else some (X3.go ())))
  (hf:∀ x∈l,f x=some (dc (p x))) (hb:l.length≤9000000000) :
  ∀ (k i:Nat),i≤l.length→l.length < i+k→L k i=some (if dc (∀ x∈l.drop i,p x) then X3.go () else X3.done false):=by
 intro k
 induction k with
 | zero=>intro i h1 h2; omega
 | succ k ih =>
  intro i h1 h2;rw [hL];by_cases hi:(i:Int) <(l.length:Int)
  ·have hi':i < l.length:=by omega
   rw [if_pos hi,if_pos ⟨by omega,hi⟩,Int.toNat_natCast,H3 hi',hf _ (List.getElem_mem hi'),Option.bind_some,List.drop_eq_getElem_cons hi'];by_cases hp:p l[i]
   ·rw [Kx hp,if_pos rfl,w64 (by omega) (by omega)]
    have:=ih (i+1) (by omega) (by omega)
    rw [Int.natCast_add] at this;refine this.trans ?_;rw [G1 (show (∀ x∈l.drop (i+1),p x)↔(∀ x∈l[i] :: l.drop (i+1),p x) from ?_)];simp only [List.mem_cons,forall_eq_or_imp]; exact ⟨fun h=>⟨hp,h⟩,fun h=>h.2⟩
   ·rw [Ip hp,Ip (fun h=>hp (h _ (List.mem_cons_self)))]; rfl
  ·rw [if_neg hi,List.drop_eq_nil_iff.2 (by omega),Kx (by simp)]; rfl
theorem Xc {α:Type} {l:List α} {d:α} {L:Nat→Int→Option (X3 Bool Unit)} {f:α→Option Bool} {p:α→Prop} {K:Nat}
  (hL:∀ k i,L (k+1) i=(if i <(l.length:Int) then (if (0:Int)≤i∧(i:Int) <(l.length:Int) then (Option.bind (f (l.getD (Int.toNat i) d)) (fun a=>(if a=true then L k (IntKind.i64.wrap (i+1)) else some (X3.done false)))) else none) else some (X3.go ())))
  (hf:∀ x∈l,f x=some (dc (p x))) (hb:l.length≤9000000000) (hK:l.length < K):L K 0=some (if dc (∀ x∈l,p x) then X3.go () else X3.done false):=by
 have:=S0 hL hf hb K 0 (by omega) (by omega)
 exact this
theorem Oz {α:Type} {l:List α} {d:α} {L:Nat→Int→Option (X3 Int Unit)} {f:α→Option Bool} {p:α→Prop}
  (hL:∀ k i,L (k+1) i=(if i <(l.length:Int) then (if (0:Int)≤i∧(i:Int) <(l.length:Int) then (Option.bind (f (l.getD (Int.toNat i) d)) (fun a=>(if a=true then some (X3.done i) else L k (IntKind.i64.wrap (i+1))))) else none) else some (X3.go ())))
  (hf:∀ x∈l,f x=some (!dc (p x))) (hb:l.length≤9000000000) :
  ∀ (k i:Nat),i≤l.length→l.length < i+k→∃ o,L k i=some o∧((∀ x∈l.drop i,p x)→o=X3.go ())∧((¬ ∀ x∈l.drop i,p x)→∃ j:Int,0≤j∧o=X3.done j):=by
 intro k
 induction k with
 | zero=>intro i h1 h2; omega
 | succ k ih =>
  intro i h1 h2;rw [hL];by_cases hi:(i:Int) <(l.length:Int)
  ·have hi':i < l.length:=by omega
   rw [if_pos hi,if_pos ⟨by omega,hi⟩,Int.toNat_natCast,H3 hi',hf _ (List.getElem_mem hi'),Option.bind_some,List.drop_eq_getElem_cons hi'];by_cases hp:p l[i]
   ·rw [Kx hp,if_neg (by simp),w64 (by omega) (by omega)];obtain ⟨o,e1,e2,e3⟩:=ih (i+1) (by omega) (by omega);rw [Int.natCast_add] at e1;refine ⟨o,e1,fun h=>e2 fun x hx=>h x (List.mem_cons_of_mem _ hx),fun h=>e3 fun h'=>h fun x hx=>?_⟩;rcases List.mem_cons.1 hx with e | e
    ·exact e ▸ hp
    ·exact h' x e
   ·rw [Ip hp];exact ⟨_,rfl,fun h=>absurd (h _ List.mem_cons_self) hp,fun _=>⟨i,by omega,rfl⟩⟩
  ·rw [if_neg hi,List.drop_eq_nil_iff.2 (by omega)];exact ⟨_,rfl,fun _=>rfl,fun h=>absurd (by simp) h⟩
theorem Ia {α:Type} {l:List α} {d:α} {L:Nat→Int→Option (X3 Int Unit)} {f:α→Option Bool} {p:α→Prop} {K:Nat}
  (hL:∀ k i,L (k+1) i=(if i <(l.length:Int) then (if (0:Int)≤i∧(i:Int) <(l.length:Int) then (Option.bind (f (l.getD (Int.toNat i) d)) (fun a=>(if a=true then some (X3.done i) else L k (IntKind.i64.wrap (i+1))))) else none) else some (X3.go ())))
  (hf:∀ x∈l,f x=some (!dc (p x))) (hb:l.length≤9000000000) (hK:l.length < K) :
  Option.bind (Option.bind (obind (L K 0) (fun r=>r) (fun _=>some (-1))) (fun a=>some (decide (a≥0)))) (fun a=>some (!a))=some (dc (∀ x∈l,p x)):=by
 obtain ⟨o,e1,e2,e3⟩:=Oz hL hf hb K 0 (by omega) (by omega);have e1':L K 0=some o:=e1;rw [e1'];simp only [List.drop_zero] at e2 e3;by_cases h:∀ x∈l,p x
 ·rw [e2 h,Kx h]; rfl
 ·obtain ⟨j,hj,rfl⟩:=e3 h;rw [Ip h];simp [obind,hj]
def Nm (s:List UInt8):Prop:=s≠[]∧s.length≤64∧isK s=false∧G5 isD s=false∧∀ c∈s,isW c=true
theorem Uj (c:UInt8):isW c=true↔(97≤c.toNat∧c.toNat≤122)∨(65≤c.toNat∧c.toNat≤90)∨c.toNat=95∨(48≤c.toNat∧c.toNat≤57):=by
 unfold isW isL isD; simp; omega
theorem Qe (c:UInt8):isD c=true↔(48≤c.toNat∧c.toNat≤57):=by unfold isD; simp
theorem Va (c:UInt8):isL c=true↔(97≤c.toNat∧c.toNat≤122)∨(65≤c.toNat∧c.toNat≤90)∨c.toNat=95:=by
 unfold isL; simp; omega
theorem Oi (K:Nat) (s:List UInt8) (k:Nat) (i:Int):B6.l15 K s (k+1) i=(if i <(s.length:Int) then (if (0:Int)≤i∧(i:Int) <(s.length:Int) then (Option.bind ((fun c=>some (isW c)) (s.getD (Int.toNat i) 0)) (fun a=>(if a=true then B6.l15 K s k (IntKind.i64.wrap (i+1)) else some (X3.done false)))) else none) else some (X3.go ())):=by
 rw [B6.l15];generalize s.getD (Int.toNat i) 0=c;generalize B6.l15 K s k (IntKind.i64.wrap (i+1))=X;have e:=Uj c;simp only [Option.bind_some];by_cases h:isW c=true
 ·rw [if_pos h]; rw [h] at e; simp only [true_iff] at e
  repeat' split
  all_goals first | rfl |(exfalso; omega)
 ·rw [if_neg h]; replace e:=(not_congr e).1 h
  repeat' split
  all_goals first | rfl |(exfalso; omega)
theorem byW (s:List UInt8):∀ x∈s,(fun c=>some (isW c)) x=some (dc (isW x=true)):=fun x _=>Pt Iff.rfl
theorem Ke {K:Nat} (hK:1000≤K) (s:List UInt8):B6 K s=some (dc (Nm s)):=by
 unfold B6 Nm;rw [K8 hK];by_cases h1:s=[]
 ·subst h1; rw [Ip (by simp)]; simp [obind]
 have hl:0 < s.length:=List.length_pos_iff.2 h1;rw [if_neg (by omega)];by_cases h2:(s.length:Int) > 64
 ·rw [if_pos h2,Ip (by omega)]; rfl
 rw [if_neg h2,Option.bind_some];cases h3:isK s with
 | true=>rw [Ip (by simp)]; rfl
 | false =>
  rw [if_neg (by simp),if_pos (by omega)];obtain ⟨c,r,rfl⟩:∃ c r,s=c :: r:=by cases s with | nil=>exact absurd rfl h1 | cons c r=>exact ⟨c,r,rfl⟩
  have hd:G5 isD (c :: r)=isD c:=rfl;have e:=Qe c;have g:(c :: r).getD (Int.toNat 0) 0=c:=rfl;simp only [g];rw [hd];by_cases h4:isD c=true
  ·have e1:=e.1 h4;rw [if_pos (by omega),if_pos (by omega),Ip (by simp [h4])]; rfl
  ·have:(if (c.toNat:Int)≥48 then (if (c.toNat:Int)≤57 then some (X3.done false) else some (X3.go ())) else some (X3.go ()))=(some (X3.go ()):Option (X3 Bool Unit)):=by
    split
    ·split
     ·exfalso; exact h4 (e.2 (by omega))
     ·rfl
    ·rfl
   rw [this];show obind (B6.l15 K (c :: r) K 0) _ _=_;rw [Xc (Oi K (c :: r)) (byW _) (by omega) (by omega)];by_cases h5:∀ x∈c :: r,isW x=true
   ·rw [Kx h5,Kx (show _∧_∧_∧_∧_ from ⟨by simp,by omega,by trivial,by simpa using h4,h5⟩)]; rfl
   ·rw [Ip h5,Ip (fun h=>h5 h.2.2.2.2)]; rfl
end Go.Proofs.YtifjagfmfkemmaaGreatDoor
