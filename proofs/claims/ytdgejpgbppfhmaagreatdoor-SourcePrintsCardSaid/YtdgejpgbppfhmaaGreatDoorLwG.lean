import Derived.Test.YtdgejpgbppfhmaaGreatDoorLwF
set_option linter.unusedVariables false
set_option linter.unusedSimpArgs false
set_option maxHeartbeats 4000000
namespace Go.Proofs.YtdgejpgbppfhmaaGreatDoor
open Eng Go
def qW (k:Nat):Pc:=(List.replicate (2 * k) 32,none)
def qR:Pc:=([10],none)
abbrev Kq:=Int×List Pc×(Nat→List Pc)
def z1 (l:List Kq):Kq:=l.getD 0 (0,[],fun _=>[])
def z2 (l:List Kq):Kq:=l.getD 1 (0,[],fun _=>[])
def z3 (l:List Kq):Kq:=l.getD 2 (0,[],fun _=>[])
def lines (l:List Kq) (k:Nat):List Pc:=l.flatMap fun x=>qW (k+1) ::(x.2.2 (k+1)++[qR])
def Lf (l:List Kq):List Pc:=E9 (l.map fun x=>(x.1,x.2.1))
def SP' (op:Int) (nm:Ge) (l:List Kq) (k:Nat):List Pc :=
 if op=53 then qS [123] :: qR ::(lines l k++[qW k,qS [125]])
 else if op=40 then qK [108,101,116] :: qB :: qN nm :: qB :: qS [61] :: qB ::((z1 l).2.1++[qS [59]])
 else if op=41 then qN nm :: qB :: qS [61] :: qB ::((z1 l).2.1++[qS [59]])
 else if op=42 then qK [105,102] :: qB ::((z1 l).2.1++qB ::((z2 l).2.2 k++if l.length < 3 then [] else qB :: qK [101,108,115,101] :: qB ::(z3 l).2.2 k))
 else if op=43 then qK [119,104,105,108,101] :: qB ::((z1 l).2.1++qB ::(z2 l).2.2 k)
 else if op=44 then (if l.length=0 then [qK [114,101,116,117,114,110],qS [59]] else qK [114,101,116,117,114,110] :: qB ::((z1 l).2.1++[qS [59]]))
 else if op=45 then qK [116,104,114,111,119] :: qB ::((z1 l).2.1++[qS [59]])
 else if op=46 then qK [116,114,121] :: qB ::((z1 l).2.2 k++qB :: qK [99,97,116,99,104] :: qB :: qN nm :: qB ::(z2 l).2.2 k)
 else if op=47 then qK [115,97,103,97] :: qB ::(z1 l).2.2 k
 else if op=48 then qK [117,110,100,111] :: qB :: qN nm :: qS [40] ::(Lf l++[qS [41],qS [59]])
 else if op=49 then qK [115,101,108,101,99,116] :: qB :: qS [123] :: qR ::(lines l k++[qW k,qS [125]])
 else if op=50 then qK [99,97,115,101] :: qB ::((if nm=[] then [] else [qN nm,qB,qS [61],qB])++((z1 l).2.1++qB ::(z2 l).2.2 k))
 else if op=51 then qK [101,108,115,101] :: qB ::(z1 l).2.2 k
 else (z1 l).2.1++[qS [59]]
mutual
def ps:Nd→Nat→List Pc
 |⟨op,nm,_,_,ks⟩=>fun k=>SP' op nm (pks ks) k
def pks:List Nd→List Kq
 | []=>[]
 | x :: l=>(x.Op,pe x,ps x) :: pks l
end
theorem Hw (n:Nd) (k:Nat):ps n k=SP' n.Op n.Name (pks n.Kids) k:=by cases n; rw [ps]
theorem Ky:∀ l:List Nd,Lf (pks l)=E9 (pes l):=fun l=>by
 unfold Lf
 congr 1
 induction l with
 | nil=>rfl
 | cons x l ih=>rw [pks,pes,List.map_cons,ih]
def PD' (op:Int) (nm tx:Ge) (l:List Kq) (i:List Nd) (b:List Pc):List Pc :=
 if op=61 then qK [118,97,114] :: qB :: qN nm :: qB :: qS [61] :: qB ::((z1 l).2.1++[qS [59]])
 else if op=62 then qK [102,117,110,99] :: qB :: qN nm :: qS [40] ::(E9 (pes i)++qS [41] :: qB :: b)
 else if op=63 then qK [111,110] :: qB :: qK [115,105,103,110,97,108] :: qB :: qN nm :: qS [40] :: qN tx :: qS [41] :: qB ::(z1 l).2.2 0
 else if op=64 then qK [111,110] :: qB :: qK [113,117,101,114,121] :: qB :: qN nm :: qS [40] :: qN tx :: qS [41] :: qB ::(z1 l).2.2 0
 else qK [111,110] :: qB :: qK [117,112,100,97,116,101] :: qB :: qN nm :: qS [40] :: qN tx :: qS [41] :: qB ::((if l.length < 2 then [] else qK [99,104,101,99,107] :: qB ::((z1 l).2.2 0++[qB]))++b)
def Jz (l:List Nd):List Pc:=match l.getLast? with
 | some x=>ps x 0
 | none=>[]
def pd (n:Nd):List Pc:=PD' n.Op n.Name n.Text (pks n.Kids) n.Kids.dropLast (Jz n.Kids)
def pp (n:Nd):List Pc:=n.Kids.flatMap fun d=>pd d++[qR]
theorem Ji {l:List Nd} (h:W2 l):∃ x y,l=[x,y]∧IsE x∧IsB y:=by
 match l,h with
 | x :: l,h =>
  rw [W2] at h;obtain ⟨h1,h2,h3⟩:=h;obtain ⟨y,rfl⟩:=Gi h2;rw [Bs] at h3;exact ⟨x,y,rfl,h1,h3.1⟩
theorem L4 {l:List Nd} (h:I3 l):∃ x y,IsE x∧IsB y∧(l=[x,y]∨∃ z,l=[x,y,z]∧(IsB z∨z.Op=42∧IsS z)):=by
 match l,h with
 | [x],h=>rw [I3,I2] at h; exact h.2.elim
 | [x,y],h=>rw [I3,I2] at h; exact ⟨x,y,h.1,h.2.1,.inl rfl⟩
 | x :: y :: z :: l,h =>
  rw [I3,I2,I1] at h;obtain ⟨h1,h2,h3,h4⟩:=h;subst h3;exact ⟨x,y,h1,h2,.inr ⟨z,rfl,h4⟩⟩
theorem Ma:∀ {l:List Nd} {r:Nat},Cs l r→∀ x∈l,IsC x∨IsZ x
 | y :: l,r,h,x,hx=>by
  rw [Cs] at h;rcases h with ⟨h1,h2⟩ |⟨_,h1,h2⟩
  ·subst h2;rw [List.mem_singleton.1 hx]; exact .inr h1
  ·rcases List.mem_cons.1 hx with rfl | hx
   ·exact .inl h1
   ·exact Ma h2 x hx
theorem Pm (i:List Nd) (x:Nd):Jz (i++[x])=ps x 0:=by unfold Jz; simp
def Ne (t:Tk):Prop:=t.Kind=5→t.Text≠[61]
section
variable {F:Nat}
def PEx (F:Nat) (n:Nd):Prop:=IsE n∧∀ r,St 1 r→(SPu F).ex (te n++r)=some (.ok (n,r))
end
section
variable {F:Nat}
theorem PEx.he {x:Nd} (h:PEx F x):Hde (te x):=(N5 (nsz x) x (Nat.le_refl _) h.1).he
end
section
variable {F:Nat}
end
end Go.Proofs.YtdgejpgbppfhmaaGreatDoor
