import Derived.Test.YtifjagfmfkemmaaGreatDoorLwE
set_option linter.unusedVariables false
set_option linter.unusedSimpArgs false
set_option maxHeartbeats 4000000
namespace Go.Proofs.YtifjagfmfkemmaaGreatDoor
open Eng Go
def SX (op:Int) (nm:List UInt8) (it:Int) (tx:List UInt8) (k:Int) (E B W I C:Prop):Prop :=
 ((op=40∨op=41)∧Nm nm∧it=0∧tx=[]∧k=1∧E)∨(op=42∧nm=[]∧it=0∧tx=[]∧I) ∨
 (op=43∧nm=[]∧it=0∧tx=[]∧W)∨(op=44∧nm=[]∧it=0∧tx=[]∧k≤1∧E) ∨
 ((op=45∨op=52)∧nm=[]∧it=0∧tx=[]∧k=1∧E)∨(op=46∧Nm nm∧it=0∧tx=[]∧k=2∧B) ∨
 (op=47∧nm=[]∧it=0∧tx=[]∧k=1∧B)∨(op=48∧Nm nm∧it=0∧tx=[]∧E)∨(op=49∧nm=[]∧it=0∧tx=[]∧C)
mutual
def IsB:Aa→Prop
 |⟨op,nm,it,tx,ks⟩=>op=53∧nm=[]∧it=0∧tx=[]∧Ss ks
def IsS:Aa→Prop
 |⟨op,nm,it,tx,ks⟩=>SX op nm it tx ks.length (Es ks) (Bs ks) (W2 ks) (I3 ks) (ks≠[]∧Cs ks 16)
def Ss:List Aa→Prop
 | []=>True
 | x :: l=>IsS x∧Ss l
def Bs:List Aa→Prop
 | []=>True
 | x :: l=>IsB x∧Bs l
def W2:List Aa→Prop
 | []=>False
 | x :: l=>IsE x∧(l.length:Int)=1∧Bs l
def I3:List Aa→Prop
 | []=>False
 | x :: l=>IsE x∧I2 l
def I2:List Aa→Prop
 | []=>False
 | x :: l=>IsB x∧I1 l
def I1:List Aa→Prop
 | []=>True
 | x :: l=>l=[]∧(IsB x∨x.Op=42∧IsS x)
def Cs:List Aa→Nat→Prop
 | []=>fun _=>True
 | x :: l=>fun r=>(IsZ x∧l=[])∨(1≤r∧IsC x∧Cs l (r - 1))
def IsC:Aa→Prop
 |⟨op,nm,it,tx,ks⟩=>op=50∧(nm=[]∨Nm nm)∧it=0∧tx=[]∧W2 ks
def IsZ:Aa→Prop
 |⟨op,nm,it,tx,ks⟩=>op=51∧nm=[]∧it=0∧tx=[]∧(ks.length:Int)=1∧Bs ks
end
theorem S0 (n:Aa):IsB n=(n.Op=53∧n.Name=[]∧n.Int=0∧n.Text=[]∧Ss n.Kids):=by cases n; rw [IsB]
theorem G5 (n:Aa):IsS n=SX n.Op n.Name n.Int n.Text n.Kids.length (Es n.Kids) (Bs n.Kids) (W2 n.Kids) (I3 n.Kids) (n.Kids≠[]∧Cs n.Kids 16):=by cases n; rw [IsS]
theorem Rz (n:Aa):IsC n=(n.Op=50∧(n.Name=[]∨Nm n.Name)∧n.Int=0∧n.Text=[]∧W2 n.Kids):=by cases n; rw [IsC]
theorem R3 (n:Aa):IsZ n=(n.Op=51∧n.Name=[]∧n.Int=0∧n.Text=[]∧(n.Kids.length:Int)=1∧Bs n.Kids):=by cases n; rw [IsZ]
theorem O4:∀ l,Ss l↔∀ x∈l,IsS x
 | []=>by simp [Ss]
 | x :: l=>by rw [Ss,O4 l]; simp
theorem Pu:∀ l,Bs l↔∀ x∈l,IsB x
 | []=>by simp [Bs]
 | x :: l=>by rw [Bs,Pu l]; simp
theorem My:∀ (l:List Aa) (x:Aa) (r:Nat),Cs (l++[x]) r↔((IsZ x∧l.length≤r)∨(IsC x∧l.length+1≤r))∧∀ y∈l,IsC y
 | [],x,r=>by simp [Cs]; constructor <;>(rintro (h | h)) <;> simp_all
 | y :: l,x,r=>by
  rw [List.cons_append,Cs]; show _∨_∧_∧Cs (l++[x]) (r - 1)↔_; rw [My l x (r - 1)];simp;constructor
  ·rintro ⟨h1,h2,h3,h4⟩;refine ⟨?_,h2,h4⟩;rcases h3 with h | h
   ·exact .inl ⟨h.1,by omega⟩
   ·exact .inr ⟨h.1,by omega⟩
  ·rintro ⟨h1,h2,h4⟩;rcases h1 with h | h
   ·exact ⟨by omega,h2,.inl ⟨h.1,by omega⟩,h4⟩
   ·exact ⟨by omega,h2,.inr ⟨h.1,by omega⟩,h4⟩
end Go.Proofs.YtifjagfmfkemmaaGreatDoor
