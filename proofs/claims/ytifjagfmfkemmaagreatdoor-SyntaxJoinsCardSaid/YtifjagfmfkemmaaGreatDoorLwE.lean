import Derived.Test.YtifjagfmfkemmaaGreatDoorLwD
set_option linter.unusedVariables false
set_option linter.unusedSimpArgs false
set_option maxHeartbeats 4000000
namespace Go.Proofs.YtifjagfmfkemmaaGreatDoor
open Eng Go
def EX (op:Int) (nm:List UInt8) (it:Int) (tx:List UInt8) (k:Int) (E P:Prop):Prop :=
 ((op=1∨op=2∨op=3)∧nm=[]∧it=0∧tx=[]∧k=0)∨(op=4∧nm=[]∧tx=[]∧0≤it∧k=0) ∨
 (op=5∧nm=[]∧it=0∧(tx.length:Int)≤4096∧k=0)∨(op=6∧Nm nm∧it=0∧tx=[]∧k=0) ∨
 (op=7∧nm=[]∧it=0∧tx=[]∧E)∨(op=8∧nm=[]∧it=0∧tx=[]∧P) ∨
 ((op=10∨op=11)∧Nm nm∧it=0∧tx=[]∧E)∨((op=12∨op=13∨op=14)∧nm=[]∧it=0∧tx=[]∧k=1∧E) ∨
 (op=29∧Nm nm∧it=0∧tx=[]∧k=1∧E)∨((15≤op∧op≤28)∧nm=[]∧it=0∧tx=[]∧k=2∧E)
mutual
def IsE:Aa→Prop
 |⟨op,nm,it,tx,ks⟩=>EX op nm it tx ks.length (Es ks) (Ps ks)
def Es:List Aa→Prop
 | []=>True
 | x :: l=>IsE x∧Es l
def Ps:List Aa→Prop
 | []=>True
 | x :: l=>IsP x∧Ps l
def IsP:Aa→Prop
 |⟨op,nm,it,tx,ks⟩=>op=9∧nm=[]∧it=0∧(tx.length:Int)≤4096∧(ks.length:Int)=1∧Es ks
end
theorem Gw (n:Aa):IsE n=EX n.Op n.Name n.Int n.Text n.Kids.length (Es n.Kids) (Ps n.Kids):=by cases n; rw [IsE]
theorem Se (n:Aa):IsP n=(n.Op=9∧n.Name=[]∧n.Int=0∧(n.Text.length:Int)≤4096∧(n.Kids.length:Int)=1∧Es n.Kids):=by cases n; rw [IsP]
theorem Kt:∀ l,Es l↔∀ x∈l,IsE x
 | []=>by simp [Es]
 | x :: l=>by rw [Es,Kt l]; simp
theorem Qf:∀ l,Ps l↔∀ x∈l,IsP x
 | []=>by simp [Ps]
 | x :: l=>by rw [Ps,Qf l]; simp
end Go.Proofs.YtifjagfmfkemmaaGreatDoor
