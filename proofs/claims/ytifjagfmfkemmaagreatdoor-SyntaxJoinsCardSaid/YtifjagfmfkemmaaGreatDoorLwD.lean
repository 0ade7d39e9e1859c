import Derived.Test.YtifjagfmfkemmaaGreatDoorLwC
set_option linter.unusedVariables false
set_option linter.unusedSimpArgs false
set_option maxHeartbeats 4000000
namespace Go.Proofs.YtifjagfmfkemmaaGreatDoor
open Eng Go
noncomputable def dc (p:Prop):Bool:=@decide p (Classical.propDecidable p)
@[simp] theorem O7 {p:Prop}:(dc p=true)=p:=by unfold dc; simp
theorem dc_t {p:Prop} (h:p):dc p=true:=by rw [O7]; exact h
theorem dc_f {p:Prop} (h:¬ p):dc p=false:=by
 cases e:dc p with
 | false=>rfl
 | true=>rw [O7] at e; exact absurd e h
@[simp] theorem dc_True:dc True=true:=dc_t trivial
@[simp] theorem dc_False:dc False=false:=dc_f id
def Nm (s:List UInt8):Prop:=s≠[]∧s.length≤64∧isK s=false∧F1 isD s=false∧∀ c∈s,isW c=true
theorem Rd (c:UInt8):isD c=true↔(48≤c.toNat∧c.toNat≤57):=by unfold isD; simp
theorem Re (c:UInt8):isL c=true↔(97≤c.toNat∧c.toNat≤122)∨(65≤c.toNat∧c.toNat≤90)∨c.toNat=95:=by
 unfold isL; simp; omega
end Go.Proofs.YtifjagfmfkemmaaGreatDoor
