import Derived.Test.YtifjagfmfkemmaaGreatDoorLwN
set_option linter.unusedVariables false
set_option linter.unusedSimpArgs false
set_option maxHeartbeats 4000000
namespace Go.Proofs.YtifjagfmfkemmaaGreatDoor
open Eng Go
abbrev RP:=Ad
abbrev rst (l ts:List Tk) (b:Bool):RP:=⟨l,pos l ts,b⟩
def R4 {α:Type} (l:List Tk) (o:Option (α×RP)):Except (List Tk) (α×List Tk)→Prop
 | .ok (a,ts)=>o=some (a,rst l ts false)
 | .error ts=>∃ a,o=some (a,rst l ts true)
def Mb {α:Type} (l:List Tk) (p:List Tk→Rs α) (q:RP→Option (α×RP)):Prop:=∀ ts,Sx l ts→∀ r,p ts=some r→R4 l (q (rst l ts false)) r
def Ln {α:Type} (l:List Tk) (q:RP→Option (α×RP)):Prop:=∀ ts,Sx l ts→∃ a,q (rst l ts true)=some (a,rst l ts true)
section
variable {K:Nat} {l:List Tk}
theorem rget {t:Tk} {r:List Tk} (h:Sx l (t :: r)):(0:Int)≤pos l (t :: r)∧pos l (t :: r) <(l.length:Int)∧l.getD (Int.toNat (pos l (t :: r))) Dh=t:=by
 have h1:=h.len; have h3:=h.get;exact ⟨by simp only [pos]; omega,by simp only [pos]; omega,by simp only [pos]; rw [Int.toNat_natCast,h3]⟩
end
end Go.Proofs.YtifjagfmfkemmaaGreatDoor
