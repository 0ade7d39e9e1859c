import Derived.Test.YtifjagfmfkemmaaGreatDoorLwW
set_option linter.unusedVariables false
set_option linter.unusedSimpArgs false
set_option maxHeartbeats 4000000
namespace Go.Proofs.YtifjagfmfkemmaaGreatDoor
open Eng Go
section
variable {K:Nat} {l:List Tk}
def RefT (l:List Tk) (n:Nat) (o:Option (List Tk×Int×Bool×List Nd)):Except (List Tk) (List Nd×List Tk)→Prop
 | .ok (ks,ts)=>o=some (l,pos l ts,false,ks)
 | .error ts=>∃ ks,ks.length≤n∧o=some (l,pos l ts,true,ks)
theorem RefT.bnd {β:Type} {n:Nat} {ts:List Tk} (h:Sx l ts) {d:Nat} {x:Rs (List Nd)} {f:List Nd→List Tk→Rs β} {r:Except (List Tk) (β×List Tk)} {o:Option (List Tk×Int×Bool×List Nd)} {g:List Tk×Int×Bool×List Nd→Option (β×RP)}
  (hr:bnd x f=some r) (hx:∀ r,x=some r→Ate d ts r) (hq:∀ r,x=some r→RefT l n o r)
  (hok:∀ a ts',x=some (.ok (a,ts'))→Sx l ts'→f a ts'=some r→R4 l (g (l,pos l ts',false,a)) r) (hbad:∀ a ts',a.length≤n→Sx l ts'→∃ b,g (l,pos l ts',true,a)=some (b,rst l ts' true)):R4 l (Option.bind o g) r:=by
 rcases Fr (γ:=β) h hx hr with ⟨e,hx',rfl⟩ |⟨a,ts',hx',h3,h4,hr⟩
 ·obtain ⟨a,hn,ha⟩:=hq _ hx';have he:Eat 0 ts e:=hx _ hx';rw [ha];exact hbad a e hn (h.eat he)
 ·have:=hq _ hx'
  replace this:o=some (l,pos l ts',false,a):=this;rw [this];exact hok a ts' hx' h3 hr
section
variable {E:SP} (hE:Gp E) (qE:Mb l E.ex (Av K)) (bE:Ln l (Av K))
include hE qE bE
end
end
end Go.Proofs.YtifjagfmfkemmaaGreatDoor
