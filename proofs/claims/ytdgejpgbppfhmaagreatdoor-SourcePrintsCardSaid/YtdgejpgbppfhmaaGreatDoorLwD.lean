import Derived.Test.YtdgejpgbppfhmaaGreatDoorLwC
set_option linter.unusedVariables false
set_option linter.unusedSimpArgs false
set_option maxHeartbeats 4000000
namespace Go.Proofs.YtdgejpgbppfhmaaGreatDoor
open Eng Go
def TOK (t:Tk):Prop:=(t.Kind=1→Nm t.Text)∧(t.Kind=4→(t.Text.length:Int)≤4096)∧(t.Kind=3→0≤t.Int)
def Vl {α:Type} (P:α→Prop) (w:α→Nat) (c:Nat) (p:List Tk→Rs α):Prop:=∀ ts a ts',(∀ t∈ts,TOK t)→p ts=some (.ok (a,ts'))→ts'<:+ts∧w a+ts'.length≤ts.length+c∧P a
section
variable {α β:Type} {P:α→Prop} {Q:β→Prop} {w:α→Nat} {v:β→Nat}
theorem Vl.ok {c:Nat} {a:α} (h:P a) (hw:w a≤c):Vl P w c (pok a):=fun ts b us ht h'=>by cases h'; exact ⟨List.suffix_refl _,by omega,h⟩
theorem Vl.mono {c:Nat} {P':α→Prop} {p:List Tk→Rs α} (hp:Vl P w c p) (h:∀ a,P a→P' a):Vl P' w c p:=fun ts a us ht h'=>by
 obtain ⟨h1,h2,h3⟩:=hp ts a us ht h'; exact ⟨h1,h2,h a h3⟩
end
theorem Nf (a b:Nd):lsz [a,b]=nsz a+nsz b:=by simp [lsz]
theorem J4 (a:Nd):lsz [a]=nsz a:=by simp [lsz]
abbrev VE (c:Nat) (p:List Tk→Rs Nd):Prop:=Vl IsE nsz c p
structure ValR (R:SP):Prop where
 ex:VE 0 R.ex
 cj:VE 0 R.cj
 nt:VE 0 R.nt
 sm:VE 0 R.sm
 pd:VE 0 R.pd
 un:VE 0 R.un
 pm:VE 0 R.pm
 pr:Vl IsP nsz 0 R.pr
section
variable {E:SP} (hE:ValR E)
include hE
end
section
variable {bl:List Tk→Rs Nd} (h:Vl IsB nsz 0 bl)
include h
end
def fin (r:Except (List Tk) (Nd×List Tk)):Nd×Int×Int:=match r with
 | .error e=>(Ah,atE e,29)
 | .ok (a,ts)=>if hdK 0 ts=true then (if 4000 < nsz a then (Ah,0,6) else if 40 < ndp a then (Ah,0,7) else (a,0,0)) else (Ah,atE ts,29)
section
variable {K:Nat} (hK:20000≤K) (hb:K < 8000000) {p:List Tk→Rs Nd} (hs:Snd 0 p) (ht:Tot 16385 p) {P:Nd→Prop} (hv:Vl P nsz 1 p)
include hK hb hs ht hv
end
section
variable {K:Nat} {l:List Tk}
section
variable {E:SP} (hE:K3 E) (sE:Kt l E.ex (Ay K))
include hE sE
end
section
variable {E:SP} (hE:K3 E) (sE:Kt l E.ex (Ay K))
include hE sE
end
end
section
variable {K:Nat} {l:List Tk} {E:SP} (hE:K3 E) (sE:Kt l E.ex (Ay K)) (sC:∀ op s,Rr l (J6 E op s) (Bt K op s))
include hE sE sC
end
section
variable {K:Nat} {l:List Tk}
variable {bl:List Tk→Rs Nd} (hs:Snd 1 bl) (hb:Kt l bl (Ar K))
include hs hb
omit hs hb in
theorem Hg {α β:Type} (a:α) (ts:List Tk) (f:α→List Tk→Rs β):bnd (some (.ok (a,ts))) f=f a ts:=rfl
end
section
variable {K:Nat} {l:List Tk}
section
variable {E:SP} (hE:K3 E) (qE:N4 l E.ex (Ax K)) (bE:M7 l (Ax K))
include hE qE bE
end
end
section
variable {K:Nat} {l:List Tk} {E:SP} (hE:K3 E) (qE:N4 l E.ex (Ax K)) (bE:M7 l (Ax K))
include hE qE
end
end Go.Proofs.YtdgejpgbppfhmaaGreatDoor
