import Derived.Test.YtdgejpgbppfhmaaGreatDoorLwD
set_option linter.unusedVariables false
set_option linter.unusedSimpArgs false
set_option maxHeartbeats 4000000
namespace Go.Proofs.YtdgejpgbppfhmaaGreatDoor
open Eng Go
section
variable {K:Nat} {l:List Tk} {E:SP} (hE:K3 E) (qE:N4 l E.ex (Ax K)) (bE:M7 l (Ax K)) (qL:N4 l (It [41] E.ex) (Bl K [41])) (bL:M7 l (Bl K [41]))
include hE qE bE
include qL bL
end
section
variable {K:Nat} {l:List Tk} (qP:∀ ts,Sx l ts→∀ a u,Qn ts=some (a,u)→Cb K (rst l ts false)=some (a,rst l u false)) (bP:M7 l (Cb K))
variable {bl:List Tk→Rs Nd} (hs:Snd 1 bl) (hb:N4 l bl (As K)) (bb:M7 l (As K))
include hs hb bb
end
section
variable {K:Nat} {l:List Tk} {bl:List Tk→Rs Nd} (hs:Snd 1 bl) (hb:N4 l bl (As K)) (bb:M7 l (As K))
include hs hb bb
variable (qC:N4 l Td (Eu K)) (bC:M7 l (Eu K))
include hs hb bb qC bC
end
section
variable {K:Nat} (hK:600000≤K) (hb:K < 8000000) {l:List Tk} (hl:l.length≤16385)
include hK hl
end
def zt (t:Tk):Int×Ge×Int:=(t.Kind,t.Text,t.Int)
def Zq (a b:List Tk):Prop:=a.map zt=b.map zt
theorem Zq.len {a b:List Tk} (h:Zq a b):a.length=b.length:=by
 have:=congrArg List.length h
 simpa using this
theorem Zq.nil {b:List Tk} (h:Zq [] b):b=[]:=by
 cases b with
 | nil=>rfl
 | cons t b=>cases h
def Lo2 {α:Type} (A:Ge→Prop) (n:Nat) (p p':List Tk→Rs α):Prop:=∀ pre r pre' r' a,Iz (pre++r)→Iz (pre'++r')→Iz r→Iz r'→Zq pre pre'→(∀ s,A s→isS s r=isS s r')→(pre'++r').length≤n→p (pre++r)=some (.ok (a,r))→p' (pre'++r')=some (.ok (a,r'))
abbrev Lo {α:Type} (A:Ge→Prop) (p:List Tk→Rs α):Prop:=∀ n,Lo2 A n p p
section
variable {α β:Type} {A B:Ge→Prop} {n:Nat}
theorem Lo2.mono {p p':List Tk→Rs α} (h:Lo2 A n p p') (hAB:∀ s,A s→B s) {m:Nat} (hm:m≤n):Lo2 B m p p':=fun pre r pre' r' a g1 g2 g3 g4 hz hA hn hr=>h pre r pre' r' a g1 g2 g3 g4 hz (fun s hs=>hA s (hAB s hs)) (by omega) hr
theorem Lo2.pure (a:α):Lo2 A n (pok a) (pok a):=by
 intro pre r pre' r' b g1 g2 g3 g4 hz hA hn hr;have h:some (Except.ok (a,pre++r))=some (Except.ok (b,r)):=hr;injection h with h;injection h with h;injection h with h1 h2
 have:pre=[]:=by
  have:=congrArg List.length h2
  simp only [List.length_append] at this;exact List.eq_nil_of_length_eq_zero (by omega)
 subst this;obtain rfl:=Zq.nil hz;subst h1; rfl
theorem Lo2.len {p p':Nat→List Tk→Rs α} (h:∀ m,m≤n→∀ k k',m < k'→Lo2 A m (p k) (p' k')):Lo2 A n (fun ts=>p (ts.length+1) ts) (fun ts=>p' (ts.length+1) ts):=by
 intro pre r pre' r' b g1 g2 g3 g4 hz hA hn hr;exact h _ hn _ ((pre'++r').length+1) (by omega) pre r pre' r' b g1 g2 g3 g4 hz hA (Nat.le_refl _) hr
end
def FinO:List Ge:=[[111,114],[97,110,100],[60],[60,61],[62],[62,61],[61,61],[33,61],[43],[45],[42],[47],[37],[46],[91],[40]]
abbrev AF (s:Ge):Prop:=s∈FinO
abbrev AN (s:Ge):Prop:=False
section
variable {A:Ge→Prop} {n:Nat}
end
structure LoR (R:SP):Prop where
 ex:Lo AF R.ex
 cj:Lo AF R.cj
 nt:Lo AF R.nt
 sm:Lo AF R.sm
 pd:Lo AF R.pd
 un:Lo AF R.un
 pm:Lo AF R.pm
 pr:Lo AF R.pr
theorem Lo.pure {α:Type} {A:Ge→Prop} (a:α):Lo A (pok a):=fun n=>Lo2.pure a
section
variable {E:SP} (hE:K3 E) (lE:LoR E) {A:Ge→Prop}
include hE lE
end
section
variable {A:Ge→Prop}
variable {bl:List Tk→Rs Nd} (hs:Snd 1 bl) (h:Lo AN bl)
include hs h
end
def Brk (y:Ge):Prop:=Ph isW y=false∧hd y≠61
theorem Brk.L {y:Ge} (h:Brk y):Ph isL y=false:=by
 cases y with
 | nil=>rfl
 | cons c r =>
  have h1:isW c=false:=h.1;unfold isW at h1;show isL c=false;cases hL:isL c with
  | false=>rfl
  | true=>rw [hL] at h1; simp at h1
end Go.Proofs.YtdgejpgbppfhmaaGreatDoor
