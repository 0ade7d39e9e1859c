import Derived.Below
import Derived.Orders
import Derived.KernelRfl
import Derived.Laws.AppendOwn
import Derived.WideLaws
import Derived.Laws.IdiomRangeMap
import Derived.Maps.RangeRun
import Derived.ChangeKeysEq
import Derived.Laws.StructEq
import Derived.Laws.Strings
import Derived.MapKept
import Derived.Laws.BytesString
import Derived.Laws.Slices
import Derived.Laws.Tables
import Derived.Great.BuildSlice
import Derived.ArgAppend
import Derived.Deep.Upon
import Derived.Laws.CopyRow
import Derived.Laws.Rows
import Derived.Laws.CopyOwn
import Derived.Lib.AppendStr
set_option linter.unusedVariables false
set_option linter.unusedSimpArgs false
namespace Go.Proofs.YtdgejpgbppfhmaaGreatDoor.Eng
open Go.RowKit (Below)
inductive CV {Tag:Type} (T:Tag→Type):Type
 | lit (v:Value)
 | str (l:List UInt8)
 | any
 | ro (t:Tag) (xs:List (T t))
 | pcs (cs:List (CV T)) (off:Nat)
 | ptr (id off:Nat)
 | own (t:Tag) (id:Nat)
 | pel (t:Tag) (id i off:Nat)
 | mp (id:Nat)
 | fn (f:Fn) (first caps:List (CV T))
 | ifc (t:TypeId) (agg:Bool) (cs:List (CV T))
 | rol (cs:List (CV T))
 | ron (t:Tag) (xs:List (T t))
 | rom (t:Tag) (es:List (List UInt8×T t))
inductive AV {Tag:Type} (T:Tag→Type):Type
 | cv (c:CV T)
 | agg (cs:List (CV T))
 | tup (vs:List (AV T))
 | any
inductive T9 {Tag:Type} (T:Tag→Type):Type
 | raw (cs:List (CV T))
 | lst (t:Tag) (xs:List (T t))
 | mpb (t:Tag) (es:List (List UInt8×T t))
 | itr (t:Tag) (left:List (List UInt8×T t)) (cur:Option (List UInt8×T t))
 | fz (t:Tag) (xs:List (T t))
 | zr (t:TypeId) (vs:List Value)
structure Uv {Tag:Type} (T:Tag→Type) where
 dec:DecidableEq Tag
 sz:Tag→Nat
 szpos:∀ t,0 < sz t
 isAgg:Tag→Bool
 ty:Tag→TypeId
 k:(t:Tag)→T t→List (CV T)
 klen:∀ t x,(k t x).length=sz t
 un:(t:Tag)→List (CV T)→Option (List Prop×T t)
 dflt:(t:Tag)→T t
 ofTy:TypeId→Option Tag
def Ae1 (arr:Array MapEntry) (clock:Nat):Prop:=(arr.toList.map (·.born)).Nodup∧∀ e∈arr.toList,e.born < clock
def Adr (a:Bool) (n:Nat) (f:Nat→Value):Value:=bif a then .agg ((List.range n).map f).toArray else f 0
section
variable {Tag:Type} {T:Tag→Type} (E:Uv T)
inductive PR (w:World) (Z:Nat→Prop):CV T→Value→Prop
 | lit {v:Value} (h:v.oneCell'=true):PR w Z (.lit v) v
 | str (l:List UInt8):PR w Z (.str l) (.string ⟨l.toArray⟩)
 | any {v:Value} (h:v.oneCell'=true):PR w Z .any v
 | ronil (t:Tag) (A:Option Addr) (cap:Nat):PR w Z (.ro t []) (.slice A 0 cap)
 | ro (t:Tag) (xs:List (T t)) (a:Addr) (cap:Nat) (u:Nat→Nat→Value) (hZ:Z a.block) (hcap:xs.length≤cap)
   (hcell:∀ (i:Nat) x (j:Nat) c,xs[i]? = some x→(E.k t x)[j]? = some c→w.cell? (a.add (i * E.sz t+j))=some (u i j))
   (hrel:∀ (i:Nat) x (j:Nat) c,xs[i]? = some x→(E.k t x)[j]? = some c→PR w Z c (u i j)):PR w Z (.ro t xs) (.slice (some a) xs.length cap)
 | pcs (cs:List (CV T)) (off:Nat) (a:Addr) (u:Nat→Value) (hZ:Z a.block)
   (hcell:∀ (j:Nat) c,cs[j]? = some c→w.cell? (a.add j)=some (u j))
   (hrel:∀ (j:Nat) c,cs[j]? = some c→PR w Z c (u j)):PR w Z (.pcs cs off) (.pointer (some (a.add off)))
 | rom (t:Tag) (es:List (List UInt8×T t)) (b:Nat) (arr:Array MapEntry) (clock:Nat) (f:MapEntry→List UInt8×T t) (u:MapEntry→Nat→Value) (hZ:Z b) (hheap:w.heap[b]? = some (.map arr clock)) (hM:Ae1 arr clock)
   (hnd:(es.map (·.1)).Nodup) (hp:(arr.toList.map f).Perm es) (hkey:∀ e∈arr.toList,e.key=.string ⟨(f e).1.toArray⟩) (hval:∀ e∈arr.toList,e.val=Adr (E.isAgg t) (E.sz t) (u e)) (hone:E.isAgg t=false→E.sz t=1)
   (hrel:∀ e,e∈arr.toList→∀ (j:Nat) c,(E.k t (f e).2)[j]? = some c→PR w Z c (u e j)):PR w Z (.rom t es) (.map (some b))
theorem PR.one {w:World} {Z:Nat→Prop} {c:CV T} {v:Value} (h:PR E w Z c v):v.oneCell'=true:=by
 cases h <;> first | assumption | rfl
theorem PR.mono {w w':World} {Z Z':Nat→Prop} (hZ:∀ b,Z b→Z' b) (hw:∀ b,Z b→w'.heap[b]? = w.heap[b]?) {c:CV T} {v:Value} (h:PR E w Z c v):PR E w' Z' c v:=by
 induction h with
 | lit h=>exact .lit h
 | str l=>exact .str l
 | any h=>exact .any h
 | ronil t A cap=>exact .ronil t A cap
 | ro t xs a cap u hz hcap hcell hrel ih =>
  refine .ro t xs a cap u (hZ _ hz) hcap (fun i x j c hx hc=>?_) ih;have hb:(a.add (i * E.sz t+j)).block=a.block:=by unfold Addr.add; split <;> rfl
  have:=hcell i x j c hx hc
  rw [← this];exact World.cell?_of_block (by rw [hb]; exact hw _ hz)
 | pcs cs off a u hz hcell hrel ih =>
  refine .pcs cs off a u (hZ _ hz) (fun j c hc=>?_) ih;have hb:(a.add j).block=a.block:=by unfold Addr.add; split <;> rfl
  rw [← hcell j c hc];exact World.cell?_of_block (by rw [hb]; exact hw _ hz)
 | rom t es b arr clock f u hz hheap hM hnd hp hkey hval hone hrel ih=>exact .rom t es b arr clock f u (hZ _ hz) ((hw _ hz).trans hheap) hM hnd hp hkey hval hone ih
inductive RC (w:World) (Z:Nat→Prop) (ρ:Nat→Option (Nat×Nat×Nat)):CV T→Value→Prop
 | pure {c:CV T} {v:Value} (h:PR E w Z c v):RC w Z ρ c v
 | ptr {id off b:Nat} {n:Nat×Nat} (h:ρ id=some (b,n)):RC w Z ρ (.ptr id off) (.pointer (some ⟨b,off,none⟩))
 | own {t:Tag} {id n b cap:Nat} (h:ρ id=some (b,cap,n)):RC w Z ρ (.own t id) (.slice (some ⟨b,0,none⟩) n cap)
 | ownv {t:Tag} {id:Nat} (h:ρ id=none):RC w Z ρ (.own t id) (.slice none 0 0)
 | pel {t:Tag} {id i off b:Nat} {n:Nat×Nat} (h:ρ id=some (b,n)):RC w Z ρ (.pel t id i off) (.pointer (some ⟨b,i * E.sz t+off,none⟩))
 | mp {id b:Nat} {n:Nat×Nat} (h:ρ id=some (b,n)):RC w Z ρ (.mp id) (.map (some b))
 | fn {f:Fn} {first caps:List (CV T)} {fs cs:Array Value} (h1:fs.size=first.length) (h2:cs.size=caps.length)
   (h3:∀ (i:Nat) c v,first[i]? = some c→fs[i]? = some v→RC w Z ρ c v) (h4:∀ (i:Nat) c v,caps[i]? = some c→cs[i]? = some v→RC w Z ρ c v):RC w Z ρ (.fn f first caps) (.func f fs cs)
 | ifc1 {t:TypeId} {c:CV T} {v:Value} (h:RC w Z ρ c v) (h1:v.oneCell'=true):RC w Z ρ (.ifc t false [c]) (.iface t v)
 | ifca {t:TypeId} {cs:List (CV T)} {us:Array Value} (h1:us.size=cs.length) (h2:∀ (i:Nat) c v,cs[i]? = some c→us[i]? = some v→RC w Z ρ c v):RC w Z ρ (.ifc t true cs) (.iface t (.agg us))
 | rol {cs:List (CV T)} {a:Addr} {cap:Nat} (u:Nat→Value) (hZ:Z a.block) (hcap:cs.length≤cap)
   (hcell:∀ (j:Nat) c,cs[j]? = some c→w.cell? (a.add j)=some (u j))
   (hrel:∀ (j:Nat) c,cs[j]? = some c→RC w Z ρ c (u j)):RC w Z ρ (.rol cs) (.slice (some a) cs.length cap)
 | pcs (cs:List (CV T)) (off:Nat) (a:Addr) (u:Nat→Value) (hZ:Z a.block)
   (hcell:∀ (j:Nat) c,cs[j]? = some c→w.cell? (a.add j)=some (u j))
   (hrel:∀ (j:Nat) c,cs[j]? = some c→RC w Z ρ c (u j)):RC w Z ρ (.pcs cs off) (.pointer (some (a.add off)))
 | ron {t:Tag} {xs:List (T t)} {a:Addr} {n cap:Nat} (h:PR E w Z (.ro t xs) (.slice (some a) n cap)):RC w Z ρ (.ron t xs) (.slice (some a) n cap)
theorem RC.one {w:World} {Z:Nat→Prop} {ρ:Nat→Option (Nat×Nat×Nat)} {c:CV T} {v:Value} (h:RC E w Z ρ c v):v.oneCell'=true:=by
 cases h with
 | pure h=>exact h.one
 | _=>rfl
def CV.names (id:Nat):CV T→Bool
 | .ptr i _ | .own _ i | .pel _ i _ _ | .mp i=>i == id
 | .fn _ f c=>namesL id f || namesL id c
 | .ifc _ _ cs | .rol cs | .pcs cs _=>namesL id cs
 | _=>false
where namesL (id:Nat):List (CV T)→Bool
 | []=>false
 | c :: cs=>CV.names id c || namesL id cs
theorem CV.namesL_false {id:Nat} {cs:List (CV T)} (h:CV.names.namesL id cs=false) {i:Nat} {c:CV T} (hc:cs[i]? = some c):c.names id=false:=by
 induction cs generalizing i with
 | nil=>simp at hc
 | cons d ds ih =>
  simp only [CV.names.namesL,Bool.or_eq_false_iff] at h;cases i with
  | zero=>simp at hc; subst hc; exact h.1
  | succ i=>simp at hc; exact ih h.2 hc
theorem RC.mono {w w':World} {Z Z':Nat→Prop} {ρ ρ':Nat→Option (Nat×Nat×Nat)} (hZ:∀ b,Z b→Z' b) (hw:∀ b,Z b→w'.heap[b]? = w.heap[b]?)
  {c:CV T} {v:Value} (h:RC E w Z ρ c v):(∀ id,c.names id=true→ρ' id=ρ id)→RC E w' Z' ρ' c v:=by
 induction h with
 | pure h=>exact fun _=>.pure (h.mono E hZ hw)
 | ptr h=>exact fun hn=>.ptr ((hn _ (by simp [CV.names])).trans h)
 | own h=>exact fun hn=>.own ((hn _ (by simp [CV.names])).trans h)
 | ownv h=>exact fun hn=>.ownv ((hn _ (by simp [CV.names])).trans h)
 | pel h=>exact fun hn=>.pel ((hn _ (by simp [CV.names])).trans h)
 | mp h=>exact fun hn=>.mp ((hn _ (by simp [CV.names])).trans h)
 | fn h1 h2 h3 h4 ih3 ih4 =>
  intro hn;refine .fn h1 h2 (fun i c v hc hv=>ih3 i c v hc hv fun id hid=>hn id ?_) (fun i c v hc hv=>ih4 i c v hc hv fun id hid=>hn id ?_)
  ·simp only [CV.names,Bool.or_eq_true];left;cases hh:CV.names.namesL id _ with
   | true=>rfl
   | false=>rw [CV.namesL_false hh hc] at hid; exact hid
  ·simp only [CV.names,Bool.or_eq_true];right;cases hh:CV.names.namesL id _ with
   | true=>rfl
   | false=>rw [CV.namesL_false hh hc] at hid; exact hid
 | ron h=>exact fun _=>.ron (h.mono E hZ hw)
 | ifc1 h h1 ih=>exact fun hn=>.ifc1 (ih fun id hid=>hn id (by simp [CV.names,CV.names.namesL,hid])) h1
 | ifca h1 h2 ih =>
  intro hn;refine .ifca h1 (fun i c v hc hv=>ih i c v hc hv fun id hid=>hn id ?_);simp only [CV.names];cases hh:CV.names.namesL id _ with
  | true=>rfl
  | false=>rw [CV.namesL_false hh hc] at hid; exact hid
 | rol u hz hcap hcell hrel ih =>
  intro hn;refine .rol u (hZ _ hz) hcap (fun j c hc=>?_) (fun j c hc=>ih j c hc fun id hid=>hn id ?_)
  ·rename_i a _;have hb:(a.add j).block=a.block:=by unfold Addr.add; split <;> rfl
   rw [← hcell j c hc];exact World.cell?_of_block (by rw [hb]; exact hw _ hz)
  ·simp only [CV.names];cases hh:CV.names.namesL id _ with
   | true=>rfl
   | false=>rw [CV.namesL_false hh hc] at hid; exact hid
 | pcs cs off a u hz hcell hrel ih =>
  intro hn;refine .pcs cs off a u (hZ _ hz) (fun j c hc=>?_) (fun j c hc=>ih j c hc fun id hid=>hn id ?_)
  ·have hb:(a.add j).block=a.block:=by unfold Addr.add; split <;> rfl
   rw [← hcell j c hc];exact World.cell?_of_block (by rw [hb]; exact hw _ hz)
  ·simp only [CV.names];cases hh:CV.names.namesL id _ with
   | true=>rfl
   | false=>rw [CV.namesL_false hh hc] at hid; exact hid
inductive RA (w:World) (Z:Nat→Prop) (ρ:Nat→Option (Nat×Nat×Nat)):AV T→Value→Prop
 | cv {c:CV T} {v:Value} (h:RC E w Z ρ c v):RA w Z ρ (.cv c) v
 | agg {cs:List (CV T)} {us:Array Value} (h1:us.size=cs.length) (h2:∀ (i:Nat) c v,cs[i]? = some c→us[i]? = some v→RC E w Z ρ c v):RA w Z ρ (.agg cs) (.agg us)
 | tup {vs:List (AV T)} {us:Array Value} (h1:us.size=vs.length) (h2:∀ (i:Nat) c v,vs[i]? = some c→us[i]? = some v→RA w Z ρ c v):RA w Z ρ (.tup vs) (.tuple us)
 | any {v:Value}:RA w Z ρ .any v
def AV.names (id:Nat):AV T→Bool
 | .cv c=>c.names id
 | .agg cs=>CV.names.namesL id cs
 | .tup vs=>namesL id vs
 | .any=>false
where namesL (id:Nat):List (AV T)→Bool
 | []=>false
 | c :: cs=>AV.names id c || namesL id cs
theorem AV.namesL_false {id:Nat} {cs:List (AV T)} (h:AV.names.namesL id cs=false) {i:Nat} {c:AV T} (hc:cs[i]? = some c):c.names id=false:=by
 induction cs generalizing i with
 | nil=>simp at hc
 | cons d ds ih =>
  simp only [AV.names.namesL,Bool.or_eq_false_iff] at h;cases i with
  | zero=>simp at hc; subst hc; exact h.1
  | succ i=>simp at hc; exact ih h.2 hc
theorem RA.mono {w w':World} {Z Z':Nat→Prop} {ρ ρ':Nat→Option (Nat×Nat×Nat)} (hZ:∀ b,Z b→Z' b) (hw:∀ b,Z b→w'.heap[b]? = w.heap[b]?)
  {c:AV T} {v:Value} (h:RA E w Z ρ c v):(∀ id,c.names id=true→ρ' id=ρ id)→RA E w' Z' ρ' c v:=by
 induction h with
 | cv h=>exact fun hn=>.cv (h.mono E hZ hw hn)
 | agg h1 h2 =>
  intro hn;refine .agg h1 fun i c v hc hv=>(h2 i c v hc hv).mono E hZ hw fun id hid=>hn id ?_
  simp only [AV.names];cases hh:CV.names.namesL id _ with
  | true=>rfl
  | false=>rw [CV.namesL_false hh hc] at hid; exact hid
 | tup h1 h2 ih =>
  intro hn;refine .tup h1 fun i c v hc hv=>ih i c v hc hv fun id hid=>hn id ?_
  simp only [AV.names];cases hh:AV.names.namesL id _ with
  | true=>rfl
  | false=>rw [AV.namesL_false hh hc] at hid; exact hid
 | any=>exact fun _=>.any
end
end Go.Proofs.YtdgejpgbppfhmaaGreatDoor.Eng
namespace Go.Proofs.YtdgejpgbppfhmaaGreatDoor.Eng
open Go.RowKit (Below)
def look {α:Type} (t:Nat):List (Nat×α)→Option α
 | []=>none
 |(s,v) :: r=>bif Nat.beq s t then some v else look t r
structure St {Tag:Type} (T:Tag→Type) where
 tmps:List (Nat×AV T)
 heap:List (Nat×T9 T)
section
variable {Tag:Type} {T:Tag→Type} (E:Uv T)
def absC (v:Value):CV T:=match v with
 | .string s=>.str s.data.toList
 | v=>.lit v
def absV (v:Value):AV T:=match v with
 | .agg cs=>bif cs.toList.all (·.oneCell') then .agg (cs.toList.map absC) else .any
 | .tuple _=>.any
 | v=>.cv (absC v)
def St.get (S:St T):Operand→Option (AV T)
 | .tmp t=>look t S.tmps
 | .const v=>some (absV v)
 | .func f=>some (.cv (.fn (.func f) [] []))
 | .global _=>none
def VR (w:World) (Z:Nat→Prop) (t:Tag) (x:T t) (v:Value):Prop :=
 (E.isAgg t=true∧∃ us,v=.agg us∧us.size=E.sz t∧∀ (j:Nat) c u,(E.k t x)[j]? = some c→us[j]? = some u→PR E w Z c u) ∨
 (E.isAgg t=false∧∃ c,E.k t x=[c]∧PR E w Z c v)
theorem VR.mono {w w':World} {Z Z':Nat→Prop} (hZ:∀ b,Z b→Z' b) (hw:∀ b,Z b→w'.heap[b]? = w.heap[b]?) {t:Tag} {x:T t} {v:Value} (h:VR E w Z t x v):VR E w' Z' t x v:=by
 rcases h with ⟨h1,us,h2,h3,h4⟩ |⟨h1,c,h2,h3⟩
 ·exact .inl ⟨h1,us,h2,h3,fun j c u hc hu=>(h4 j c u hc hu).mono E hZ hw⟩
 ·exact .inr ⟨h1,c,h2,h3.mono E hZ hw⟩
def ER (w:World) (Z:Nat→Prop) (t:Tag) (p:List UInt8×T t) (e:MapEntry):Prop:=e.key=.string ⟨p.1.toArray⟩∧VR E w Z t p.2 e.val
def MR (w:World) (Z:Nat→Prop) (t:Tag) (es:List (List UInt8×T t)) (arr:Array MapEntry) (clock:Nat):Prop :=
 Ae1 arr clock∧(es.map (·.1)).Nodup∧(E.isAgg t=false→E.sz t=1)∧∃ f:MapEntry→List UInt8×T t,(arr.toList.map f).Perm es∧∀ e∈arr.toList,ER E w Z t (f e) e
theorem ER.mono {w w':World} {Z Z':Nat→Prop} (hZ:∀ b,Z b→Z' b) (hw:∀ b,Z b→w'.heap[b]? = w.heap[b]?) {t:Tag} {p:List UInt8×T t} {e:MapEntry} (h:ER E w Z t p e):ER E w' Z' t p e:=⟨h.1,h.2.mono E hZ hw⟩
theorem MR.mono {w w':World} {Z Z':Nat→Prop} (hZ:∀ b,Z b→Z' b) (hw:∀ b,Z b→w'.heap[b]? = w.heap[b]?) {t:Tag} {es:List (List UInt8×T t)} {arr:Array MapEntry} {clock:Nat} (h:MR E w Z t es arr clock):MR E w' Z' t es arr clock:=by
 obtain ⟨h1,h2,h3,f,h4,h5⟩:=h;exact ⟨h1,h2,h3,f,h4,fun e he=>(h5 e he).mono E hZ hw⟩
theorem Ad8 {w:World} {Z:Nat→Prop} {t:Tag} {es:List (List UInt8×T t)} {v:Value} (h:PR E w Z (.rom t es) v):∃ b arr clock,v=.map (some b)∧Z b∧w.heap[b]? = some (.map arr clock)∧MR E w Z t es arr clock:=by
 cases h with
 | rom _ _ b arr clock f u hz hheap hM hnd hp hkey hval hone hrel =>
  refine ⟨b,arr,clock,rfl,hz,hheap,hM,hnd,hone,f,hp,fun e he=>⟨hkey e he,?_⟩⟩;have hv:=hval e he;unfold Adr at hv;cases ha:E.isAgg t with
  | true =>
   rw [ha] at hv;refine .inl ⟨ha,_,hv,by simp,fun j c x hc hx=>?_⟩;have hj:j < E.sz t:=by rw [← E.klen t (f e).2]; exact (List.getElem?_eq_some_iff.1 hc).1
   simp [hj] at hx;subst hx;exact hrel e he j c hc
  | false =>
   rw [ha] at hv;have h1:=hone ha;have hl:=E.klen t (f e).2;rw [h1] at hl
   match hk:E.k t (f e).2,hl with
   | [c],_=>exact .inr ⟨ha,c,hk,by rw [hv]; exact hrel e he 0 c (by rw [hk]; rfl)⟩
theorem Agl {w:World} {Z:Nat→Prop} {t:Tag} {es:List (List UInt8×T t)} {b:Nat} {arr:Array MapEntry} {clock:Nat} (hz:Z b) (hheap:w.heap[b]? = some (.map arr clock)) (h:MR E w Z t es arr clock):PR E w Z (.rom t es) (.map (some b)):=by
 obtain ⟨h1,h2,h3,f,h4,h5⟩:=h;refine .rom t es b arr clock f (fun e j=>bif E.isAgg t then (match e.val with | .agg us=>us.getD j undef | _=>undef) else e.val) hz hheap h1 h2 h4 (fun e he=>(h5 e he).1) (fun e he=>?_) h3 (fun e he j c hc=>?_)
 ·unfold Adr;rcases (h5 e he).2 with ⟨ha,us,hv,hs,_⟩ |⟨ha,c,hk,_⟩
  ·simp only [ha,cond_true,hv]
   congr 1
   apply Array.ext
   ·simp [hs]
   ·intro i hi hi';simp [Array.getD,hi]
  ·simp only [ha,cond_false]
 ·rcases (h5 e he).2 with ⟨ha,us,hv,hs,hr⟩ |⟨ha,c',hk,hr⟩
  ·simp only [ha,cond_true,hv];have hj:j < us.size:=by rw [hs,← E.klen t (f e).2]; exact (List.getElem?_eq_some_iff.1 hc).1
   exact hr j c _ hc (by simp [Array.getD,hj])
  ·simp only [ha,cond_false];rw [hk] at hc;cases j with
   | zero=>simp at hc; subst hc; exact hr
   | succ j=>simp at hc
def BR (w:World) (Z:Nat→Prop) (ρ:Nat→Option (Nat×Nat×Nat)):T9 T→Option (Nat×Nat×Nat)→Prop
 | .raw cs,some (b,_)=>∃ arr e,w.heap[b]? = some (.cells arr e (0,0))∧arr.size=cs.length ∧
   ∀ (i:Nat) c u,cs[i]? = some c→arr[i]? = some u→RC E w Z ρ c u
 | .lst t xs,some (b,cap,n)=>n=xs.length∧∃ arr,w.heap[b]? = some (.cells arr (E.ty t) (0,0))∧xs.length≤cap∧cap≤maxLen∧arr.size=cap * E.sz t ∧
   ∀ (i:Nat) x (j:Nat) c u,xs[i]? = some x→(E.k t x)[j]? = some c→arr[i * E.sz t+j]? = some u→PR E w Z c u
 | .lst _ xs,none=>xs=[]
 | .fz t xs,some (b,cap,n)=>n=xs.length∧∃ arr fr,w.heap[b]? = some (.cells arr (E.ty t) fr)∧xs.length≤cap∧cap≤maxLen∧arr.size=cap * E.sz t ∧
   ∀ (i:Nat) x (j:Nat) c u,xs[i]? = some x→(E.k t x)[j]? = some c→arr[i * E.sz t+j]? = some u→PR E w Z c u
 | .fz _ xs,none=>xs=[]
 | .mpb t es,some (b,_)=>∃ arr clock,w.heap[b]? = some (.map arr clock)∧MR E w Z t es arr clock
 | .mpb _ _,none=>False
 | .itr t left cur,some (b,_)=>∃ m since seen arr,w.heap[b]? = some (.mapIter (some m) since seen since)∧Z m∧w.heap[m]? = some (.map arr since)∧Ae1 arr since∧(E.isAgg t=false→E.sz t=1)∧(left.map (·.1)).Nodup ∧
   (∃ f:MapEntry→List UInt8×T t,((leftOf arr seen).toList.map f).Perm left∧∀ e∈(leftOf arr seen).toList,ER E w Z t (f e) e) ∧
   (∀ p,cur=some p→∃ (seen':Array Nat) (e:MapEntry),e∈arr.toList∧seen=seen'.push e.born∧ER E w Z t p e)
 | .itr _ _ _,none=>False
 | .zr t vs,some (b,_)=>w.heap[b]? = some (.cells vs.toArray t (0,0))
 | .zr _ _,none=>False
 | .raw _,none=>False
theorem BR.fz {w:World} {Z:Nat→Prop} {ρ:Nat→Option (Nat×Nat×Nat)} {t:Tag} {xs:List (T t)} {bc:Option (Nat×Nat×Nat)} (h:BR E w Z ρ (.lst t xs) bc):BR E w Z ρ (.fz t xs) bc:=by
 cases bc with
 | none=>exact h
 | some p =>
  obtain ⟨h0,arr,h1,h2⟩:=h;exact ⟨h0,arr,_,h1,h2⟩
theorem Ux {w:World} {b:Nat} {arr:Array Value} {e:TypeId} {fz:Nat×Nat} (h:w.heap[b]? = some (.cells arr e fz)) (o:Nat):w.cell? ⟨b,o,none⟩=arr[o]?:=by
 simp [World.cell?,h]
theorem add_add (a:Addr) (x y:Nat):(a.add x).add y=a.add (x+y):=by
 unfold Addr.add;by_cases hx:x=0
 ·subst hx; simp
 ·by_cases hy:y=0
  ·subst hy; simp
  ·have:x+y≠0:=by omega
   simp [hx,hy,this,Nat.add_assoc]
theorem Uo (b o n:Nat):(⟨b,o,none⟩:Addr).add n=⟨b,o+n,none⟩:=by
 unfold Addr.add; split
 ·subst_vars; rfl
 ·rfl
theorem Aa7 (a:Addr) (n:Nat):(a.add n).block=a.block:=by unfold Addr.add; split <;> rfl
def Acc:TypeDesc→Bool
 | .struct _ | .array _ _=>true
 | _=>false
def ld (P:Program) (t:TypeId) (cs:List (CV T)) (off:Nat):Option (AV T) :=
 match P.underlying t,P.info? t with
 | some d,some info =>
  bif Acc d then (let c:=(cs.drop off).take info.size; bif Nat.beq c.length info.size then some (.agg c) else none)
  else match cs[off]? with
   | some c=>some (.cv c)
   | none=>none
 | _,_=>none
theorem Vp {P:Program} {t:TypeId} {d:TypeDesc} (h:P.underlying t=some d) (w:World):(isAgg t).run P w=.ok (Acc d) w:=by
 unfold isAgg;rw [Sem.run_bind,run_underlying h];cases d <;> rfl
theorem W4 {P:Program} {w:World} {Z:Nat→Prop} {ρ:Nat→Option (Nat×Nat×Nat)} {t:TypeId} {cs:List (CV T)} {off:Nat} {r:AV T} (h:ld P t cs off=some r)
  (a:Addr) (hc:∀ (j:Nat) c,cs[j]? = some c→∃ u,w.cell? (a.add j)=some u∧RC E w Z ρ c u) :
  ∃ v,(loadVar t (a.add off)).run P w=.ok v w∧RA E w Z ρ r v:=by
 unfold ld at h;split at h
 ·rename_i d info hd hi;cases hA:Acc d with
  | true =>
   rw [hA] at h;simp only [cond_true] at h;cases hl:Nat.beq ((cs.drop off).take info.size).length info.size with
   | false=>rw [hl] at h; simp at h
   | true =>
    rw [hl] at h;simp only [cond_true,Option.some.injEq] at h;subst h;have hl':((cs.drop off).take info.size).length=info.size:=Nat.eq_of_beq_eq_true hl;have hget:∀ j,j < info.size→∃ c,cs[off+j]? = some c:=fun j hj=>by
     simp only [List.length_take,List.length_drop] at hl';exact ⟨_,List.getElem?_eq_getElem (by omega)⟩
    have hget':∀ j,∃ u,j < info.size→w.cell? ((a.add off).add j)=some u∧∀ c,cs[off+j]? = some c→RC E w Z ρ c u:=fun j=>by
     by_cases hj:j < info.size
     ·obtain ⟨c,hcj⟩:=hget j hj;obtain ⟨u,hu,hr⟩:=hc _ _ hcj;exact ⟨u,fun _=>⟨by rw [add_add]; exact hu,fun c' hc'=>by rw [hcj] at hc'; cases hc'; exact hr⟩⟩
     ·exact ⟨.nilFunc,fun h=>absurd h hj⟩
    obtain ⟨f,hf⟩:=Classical.axiomOfChoice hget';refine ⟨.agg ((List.range info.size).map f).toArray,?_,?_⟩
    ·unfold loadVar;rw [Sem.run_bind,Vp hd];simp only [Result.andThen,hA,if_true];have key:=run_loadCells_list (P:=P) w (a.add off) ((List.range info.size).map f) (fun j v hv=>by
      simp only [List.getElem?_map] at hv;by_cases hj:j < info.size
      ·rw [List.getElem?_range hj] at hv;simp at hv;subst hv;exact (hf j hj).1
      ·rw [List.getElem?_eq_none (by simpa using hj)] at hv; simp at hv)
     simp only [List.length_map,List.length_range] at key;rw [Sem.run_bind,run_sizeOf w hi];simp only [Result.andThen,Program.cellsOf,hi,Option.map_some,Option.getD_some];rw [Sem.run_bind,key];rfl
    ·refine .agg (by rw [hl']; simp) fun i c v hci hv=>?_
     have hi':i < info.size:=by
      rw [List.getElem?_take] at hci;split at hci
      ·assumption
      ·cases hci
     rw [List.getElem?_take,if_pos hi',List.getElem?_drop] at hci;simp only [List.getElem?_toArray,List.getElem?_map,List.getElem?_range hi',Option.map_some,Option.some.injEq] at hv;subst hv;exact (hf i hi').2 c hci
  | false =>
   rw [hA] at h;simp only [cond_false] at h;split at h
   ·rename_i c hcoff;cases h;obtain ⟨u,hu,hr⟩:=hc _ _ hcoff;refine ⟨u,?_,.cv hr⟩;unfold loadVar;rw [Sem.run_bind,Vp hd];simp [Result.andThen,hA,hu]
   ·cases h
 ·cases h
end
end Go.Proofs.YtdgejpgbppfhmaaGreatDoor.Eng
namespace Go.Proofs.YtdgejpgbppfhmaaGreatDoor.Eng
open Go.RowKit (Below)
abbrev Res {Tag:Type} (T:Tag→Type):=Option (List Prop×AV T)
def Us:List Prop→Prop
 | []=>True
 | [p]=>p
 | p :: ps=>p∧Us ps
theorem Us.cons {p:Prop} {ps:List Prop} (h:Us (p :: ps)):p∧Us ps:=by
 cases ps with
 | nil=>exact ⟨h,trivial⟩
 | cons q qs=>exact h
theorem Us.mem {ps:List Prop} (h:Us ps):∀ p∈ps,p:=by
 induction ps with
 | nil=>intro p hp; cases hp
 | cons q qs ih =>
  obtain ⟨h1,h2⟩:=h.cons;intro p hp;cases hp with
  | head=>exact h1
  | tail _ hm=>exact ih h2 p hm
theorem Us.of_mem:∀ {ps:List Prop},(∀ p∈ps,p)→Us ps
 | [],_=>trivial
 | [p],h=>h p (by simp)
 | p :: q :: ps,h=>⟨h p (by simp),Us.of_mem fun r hr=>h r (by simp at hr ⊢; exact .inr hr)⟩
theorem Us.append {ps qs:List Prop} (h:Us (ps++qs)):Us ps∧Us qs :=
 ⟨Us.of_mem fun p hp=>h.mem p (by simp [hp]),Us.of_mem fun p hp=>h.mem p (by simp [hp])⟩
section
variable {Tag:Type} {T:Tag→Type} (E:Uv T)
variable {P:Program} {w:World} {Z:Nat→Prop} {ρ:Nat→Option (Nat×Nat×Nat)}
def W1 (P:Program) (s:TypeId) (f:Nat):Option Nat :=
 match P.underlying s with
 | some (.struct fs)=>match fs[f]? with
  | some fl=>match P.info? fl.type with
   | some i=>bif Nat.beq i.size 0 then none else some fl.offset
   | none=>none
  | none=>none
 | _=>none
theorem Un {s:TypeId} {f o:Nat} (h:W1 P s f=some o) (a:Addr):(Instr.fieldAt s (.pointer (some a)) f).run P w=.ok (.pointer (some (a.add o))) w:=by
 unfold W1 at h;split at h
 ·rename_i fs hu;split at h
  ·rename_i fl hf;split at h
   ·rename_i i hi;cases hz:Nat.beq i.size 0 with
    | true=>rw [hz] at h; simp at h
    | false =>
     rw [hz] at h;simp only [cond_false,Option.some.injEq] at h;subst h;have hne:¬ i.size=0:=fun e=>by rw [e] at hz; simp at hz
     unfold Instr.fieldAt fieldPlace;simp only [Sem.run_bind,run_underlying hu,Result.andThen,hf];simp [Instr.sureAddr,Sem.run_bind,run_sizeOf w hi,Result.andThen,Program.cellsOf,hi,hne]
   ·cases h
  ·cases h
 ·cases h
def Vh (P:Program) (s:TypeId) (f:Nat):AV T→Res T
 | .cv (.ptr id off)=>match W1 P s f with | some o=>some ([],.cv (.ptr id (off+o))) | none=>none
 | .cv (.pel t id i off)=>match W1 P s f with | some o=>some ([],.cv (.pel t id i (off+o))) | none=>none
 | .cv (.pcs cs off)=>match W1 P s f with | some o=>some ([],.cv (.pcs cs (off+o))) | none=>none
 | _=>none
theorem Wl {s:TypeId} {f:Nat} {x r:AV T} {cs:List Prop} {v:Value} (h:Vh P s f x=some (cs,r)) (hx:RA E w Z ρ x v) :
  ∃ u,(Instr.fieldAt s v f).run P w=.ok u w∧RA E w Z ρ r u:=by
 unfold Vh at h;split at h
 ·split at h
  ·rename_i id off o ho;cases h;cases hx with | cv hc =>
   cases hc with
   | pure hp=>cases hp
   | ptr hr =>
    refine ⟨_,Un ho _,.cv ?_⟩;rw [Uo];exact .ptr hr
  ·cases h
 ·split at h
  ·rename_i t id i off o ho;cases h;cases hx with | cv hc =>
   cases hc with
   | pure hp=>cases hp
   | pel hr =>
    refine ⟨_,Un ho _,.cv ?_⟩;rw [Uo,Nat.add_assoc];exact .pel hr
  ·cases h
 ·split at h
  ·rename_i cs' off o ho;cases h;cases hx with | cv hc =>
   cases hc with
   | pure hp =>
    cases hp with
    | pcs _ _ a u hz hcell hrel =>
     refine ⟨_,Un ho _,.cv (.pure ?_)⟩;rw [add_add];exact .pcs _ _ a u hz hcell hrel
   | pcs _ _ a u hz hcell hrel =>
    refine ⟨_,Un ho _,.cv ?_⟩;rw [add_add];exact .pcs _ _ a u hz hcell hrel
  ·cases h
 ·cases h
def U5 (E:Uv T) (P:Program) (t:TypeId) (tg:Tag):Bool :=
 match P.underlying t with
 | some (.slice e)=>match P.info? e with
  | some i=>Nat.beq e (E.ty tg) && Nat.beq i.size (E.sz tg)
  | none=>false
 | _=>false
theorem Va {t:TypeId} {tg:Tag} (h:U5 E P t tg=true):∃ i,P.underlying t=some (.slice (E.ty tg))∧P.info? (E.ty tg)=some i∧i.size=E.sz tg:=by
 unfold U5 at h;split at h
 ·rename_i e he;split at h
  ·rename_i i hi;simp only [Bool.and_eq_true] at h;have h1:=Nat.eq_of_beq_eq_true h.1;have h2:=Nat.eq_of_beq_eq_true h.2;subst h1;exact ⟨i,he,hi,h2⟩
  ·cases h
 ·cases h
theorem Wi {t:TypeId} {tg:Tag} (h:U5 E P t tg=true) (a:Addr) (len cap:Nat) (k:IntKind) (n:Int) (h0:0≤n) (h1:n < len) :
  (Instr.indexAt t (.slice (some a) len cap) (.int k n)).run P w=.ok (.pointer (some (a.add (n.toNat * E.sz tg)))) w:=by
 obtain ⟨i,hu,hi,hs⟩:=Va E h;unfold Instr.indexAt;simp [asIntOf,Sem.run_bind,run_underlying hu,Result.andThen,h0,h1,run_sizeOf w hi,Program.cellsOf,hi,hs]
def W6 (E:Uv T) (P:Program) (H:List (Nat×T9 T)) (t:TypeId):AV T→AV T→Res T
 | .cv (.ro tg xs),.cv (.lit (.int _ n))=>bif U5 E P t tg then some ([0≤n,n < xs.length],.cv (.pcs (E.k tg (xs.getD n.toNat (E.dflt tg))) 0)) else none
 | .cv (.own tg id),.cv (.lit (.int _ n))=>match look id H with
  | some (.lst _ xs)=>bif U5 E P t tg then some ([0≤n,n < xs.length],.cv (.pel tg id n.toNat 0)) else none
  | _=>none
 | _,_=>none
theorem X1 {α:Type} (xs:List α) (i:Nat) (d:α) (h:i < xs.length):xs[i]? = some (xs.getD i d):=by
 simp [List.getD,List.getElem?_eq_getElem h]
theorem Yg {H:List (Nat×T9 T)} (hH:∀ id blk,look id H=some blk→BR E w Z ρ blk (ρ id)) {t:TypeId} {x y r:AV T} {cs:List Prop} {v u:Value} (h:W6 E P H t x y=some (cs,r)) (hx:RA E w Z ρ x v) (hy:RA E w Z ρ y u) (hcs:Us cs) :
  ∃ r',(Instr.indexAt t v u).run P w=.ok r' w∧RA E w Z ρ r r':=by
 unfold W6 at h;split at h
 ·rename_i tg xs k n;cases hk:U5 E P t tg with
  | false=>rw [hk] at h; cases h
  | true =>
   rw [hk] at h;cases h;obtain ⟨h0,h1⟩:=hcs;replace h1:n <(xs.length:Int):=h1;have h1':n.toNat < xs.length:=by omega
   cases hy with | cv hy =>
   cases hy with | pure hy =>
   cases hy with | lit _ =>
   cases hx with | cv hx =>
   cases hx with | pure hx =>
   cases hx with
   | ronil=>simp at h1'
   | ro _ _ a cap uu hz hcap hcell hrel =>
    refine ⟨_,Wi E hk a _ cap k n h0 h1,.cv (.pure ?_)⟩;have hxi:=X1 xs n.toNat (E.dflt tg) h1'
    have:=PR.pcs (E:=E) (w:=w) (Z:=Z) (E.k tg (xs.getD n.toNat (E.dflt tg))) 0 (a.add (n.toNat * E.sz tg)) (fun j=>uu n.toNat j) (by rw [Aa7]; exact hz)
     (fun j c hc=>by rw [add_add]; exact hcell _ _ _ _ hxi hc) (fun j c hc=>hrel _ _ _ _ hxi hc)
    rw [add_add,Nat.add_zero] at this;exact this
 ·rename_i tg id k n;split at h
  ·rename_i tg' xs hl;cases hk:U5 E P t tg with
   | false=>rw [hk] at h; cases h
   | true =>
    rw [hk] at h;cases h;obtain ⟨h0,h1⟩:=hcs;replace h1:n <(xs.length:Int):=h1;have hB:=hH _ _ hl;cases hy with | cv hy =>
    cases hy with | pure hy =>
    cases hy with | lit _ =>
    cases hx with | cv hx =>
    cases hx with
    | pure hx=>cases hx
    | ownv hr =>
     rw [hr] at hB
     have:xs=[]:=hB
     subst this;simp at h1; omega
    | @own _ _ len b cap hr =>
     rw [hr] at hB;obtain ⟨hlen,_⟩:=hB;refine ⟨_,Wi E hk _ _ cap k n h0 (by rw [hlen]; exact h1),.cv ?_⟩;rw [Uo,Nat.zero_add];exact .pel (off:=0) hr
  ·cases h
 ·cases h
def Adv (E:Uv T) (P:Program) (H:List (Nat×T9 T)) (t:TypeId):AV T→Res T
 | .cv (.ptr id off)=>match look id H with
  | some (.raw cs)=>match ld P t cs off with | some r=>some ([],r) | none=>none
  | _=>none
 | .cv (.pcs cs off)=>match ld P t cs off with | some r=>some ([],r) | none=>none
 | .cv (.pel tg id i off)=>match look id H with
  | some (.lst tg' xs)=>match E.dec tg tg' with
   | .isTrue _=>match ld P t (E.k tg' (xs.getD i (E.dflt tg'))) off with | some r=>some ([i < xs.length],r) | none=>none
   | .isFalse _=>none
  | _=>none
 | _=>none
theorem Acf {H:List (Nat×T9 T)} {t:TypeId} {x r:AV T} {cs:List Prop} {v:Value} (h:Adv E P H t x=some (cs,r)) (hx:RA E w Z ρ x v) (hcs:Us cs)
  (hH:∀ id blk,look id H=some blk→BR E w Z ρ blk (ρ id)):∃ r',(Instr.loadAt t v).run P w=.ok r' w∧RA E w Z ρ r r':=by
 unfold Adv at h;split at h
 ·rename_i id off;split at h
  ·rename_i cs' hl;split at h
   ·rename_i r' hld;cases h;cases hx with | cv hx =>
    cases hx with
    | pure hx=>cases hx
    | @ptr _ _ b n hr =>
     have hb:=hH _ _ hl;rw [hr] at hb;obtain ⟨arr,e,ha,hsz,hrel⟩:=hb;obtain ⟨u,hu,hru⟩:=W4 E (w:=w) (Z:=Z) (ρ:=ρ) hld ⟨b,0,none⟩ (fun j c hc=>by
      have hj:j < arr.size:=by rw [hsz]; exact (List.getElem?_eq_some_iff.1 hc).1
      exact ⟨arr[j],by rw [Uo,Nat.zero_add,Ux ha]; simp [hj],hrel j c _ hc (by simp [hj])⟩)
     rw [Uo,Nat.zero_add] at hu;exact ⟨u,by simp [Instr.loadAt,Instr.sureAddr,hu],hru⟩
   ·cases h
  ·cases h
 ·rename_i cs' off;split at h
  ·rename_i r' hld;cases h;cases hx with | cv hx =>
   cases hx with
   | pure hx =>
    cases hx with
    | pcs _ _ a u hz hcell hrel =>
     obtain ⟨u,hu,hru⟩:=W4 E (w:=w) (Z:=Z) (ρ:=ρ) hld a (fun j c hc=>⟨_,hcell j c hc,.pure (hrel j c hc)⟩);exact ⟨u,by simp [Instr.loadAt,Instr.sureAddr,hu],hru⟩
   | pcs _ _ a u hz hcell hrel =>
     obtain ⟨u,hu,hru⟩:=W4 E (w:=w) (Z:=Z) (ρ:=ρ) hld a (fun j c hc=>⟨_,hcell j c hc,hrel j c hc⟩);exact ⟨u,by simp [Instr.loadAt,Instr.sureAddr,hu],hru⟩
  ·cases h
 ·rename_i tg id i off;split at h
  ·rename_i tg' xs hl;split at h
   ·rename_i htg _;subst htg;split at h
    ·rename_i r' hld;cases h;cases hx with | cv hx =>
     cases hx with
     | pure hx=>cases hx
     | @pel _ _ _ _ b capl hr =>
      obtain ⟨cap,len⟩:=capl;have hb:=hH _ _ hl;rw [hr] at hb;obtain ⟨_,arr,ha,hcap,hmax,hsz,hrel⟩:=hb;have hi:i < xs.length:=hcs;have hxi:=X1 xs i (E.dflt tg) hi;obtain ⟨u,hu,hru⟩:=W4 E (w:=w) (Z:=Z) (ρ:=ρ) hld ⟨b,i * E.sz tg,none⟩ (fun j c hc=>by
       have hj:j < E.sz tg:=by rw [← E.klen tg (xs.getD i (E.dflt tg))]; exact (List.getElem?_eq_some_iff.1 hc).1
       have hlt:i * E.sz tg+j < arr.size:=by
        rw [hsz]
        calc i * E.sz tg+j < i * E.sz tg+E.sz tg:=by omega
         _=(i+1) * E.sz tg:=by rw [Nat.add_mul,Nat.one_mul]
         _≤cap * E.sz tg:=Nat.mul_le_mul_right _ (by omega)
       exact ⟨arr[i * E.sz tg+j],by rw [Uo,Ux ha]; simp [hlt],.pure (hrel i _ j c _ hxi hc (by simp [hlt]))⟩)
      rw [Uo] at hu;exact ⟨u,by simp [Instr.loadAt,Instr.sureAddr,hu],hru⟩
    ·cases h
   ·cases h
  ·cases h
 ·cases h
def Abo (P:Program) (s:TypeId) (f:Nat):AV T→Res T
 | .agg cs=>match P.underlying s with
  | some (.struct fs)=>match fs[f]? with
   | some fl=>match ld P fl.type cs fl.offset with | some r=>some ([],r) | none=>none
   | none=>none
  | _=>none
 | _=>none
def Yr (ix:Nat):AV T→Res T
 | .tup vs=>match vs[ix]? with | some r=>some ([],r) | none=>none
 | _=>none
theorem Ze {ix:Nat} {x r:AV T} {cs:List Prop} {v:Value} (h:Yr ix x=some (cs,r)) (hx:RA E w Z ρ x v) :
  ∃ r',(Instr.extract v ix).run P w=.ok r' w∧RA E w Z ρ r r':=by
 unfold Yr at h;split at h
 ·split at h
  ·rename_i vs r' hr;cases h;cases hx with | tup h1 h2 =>
   rename_i us;have hlt:ix < us.size:=by rw [h1]; exact (List.getElem?_eq_some_iff.1 hr).1
   exact ⟨us[ix],by simp [Instr.extract,hlt],h2 _ _ _ hr (by simp [hlt])⟩
  ·cases h
 ·cases h
end
end Go.Proofs.YtdgejpgbppfhmaaGreatDoor.Eng
namespace Go.Proofs.YtdgejpgbppfhmaaGreatDoor.Eng
open Go.RowKit (Below)
section
variable {Tag:Type} {T:Tag→Type} (E:Uv T)
variable {P:Program} {w:World} {Z:Nat→Prop} {ρ:Nat→Option (Nat×Nat×Nat)}
theorem Afb {α:Type} [BEq α] [LawfulBEq α] [DecidableEq α] (a b:α):(a == b)=decide (a=b):=by
 by_cases h:a=b <;> simp [h]
def evII (op:BinOp) (k:IntKind) (a:Int) (k':IntKind) (b:Int):Res T :=
 match op with
 | .shl=>some ([0≤b],.cv (.lit (.int k (k.wrap (a * 2 ^ (min b.toNat k.bits))))))
 | .shr=>some ([0≤b],.cv (.lit (.int k (a.fdiv (2 ^ (min b.toNat k.bits))))))
 | _=>match decEq k k' with
  | .isFalse _=>none
  | .isTrue _=>match op with
   | .add=>some ([],.cv (.lit (.int k (k.wrap (a+b)))))
   | .sub=>some ([],.cv (.lit (.int k (k.wrap (a - b)))))
   | .mul=>some ([],.cv (.lit (.int k (k.wrap (a * b)))))
   | .quo=>some ([b≠0],.cv (.lit (.int k (k.wrap (a.tdiv b)))))
   | .rem=>some ([b≠0],.cv (.lit (.int k (a.tmod b))))
   | .and=>some ([],.cv (.lit (.int k (k.wrap (BitVec.ofInt k.bits a &&& BitVec.ofInt k.bits b).toNat))))
   | .or=>some ([],.cv (.lit (.int k (k.wrap (BitVec.ofInt k.bits a ||| BitVec.ofInt k.bits b).toNat))))
   | .xor=>some ([],.cv (.lit (.int k (k.wrap (BitVec.ofInt k.bits a ^^^ BitVec.ofInt k.bits b).toNat))))
   | .andNot=>some ([],.cv (.lit (.int k (k.wrap (BitVec.ofInt k.bits a &&& ~~~ BitVec.ofInt k.bits b).toNat))))
   | .eql=>some ([],.cv (.lit (.bool (decide (a=b)))))
   | .neq=>some ([],.cv (.lit (.bool (decide (a≠b)))))
   | .lss=>some ([],.cv (.lit (.bool (decide (a < b)))))
   | .leq=>some ([],.cv (.lit (.bool (decide (a≤b)))))
   | .gtr=>some ([],.cv (.lit (.bool (decide (a > b)))))
   | .geq=>some ([],.cv (.lit (.bool (decide (a≥b)))))
   | _=>none
def evSS (op:BinOp) (a b:List UInt8):Res T :=
 match op with
 | .add=>some ([a.length+b.length≤9223372036854775807],.cv (.str (a++b)))
 | .eql=>some ([],.cv (.lit (.bool (decide (a=b)))))
 | .neq=>some ([],.cv (.lit (.bool (decide (a≠b)))))
 | .lss=>some ([],.cv (.lit (.bool (Op.bytesLess a b))))
 | .leq=>some ([],.cv (.lit (.bool (Op.bytesLess a b || decide (a=b)))))
 | .gtr=>some ([],.cv (.lit (.bool (!(Op.bytesLess a b || decide (a=b))))))
 | .geq=>some ([],.cv (.lit (.bool (!(Op.bytesLess a b)))))
 | _=>none
def evEq (P:Program) (t:TypeId):CV T→CV T→Option Bool
 | .lit (.bool a),.lit (.bool b)=>match P.underlying t with | some .bool=>some (a == b) | _=>none
 | .ptr _ _,.lit (.pointer none) | .lit (.pointer none),.ptr _ _=>match P.underlying t with | some (.pointer _)=>some false | _=>none
 | .pcs _ _,.lit (.pointer none) | .lit (.pointer none),.pcs _ _=>match P.underlying t with | some (.pointer _)=>some false | _=>none
 | .lit (.pointer none),.lit (.pointer none)=>match P.underlying t with | some (.pointer _)=>some true | _=>none
 | .fn _ _ _,.lit .nilFunc | .lit .nilFunc,.fn _ _ _=>match P.underlying t with | some (.func _ _ _)=>some false | _=>none
 | .lit .nilFunc,.lit .nilFunc=>match P.underlying t with | some (.func _ _ _)=>some true | _=>none
 | .lit (.slice none _ _),.lit (.slice none _ _)=>match P.underlying t with | some (.slice _)=>some true | _=>none
 | .ron _ _,.lit (.slice none _ _) | .lit (.slice none _ _),.ron _ _=>match P.underlying t with | some (.slice _)=>some false | _=>none
 | .ifc _ _ _,.lit .nilIface | .lit .nilIface,.ifc _ _ _=>match P.underlying t with | some (.interface _)=>some false | _=>none
 | _,_=>none
def eqC (P:Program) (t:TypeId):CV T→CV T→Option Bool
 | .lit (.int k a),.lit (.int k' b)=>match P.underlying t with | some (.int _)=>(if k=k' then some (decide (a=b)) else none) | _=>none
 | .str a,.str b=>match P.underlying t with | some .string=>some (decide (a=b)) | _=>none
 | .lit (.bool a),.lit (.bool b)=>match P.underlying t with | some .bool=>some (a == b) | _=>none
 | _,_=>none
def eqCs (P:Program):List Field→List (CV T)→List (CV T)→Option Bool
 | [],_,_=>some true
 | f :: fs,cs,ds=>match cs[f.offset]?,ds[f.offset]? with
  | some c,some d=>match eqC P f.type c d with
   | some b=>match eqCs P fs cs ds with
    | some r=>bif f.name == "_" then none else some (b && r)
    | none=>none
   | none=>none
  | _,_=>none
def Af8 (P:Program) (t:TypeId) (cs ds:List (CV T)):Option Bool :=
 match P.underlying t with
 | some (.struct fs)=>bif P.stoodInHeld t || P.eqGuardType P.depth t then none else eqCs P fs.toList cs ds
 | _=>none
def Ae5 (P:Program) (op:BinOp) (t:TypeId):AV T→AV T→Res T
 | .agg cs,.agg ds=>match Af8 P t cs ds with
  | some e=>match op with
   | .eql=>some ([],.cv (.lit (.bool e)))
   | .neq=>some ([],.cv (.lit (.bool (!e))))
   | _=>none
  | none=>none
 | .cv (.lit (.int k a)),.cv (.lit (.int k' b))=>evII op k a k' b
 | .cv (.str a),.cv (.str b)=>evSS op a b
 | .cv a,.cv b=>match evEq P t a b with
  | some e=>match op with
   | .eql=>some ([],.cv (.lit (.bool e)))
   | .neq=>some ([],.cv (.lit (.bool (!e))))
   | _=>none
  | none=>none
 | _,_=>none
theorem Vb {k:IntKind} {n:Int}:RA E w Z ρ (.cv (.lit (.int k n))) (.int k n):=.cv (.pure (.lit rfl))
theorem Vf {b:Bool}:RA E w Z ρ (.cv (.lit (.bool b))) (.bool b):=.cv (.pure (.lit rfl))
theorem Ua {v u:Value} (h:RA E w Z ρ (.cv (.lit v)) u):u=v:=by
 cases h with | cv h =>
 cases h with | pure h =>
 cases h; rfl
theorem Uu {l:List UInt8} {u:Value} (h:RA E w Z ρ (.cv (.str l)) u):u=.string ⟨l.toArray⟩:=by
 cases h with | cv h =>
 cases h with | pure h =>
 cases h; rfl
theorem Adn {op:BinOp} {k k':IntKind} {a b:Int} {t:TypeId} {cs:List Prop} {r:AV T} (h:evII op k a k' b=some (cs,r)) (hcs:Us cs) :
  ∃ u,(binOp op t (.int k a) (.int k' b)).run P w=.ok u w∧RA E w Z ρ r u:=by
 unfold evII at h;split at h
 ·cases h;have hb:¬ b < 0:=by have:0≤b:=hcs; omega
  exact ⟨_,by simp [binOp,Op.shift,hb],Vb E⟩
 ·cases h;have hb:¬ b < 0:=by have:0≤b:=hcs; omega
  exact ⟨_,by simp [binOp,Op.shift,hb],Vb E⟩
 ·split at h
  ·cases h
  ·rename_i hn1 hn2 _ hk _;subst hk;have hq:∀ (c:Int),c≠0↔¬ c=0:=fun c=>Iff.rfl
   cases op <;> simp only at h
   all_goals first |(cases h; done) |(exact absurd rfl hn1) |(exact absurd rfl hn2) | skip
   all_goals cases h
   all_goals first | refine ⟨_,?_,Vb E⟩ | refine ⟨_,?_,Vf E⟩
   all_goals simp only [binOp,ne_eq,not_true_eq_false,if_false,Op.intArith,Op.intBits,Op.intDiv,Op.intCmp]
   all_goals first
    | rfl
    |(rw [if_neg (show ¬ b=0 from hcs)]; rfl)
    |(simp [Afb,bne]; done)
    |(simp [Afb,bne]; rfl)
theorem Adw {op:BinOp} {a b:List UInt8} {t:TypeId} {cs:List Prop} {r:AV T} (h:evSS op a b=some (cs,r)) (hcs:Us cs) :
  ∃ u,(binOp op t (.string ⟨a.toArray⟩) (.string ⟨b.toArray⟩)).run P w=.ok u w∧RA E w Z ρ r u:=by
 unfold evSS at h;split at h
 ·cases h;have hl:a.length+b.length≤9223372036854775807:=hcs;refine ⟨.string ⟨(a++b).toArray⟩,?_,.cv (.pure (.str _))⟩;have hs:¬ (((ByteArray.mk a.toArray).size+(ByteArray.mk b.toArray).size:Nat):Int) > IntKind.i64.max:=by
   simp only [ByteArray.size,List.size_toArray]
   have:IntKind.i64.max=9223372036854775807:=by decide
   omega
  have he:(ByteArray.mk a.toArray)++(ByteArray.mk b.toArray)=⟨(a++b).toArray⟩:=by
   apply ByteArray.ext;simp
  simp only [binOp,Op.stringOp,if_neg hs,he];rfl
 all_goals first
  | (cases h
     refine ⟨_,?_,Vf E⟩;simp [binOp,Op.stringOp,Afb])
  | cases h
theorem Abq {id off:Nat} {u:Value} (h:RA E w Z ρ (.cv (.ptr id off)) u):∃ b,u=.pointer (some ⟨b,off,none⟩):=by
 cases h with | cv h =>
 cases h with
 | pure h=>cases h
 | ptr h=>exact ⟨_,rfl⟩
theorem Aef {cs:List (CV T)} {off:Nat} {u:Value} (h:RA E w Z ρ (.cv (.pcs cs off)) u):∃ p:Addr,u=.pointer (some p):=by
 cases h with | cv h =>
 cases h with
 | pure h=>cases h with | pcs=>exact ⟨_,rfl⟩
 | pcs=>exact ⟨_,rfl⟩
theorem Ad2 {f:Fn} {x y:List (CV T)} {u:Value} (h:RA E w Z ρ (.cv (.fn f x y)) u):∃ a b,u=.func f a b:=by
 cases h with | cv h =>
 cases h with
 | pure h=>cases h
 | fn=>exact ⟨_,_,rfl⟩
theorem Acd {t:TypeId} {b:Bool} {x:List (CV T)} {u:Value} (h:RA E w Z ρ (.cv (.ifc t b x)) u):∃ a,u=.iface t a:=by
 cases h with | cv h =>
 cases h with
 | pure h=>cases h
 | ifc1=>exact ⟨_,rfl⟩
 | ifca=>exact ⟨_,rfl⟩
theorem Aeb {t:Tag} {xs:List (T t)} {v:Value} (h:RA E w Z ρ (.cv (.ron t xs)) v):∃ p:Addr×Nat×Nat,v=.slice (some p.1) p.2.1 p.2.2:=by
 cases h with | cv h =>
 cases h with
 | pure h=>cases h
 | @ron _ _ a n cap h=>exact ⟨(a,n,cap),rfl⟩
theorem Ad0 {t:TypeId} {x y:CV T} {e:Bool} {u v:Value} (h:evEq P t x y=some e) (hx:RA E w Z ρ (.cv x) u) (hy:RA E w Z ρ (.cv y) v) :
  (Op.equal t u v).run P w=.ok e w∧(∀ k a,u≠.int k a)∧(∀ a,u≠.string a)∧¬ (u=.nilIface∧v=.nilIface)∧(∀ cs,u≠.agg cs)∧(∀ k a,v≠.int k a)∧(∀ a,v≠.string a)∧(∀ k a,u≠.float k a)∧(∀ k a b,u≠.complex k a b):=by
 unfold evEq at h;split at h
 all_goals try (cases h; done)
 all_goals split at h
 all_goals try (cases h; done)
 all_goals rename_i hu
 all_goals cases h
 all_goals first | have ex:=Ua E hx |(obtain ⟨_,ex⟩:=Abq E hx) |(obtain ⟨_,_,ex⟩:=Ad2 E hx) |(obtain ⟨_,ex⟩:=Acd E hx) |(obtain ⟨_,ex⟩:=Aeb E hx) |(obtain ⟨_,ex⟩:=Aef E hx)
 all_goals first | have ey:=Ua E hy |(obtain ⟨_,ey⟩:=Abq E hy) |(obtain ⟨_,_,ey⟩:=Ad2 E hy) |(obtain ⟨_,ey⟩:=Acd E hy) |(obtain ⟨_,ey⟩:=Aeb E hy) |(obtain ⟨_,ey⟩:=Aef E hy)
 all_goals subst ex
 all_goals subst ey
 all_goals refine ⟨?_,by simp,by simp,by simp,by simp,by simp,by simp,by simp,by simp⟩
 all_goals unfold Op.equal Op.maxDepth Op.equalIn
 all_goals simp [Sem.run_bind,run_underlying hu,Result.andThen]
theorem Adl {op:BinOp} {t:TypeId} {xo yo:Operand} {u v:Value} (hn:¬ (u=.nilIface∧v=.nilIface)) (ha:∀ cs,u≠.agg cs):(eqGuard op t xo yo u v).run P w=.ok () w:=by
 cases u with
 | nilIface=>cases v with
  | nilIface=>exact absurd ⟨rfl,rfl⟩ hn
  | _=>cases op <;> rfl
 | agg cs=>exact absurd rfl (ha _)
 | _=>cases op <;> rfl
theorem Aem {d:Nat} {t:TypeId} {x y:CV T} {e:Bool} {u v:Value} (h:eqC P t x y=some e) (hx:RC E w Z ρ x u) (hy:RC E w Z ρ y v) :
  (Op.equalIn (d+1) t u v).run P w=.ok e w∧(isAgg t).run P w=.ok false w:=by
 unfold eqC at h;split at h
 ·split at h
  ·rename_i q hu;split at h
   ·rename_i hk;cases h;subst hk;have e1:=Ua E (.cv hx);have e2:=Ua E (.cv hy);subst e1; subst e2;refine ⟨?_,Vp hu w⟩;unfold Op.equalIn;simp [Sem.run_bind,run_underlying hu,Result.andThen,Afb]
   ·cases h
  ·cases h
 ·split at h
  ·rename_i hu;cases h;have e1:=Uu E (.cv hx);have e2:=Uu E (.cv hy);subst e1; subst e2;refine ⟨?_,Vp hu w⟩;rw [run_equalIn_string w d t _ _ hu,Afb];simp [ByteArray.toList_eq]
  ·cases h
 ·split at h
  ·rename_i hu;cases h;have e1:=Ua E (.cv hx);have e2:=Ua E (.cv hy);subst e1; subst e2;refine ⟨?_,Vp hu w⟩;unfold Op.equalIn;simp [Sem.run_bind,run_underlying hu,Result.andThen]
  ·cases h
 ·cases h
theorem Zx {d:Nat} {xs ys:Array Value} {cs ds:List (CV T)} (hx:∀ (i:Nat) c v,cs[i]? = some c→xs[i]? = some v→RC E w Z ρ c v) (hy:∀ (i:Nat) c v,ds[i]? = some c→ys[i]? = some v→RC E w Z ρ c v)
  (hxs:xs.size=cs.length) (hys:ys.size=ds.length):∀ (fs:List Field) (e:Bool),eqCs P fs cs ds=some e→(Op.eqFields (d+1) xs ys fs).run P w=.ok e w
 | [],e,h=>by cases h; simp [Op.eqFields]
 | f :: fs,e,h=>by
  unfold eqCs at h;split at h
  ·rename_i c d0 hc hd;split at h
   ·rename_i b hb;split at h
    ·rename_i r hr
     cases hn:(f.name == "_") with
     | true=>rw [hn] at h; cases h
     | false =>
      rw [hn] at h;cases h
      have hn':f.name≠ "_" :=by simpa using hn
      have h1:f.offset < xs.size:=by rw [hxs]; exact (List.getElem?_eq_some_iff.1 hc).1
      have h2:f.offset < ys.size:=by rw [hys]; exact (List.getElem?_eq_some_iff.1 hd).1
      obtain ⟨g1,g2⟩:=Aem E (P:=P) (w:=w) (d:=d) hb (hx _ _ xs[f.offset] hc (by simp [h1])) (hy _ _ ys[f.offset] hd (by simp [h2]));have p1:(part f.type xs f.offset).run P w=.ok xs[f.offset] w:=by unfold part; rw [Sem.run_bind,g2]; simp [Result.andThen,h1]
      have p2:(part f.type ys f.offset).run P w=.ok ys[f.offset] w:=by unfold part; rw [Sem.run_bind,g2]; simp [Result.andThen,h2]
      have ih:=Zx (d:=d) hx hy hxs hys fs r hr;simp only [Op.eqFields,hn',ne_eq,not_false_eq_true,if_true,Sem.run_bind,p1,p2,g1,Result.andThen_ok];cases b
      ·simp
      ·simpa using ih
    ·cases h
   ·cases h
  ·cases h
theorem Aco {op:BinOp} {t:TypeId} {x y r:AV T} {cs:List Prop} {u v:Value} {xo yo:Operand} (h:Ae5 P op t x y=some (cs,r)) (hx:RA E w Z ρ x u) (hy:RA E w Z ρ y v) (hcs:Us cs) :
  ∃ r',(do eqGuard op t xo yo u v; binOp op t u v:Sem Value).run P w=.ok r' w∧RA E w Z ρ r r':=by
 unfold Ae5 at h;split at h
 ·rename_i xs ys;split at h
  ·rename_i e he;unfold Af8 at he;split at he
   ·rename_i fs hu;cases hst:(P.stoodInHeld t || P.eqGuardType P.depth t) with
    | true=>rw [hst] at he; cases he
    | false =>
     rw [hst] at he;simp only [cond_false] at he;rw [Bool.or_eq_false_iff] at hst;cases hx with | agg hx1 hx2 =>
     cases hy with | agg hy1 hy2 =>
     rename_i us vs;have hfs:P.fieldsOf t=fs:=by simp [Program.fieldsOf,hu]
     have hq:(Op.equal t (.agg us) (.agg vs)).run P w=.ok e w:=by
      unfold Op.equal Op.maxDepth;rw [run_equalIn_struct w 9999 t us vs (by rw [hfs]; exact hu) hst.1,hfs];exact Zx E hx2 hy2 hx1 hy1 fs.toList e he
     have hg:(eqGuard op t xo yo (.agg us) (.agg vs)).run P w=.ok () w:=by
      unfold eqGuard;cases op <;> simp [Sem.run_bind,Result.andThen,hst.2]
     rw [Sem.run_bind,hg];simp only [Result.andThen];split at h
     ·cases h; exact ⟨.bool e,by unfold binOp; simp [Sem.run_bind,hq,Result.andThen],Vf E⟩
     ·cases h; exact ⟨.bool (!e),by unfold binOp; simp [Sem.run_bind,hq,Result.andThen],Vf E⟩
     ·cases h
   ·cases he
  ·cases h
 ·have e1:=Ua E hx;have e2:=Ua E hy;subst e1; subst e2;obtain ⟨r',h1,h2⟩:=Adn E (P:=P) (w:=w) (Z:=Z) (ρ:=ρ) (t:=t) h hcs;refine ⟨r',?_,h2⟩;have hg:∀ (k a k' b),(eqGuard op t xo yo (.int k a) (.int k' b)).run P w=.ok () w:=by
   intro k a k' b; unfold eqGuard; split <;> simp
  rw [Sem.run_bind,hg];exact h1
 ·have e1:=Uu E hx;have e2:=Uu E hy;subst e1; subst e2;obtain ⟨r',h1,h2⟩:=Adw E (P:=P) (w:=w) (Z:=Z) (ρ:=ρ) (t:=t) h hcs;refine ⟨r',?_,h2⟩;have hg:∀ (a b),(eqGuard op t xo yo (.string a) (.string b)).run P w=.ok () w:=by
   intro a b; unfold eqGuard; split <;> simp
  rw [Sem.run_bind,hg];exact h1
 ·split at h
  ·rename_i e he;obtain ⟨h1,h2,h3,h4,h5,h6,h7,h8,h9⟩:=Ad0 E he hx hy;have hg:=Adl (P:=P) (w:=w) (op:=op) (t:=t) (xo:=xo) (yo:=yo) h4 h5;rw [Sem.run_bind,hg];simp only [Result.andThen];split at h
   ·cases h;refine ⟨.bool e,?_,Vf E⟩;unfold binOp;split <;> first
     |(rename_i hh _; cases hh; done)
     |(exact absurd rfl (h2 _ _))
     |(exact absurd rfl (h3 _))
     |(exact absurd rfl (h8 _ _))
     |(exact absurd rfl (h9 _ _ _))
     |(simp_all [Sem.run_bind,Result.andThen]; done)
     | skip
   ·cases h;refine ⟨.bool (!e),?_,Vf E⟩;unfold binOp;split <;> first
     |(exact absurd rfl (h2 _ _))
     |(exact absurd rfl (h3 _))
     |(exact absurd rfl (h8 _ _))
     |(exact absurd rfl (h9 _ _ _))
     |(simp_all [Sem.run_bind,Result.andThen]; done)
     | skip
   ·cases h
  ·cases h
 ·cases h
end
end Go.Proofs.YtdgejpgbppfhmaaGreatDoor.Eng
namespace Go.Proofs.YtdgejpgbppfhmaaGreatDoor.Eng
open Go.RowKit (Below)
open Go.MapKept
def V7 {α:Type} (k:List UInt8):List (List UInt8×α)→Option α
 | []=>none
 | p :: r=>if p.1=k then some p.2 else V7 k r
def Xp {α:Type} (k:List UInt8) (l:List (List UInt8×α)):List (List UInt8×α):=l.filter fun p=>!decide (p.1=k)
def mins {α:Type} (p:List UInt8×α):List (List UInt8×α)→List (List UInt8×α)
 | []=>[p]
 | q :: r=>if Op.bytesLess p.1 q.1=true then p :: q :: r else q :: mins p r
def Aek {α:Type} (k:List UInt8) (v:α) (l:List (List UInt8×α)):List (List UInt8×α):=mins (k,v) (Xp k l)
theorem Xm {α:Type} (p:List UInt8×α):∀ l:List (List UInt8×α),(mins p l).Perm (p :: l)
 | []=>.refl _
 | q :: r=>by
  unfold mins;split
  ·exact .refl _
  ·exact ((Xm p r).cons q).trans (.swap p q r)
theorem Z4 {α:Type} (k:List UInt8) {l:List (List UInt8×α)} (h:(l.map (·.1)).Nodup):((Xp k l).map (·.1)).Nodup:=((List.filter_sublist (p:=fun p:List UInt8×α=>!decide (p.1=k)) (l:=l)).map _).nodup h
theorem Zt {α:Type} (k:List UInt8) (v:α) {l:List (List UInt8×α)} (h:(l.map (·.1)).Nodup):((Aek k v l).map (·.1)).Nodup:=by
 have hp:((Aek k v l).map (·.1)).Perm (k ::(Xp k l).map (·.1)):=(Xm (k,v) (Xp k l)).map _;refine hp.nodup_iff.2 (List.nodup_cons.2 ⟨fun hm=>?_,Z4 k h⟩);obtain ⟨p,h1,h2⟩:=List.mem_map.1 hm;unfold Xp at h1
 have:=(List.mem_filter.1 h1).2
 simp [h2] at this
theorem Abe {α:Type} {k:List UInt8} {v:α}:∀ {l:List (List UInt8×α)},(l.map (·.1)).Nodup→(k,v)∈l→V7 k l=some v
 | p :: r,hn,hm=>by
  have hn':p.1 ∉ r.map (·.1)∧(r.map (·.1)).Nodup:=List.nodup_cons.1 hn;unfold V7;rcases List.mem_cons.1 hm with rfl | hm
  ·simp
  ·rw [if_neg (fun e=>hn'.1 (by rw [e]; exact List.mem_map.2 ⟨_,hm,rfl⟩))];exact Abe hn'.2 hm
theorem Zw {α:Type} {k:List UInt8}:∀ {l:List (List UInt8×α)},(∀ p∈l,p.1≠k)→V7 k l=none
 | [],_=>rfl
 | p :: r,h=>by
  unfold V7;rw [if_neg (h p (.head _))];exact Zw fun q hq=>h q (.tail _ hq)
section
variable {Tag:Type} {T:Tag→Type} (E:Uv T)
variable {P:Program} {w:World} {Z:Nat→Prop} {ρ:Nat→Option (Nat×Nat×Nat)}
def Ae9 (t:Tag) (x:T t):AV T:=bif E.isAgg t then .agg (E.k t x) else (match E.k t x with | [c]=>.cv c | _=>.any)
theorem Abx {t:Tag} {x:T t} {v:Value} (h:VR E w Z t x v):RA E w Z ρ (Ae9 E t x) v:=by
 unfold Ae9;rcases h with ⟨ha,us,rfl,hs,hr⟩ |⟨ha,c,hk,hr⟩
 ·rw [ha];exact .agg (by rw [hs,E.klen]) fun i c u hc hu=>.pure (hr i c u hc hu)
 ·rw [ha,hk];exact .cv (.pure hr)
def zc:Value→CV T→Bool
 | .int k n,.lit (.int k' n')=>decide (k=k') && decide (n=n')
 | .bool b,.lit (.bool b')=>b == b'
 | .string s,.str l=>decide (s.data.toList=l)
 | .slice none 0 0,.ro _ xs=>xs.isEmpty
 | .slice none 0 0,.lit (.slice none 0 0)=>true
 | .pointer none,.lit (.pointer none)=>true
 | .map none,.lit (.map none)=>true
 | .nilFunc,.lit .nilFunc=>true
 | .nilIface,.lit .nilIface=>true
 | _,_=>false
theorem Acv {v:Value} {c:CV T} (h:zc v c=true):PR E w Z c v:=by
 unfold zc at h;split at h
 ·simp only [Bool.and_eq_true,decide_eq_true_eq] at h; obtain ⟨rfl,rfl⟩:=h; exact .lit rfl
 ·rw [beq_iff_eq] at h; subst h; exact .lit rfl
 ·rename_i s l;rw [decide_eq_true_eq] at h;subst h;exact .str s.data.toList
 ·rename_i xs
  have:xs=[]:=List.isEmpty_iff.1 h
  subst this;exact .ronil _ _ _
 ·exact .lit rfl
 ·exact .lit rfl
 ·exact .lit rfl
 ·exact .lit rfl
 ·exact .lit rfl
 ·cases h
def zcL:List Value→List (CV T)→Bool
 | [],[]=>true
 | v :: vs,c :: cs=>zc v c && zcL vs cs
 | _,_=>false
theorem Aba:∀ {vs:List Value} {cs:List (CV T)},zcL vs cs=true→vs.length=cs.length∧∀ (j:Nat) c u,cs[j]? = some c→vs[j]? = some u→PR E w Z c u
 | [],[],_=>⟨rfl,fun j c u hc=>by simp at hc⟩
 | v :: vs,c :: cs,h=>by
  simp only [zcL,Bool.and_eq_true] at h;obtain ⟨h1,h2⟩:=Aba h.2;refine ⟨by simp [h1],fun j d u hd hu=>?_⟩;cases j with
  | zero=>simp at hd hu; subst hd; subst hu; exact Acv E h.1
  | succ j=>exact h2 j d u (by simpa using hd) (by simpa using hu)
 | [],_ :: _,h=>by cases h
 | _ :: _,[],h=>by cases h
def Z9 (P:Program) (e:TypeId) (t:Tag) (x:T t):Bool :=
 match P.info? e with
 | some i=>match i.zero with
  | some (.agg us)=>E.isAgg t && (Nat.beq us.size (E.sz t) && zcL us.toList (E.k t x))
  | some z=>!E.isAgg t && (match E.k t x with | [c]=>zc z c | _=>false)
  | none=>false
 | none=>false
theorem Abn {e:TypeId} {t:Tag} {x:T t} (h:Z9 E P e t x=true):∃ z,(zeroValue e).run P w=.ok z w∧VR E w Z t x z:=by
 unfold Z9 at h;split at h
 ·rename_i i hi;have hrun:∀ z,i.zero=some z→(zeroValue e).run P w=.ok z w:=fun z hz=>by simp [zeroValue,typeInfo,hi,hz]
  split at h
  ·rename_i us hz;simp only [Bool.and_eq_true] at h;obtain ⟨h1,h2,h3⟩:=h;obtain ⟨g1,g2⟩:=Aba E (w:=w) (Z:=Z) h3;exact ⟨_,hrun _ hz,.inl ⟨h1,us,rfl,Nat.eq_of_beq_eq_true h2,fun j c u hc hu=>g2 j c u hc (by simpa using hu)⟩⟩
  ·rename_i z _ hz;simp only [Bool.and_eq_true,Bool.not_eq_true'] at h;obtain ⟨h1,h2⟩:=h;split at h2
   ·rename_i c hc;exact ⟨_,hrun _ hz,.inr ⟨h1,c,hc,Acv E h2⟩⟩
   ·cases h2
  ·cases h
 ·cases h
theorem Adg {a b:List UInt8} (h:Value.string ⟨a.toArray⟩=Value.string ⟨b.toArray⟩):a=b:=by
 cases h; rfl
theorem MR.found {t:Tag} {es:List (List UInt8×T t)} {arr:Array MapEntry} {clock:Nat} (h:MR E w Z t es arr clock) (k:List UInt8) :
  (Instr.findNow .string (.string ⟨k.toArray⟩) arr.toList 0=some none∧V7 k es=none∧∀ e∈arr.toList,e.key≠.string ⟨k.toArray⟩) ∨
  ∃ j e x,Instr.findNow .string (.string ⟨k.toArray⟩) arr.toList 0=some (some (j,e.val))∧arr[j]? = some e∧e.key=.string ⟨k.toArray⟩∧V7 k es=some x∧VR E w Z t x e.val:=by
 obtain ⟨h1,h2,h3,f,h4,h5⟩:=h;rcases findNow_spec (d:=.string) (k:=.string ⟨k.toArray⟩) trivial arr.toList 0 (fun x hx=>by rw [(h5 x hx).1]; trivial) with ⟨g1,g2⟩ |⟨j,e,g1,g2,g3⟩
 ·refine .inl ⟨g1,Zw fun p hp hk=>?_,g2⟩;obtain ⟨e,he,rfl⟩:=List.mem_map.1 (h4.mem_iff.2 hp);exact g2 e he (by rw [(h5 e he).1,hk])
 ·have he:e∈arr.toList:=List.mem_of_getElem? g2;refine .inr ⟨j,e,(f e).2,by simpa using g1,by simpa using g2,g3,Abe h2 (h4.mem_iff.1 (List.mem_map.2 ⟨e,he,?_⟩)),(h5 e he).2⟩
  have:(f e).1=k:=Adg (by rw [← (h5 e he).1,g3])
  rw [← this]
theorem Adp {t:Tag} {es:List (List UInt8×T t)} {arr:Array MapEntry} {clock b:Nat} {mt kt e:TypeId} (hm:P.underlying mt=some (.map kt e)) (hk:P.underlying kt=some .string)
  (hz:Z9 E P e t (E.dflt t)=true) (hb:w.heap[b]? = some (.map arr clock)) (h:MR E w Z t es arr clock) (k:List UInt8) (ok:Bool) :
  ∃ v,(Instr.lookup mt (.map (some b)) (.string ⟨k.toArray⟩) ok).run P w=.ok (if ok then .tuple #[v,.bool (V7 k es).isSome] else v) w∧VR E w Z t ((V7 k es).getD (E.dflt t)) v:=by
 have hc:(Instr.checkKey arr.isEmpty 10000 kt (.string ⟨k.toArray⟩)).run P w=.ok () w:=run_checkKey hk (d:=.string) (k:=.string ⟨k.toArray⟩) trivial _ 9999;rcases h.found E k with ⟨g1,g2,_⟩ |⟨j,x,y,g1,g2,g3,g4,g5⟩
 ·obtain ⟨z,e1,e2⟩:=Abn E (w:=w) (Z:=Z) hz;refine ⟨z,?_,by rw [g2]; exact e2⟩;simp only [Instr.lookup,Sem.run_bind,run_underlying hm,Result.andThen,MapKept.run_getObj_map hb,Sem.run_pure,hc,run_findKey hk g1,e1,g2];cases ok <;> rfl
 ·refine ⟨x.val,?_,by rw [g4]; exact g5⟩;simp only [Instr.lookup,Sem.run_bind,run_underlying hm,Result.andThen,MapKept.run_getObj_map hb,Sem.run_pure,hc,run_findKey hk g1,g4];cases ok <;> rfl
theorem Acr (w:World) (b:Nat) (o:Obj):w.grownBy { w with heap:=w.heap.setIfInBounds b o } (some b) :=
 ⟨rfl,rfl,rfl,by simp,fun i hi hne=>by
  have:b≠i:=fun e=>hne (by rw [e])
  simp [this]⟩
theorem Wd {α:Type}:∀ (l:List α) (j:Nat) (x:α),l[j]? = some x→l.Perm (x :: l.eraseIdx j)
 | [],j,x,h=>by simp at h
 | y :: l,0,x,h=>by simp at h; subst h; exact .refl _
 | y :: l,j+1,x,h=>by
  simp only [List.getElem?_cons_succ] at h;simp only [List.eraseIdx_cons_succ];exact ((Wd l j x h).cons y).trans (.swap x y _)
theorem Abc {α:Type} {k:List UInt8} {x:List UInt8×α} {es r:List (List UInt8×α)} (hn:(es.map (·.1)).Nodup) (hp:es.Perm (x :: r)) (hk:x.1=k):(Xp k es).Perm r:=by
 have h1:(Xp k es).Perm (Xp k (x :: r)):=hp.filter _;have hn':x.1 ∉ r.map (·.1)∧(r.map (·.1)).Nodup:=by
  have:=(hp.map (·.1)).nodup_iff.1 hn
  exact List.nodup_cons.1 this
 have h2:Xp k (x :: r)=r:=by
  unfold Xp;rw [List.filter_cons,if_neg (by simp [hk]),List.filter_eq_self.2];intro p hp'
  have:p.1≠k:=fun e=>hn'.1 (by rw [hk,← e]; exact List.mem_map.2 ⟨p,hp',rfl⟩)
  simp [this]
 rw [h2] at h1;exact h1
theorem Ys {α:Type} {k:List UInt8} {es:List (List UInt8×α)} (h:V7 k es=none):Xp k es=es:=by
 unfold Xp;rw [List.filter_eq_self];intro p hp
 have:p.1≠k:=by
  intro e
  induction es with
  | nil=>cases hp
  | cons q r ih =>
   unfold V7 at h;split at h
   ·cases h
   ·rename_i hne;rcases List.mem_cons.1 hp with rfl | hp
    ·exact hne e
    ·exact ih h hp
 simp [this]
theorem Adi {t:Tag} {es:List (List UInt8×T t)} {arr:Array MapEntry} {clock b:Nat} {mt kt e ty:TypeId} (hm:P.underlying mt=some (.map kt e)) (hk:P.underlying kt=some .string)
  (hb:w.heap[b]? = some (.map arr clock)) (h:MR E w Z t es arr clock) (k:List UInt8) :
  ∃ arr',(Builtin.delete_ #[mt,kt] ty #[.map (some b),.string ⟨k.toArray⟩]).run P w=.ok (.tuple #[]) { w with heap:=w.heap.setIfInBounds b (.map arr' clock) }∧MR E w Z t (Xp k es) arr' clock:=by
 have hc:∀ q,(Instr.checkKey q 10000 kt (.string ⟨k.toArray⟩)).run P w=.ok () w:=fun q=>run_checkKey hk (d:=.string) (k:=.string ⟨k.toArray⟩) trivial _ 9999
 rcases h.found E k with ⟨g1,g2,_⟩ |⟨j,x,y,g1,g2,g3,g4,g5⟩
 ·refine ⟨arr,?_,by rw [Ys g2]; exact h⟩;simp [Builtin.delete_,run_underlying hm,MapKept.run_getObj_map hb,hc,run_findKey hk g1,run_setObj_map _ hb,Result.andThen]
 ·refine ⟨arr.eraseIdxIfInBounds j,?_,?_⟩
  ·simp [Builtin.delete_,run_underlying hm,MapKept.run_getObj_map hb,hc,run_findKey hk g1,run_setObj_map _ hb,Result.andThen]
  ·obtain ⟨⟨h1,h1'⟩,h2,h3,f,h4,h5⟩:=h;have hj:j < arr.size:=(Array.getElem?_eq_some_iff.1 g2).1;have hl:(arr.eraseIdxIfInBounds j).toList=arr.toList.eraseIdx j:=by
    unfold Array.eraseIdxIfInBounds;rw [dif_pos hj];simp
   have hs:(arr.toList.eraseIdx j).Sublist arr.toList:=List.eraseIdx_sublist _ _;have hx:arr.toList[j]? = some x:=by simpa using g2
   refine ⟨⟨by rw [hl]; exact (hs.map _).nodup h1,fun e he=>h1' e (hs.subset (by rw [← hl]; exact he))⟩,Z4 k h2,h3,f,?_,fun e he=>h5 e (hs.subset (by rw [← hl]; exact he))⟩;rw [hl];have hp:=(Wd _ _ _ hx).map f;have hfx:(f x).1=k:=Adg (by rw [← (h5 x (List.mem_of_getElem? hx)).1,g3]);exact (Abc h2 (h4.symm.trans hp) hfx).symm
theorem Aew {α:Type} {l:List α} (h:l.Nodup) {i j:Nat} (hi:i < l.length) (hj:j < l.length) (e:l[i]=l[j]):i=j:=by
 rcases Nat.lt_trichotomy i j with hlt | heq | hgt
 ·exact absurd e (List.pairwise_iff_getElem.1 h i j hi hj hlt)
 ·exact heq
 ·exact absurd e.symm (List.pairwise_iff_getElem.1 h j i hj hi hgt)
theorem Aar {t:Tag} {es:List (List UInt8×T t)} {arr:Array MapEntry} {clock b:Nat} {mt kt e:TypeId} (hm:P.underlying mt=some (.map kt e)) (hk:P.underlying kt=some .string)
  (hb:w.heap[b]? = some (.map arr clock)) (h:MR E w Z t es arr clock) (k:List UInt8) {y:T t} {v:Value} (hv:VR E w Z t y v) :
  ∃ arr' clock',(Instr.mapUpdate mt (.map (some b)) (.string ⟨k.toArray⟩) v).run P w=.ok () { w with heap:=w.heap.setIfInBounds b (.map arr' clock') }∧MR E w Z t (Aek k y es) arr' clock':=by
 have hc:(Instr.checkKey false 10000 kt (.string ⟨k.toArray⟩)).run P w=.ok () w:=run_checkKey hk (d:=.string) (k:=.string ⟨k.toArray⟩) trivial _ 9999;have h0:=h;obtain ⟨⟨h1,h1'⟩,h2,h3,f,h4,h5⟩:=h0;rcases h.found E k with ⟨g1,g2,g3⟩ |⟨j,x,z,g1,g2,g3,g4,g5⟩
 ·refine ⟨arr.push { key:=.string ⟨k.toArray⟩,val:=v,born:=clock },clock+1,?_,?_⟩
  ·simp [Instr.mapUpdate,run_underlying hm,MapKept.run_getObj_map hb,hc,run_findKey hk g1,run_setObj_map _ hb,Result.andThen]
  ·refine ⟨⟨?_,fun e he=>?_⟩,Zt k y h2,h3,fun e=>if e.born=clock then (k,y) else f e,?_,fun e he=>?_⟩
   ·rw [Array.toList_push,List.map_append];refine List.nodup_append.2 ⟨h1,by simp,fun a ha b' hb' e=>?_⟩;obtain ⟨e0,he0,rfl⟩:=List.mem_map.1 ha;simp at hb'
    have:=h1' e0 he0
    omega
   ·rw [Array.toList_push,List.mem_append] at he;rcases he with he | he
    ·have:=h1' e he; omega
    ·simp at he; subst he; simp
   ·rw [Array.toList_push,List.map_append];have hmap:arr.toList.map (fun e=>if e.born=clock then (k,y) else f e)=arr.toList.map f:=List.map_congr_left fun e he=>by
     have:=h1' e he
     rw [if_neg (by omega)]
    rw [hmap];have hp:(Aek k y es).Perm ((k,y) :: es):=by
     have:=Xm (k,y) (Xp k es)
     rw [Ys g2] at this;unfold Aek;rw [Ys g2];exact this
    refine (List.perm_append_comm.trans ?_).trans hp.symm;simp only [List.map_cons,List.map_nil,if_true,List.singleton_append];exact h4.cons _
   ·rw [Array.toList_push,List.mem_append] at he;rcases he with he | he
    ·have:=h1' e he
     show ER E w Z t (if e.born=clock then (k,y) else f e) e;rw [if_neg (by omega)];exact h5 e he
    ·simp at he; subst he;simp only [if_true];exact ⟨rfl,hv⟩
 ·have hj:j < arr.size:=(Array.getElem?_eq_some_iff.1 g2).1;have hx:arr.toList[j]? = some x:=by simpa using g2
  refine ⟨arr.modify j fun e=>{ e with key:=.string ⟨k.toArray⟩,val:=v },clock,?_,?_⟩
  ·simp [Instr.mapUpdate,run_underlying hm,MapKept.run_getObj_map hb,hc,run_findKey hk g1,g2,g3,run_keyThatStays (d:=.string) (k:=.string ⟨k.toArray⟩) trivial,run_setObj_map _ hb,Result.andThen]
  ·have hl:(arr.modify j fun e=>{ e with key:=Value.string ⟨k.toArray⟩,val:=v }).toList=arr.toList.set j { x with key:=.string ⟨k.toArray⟩,val:=v }:=by
    apply List.ext_getElem?;intro i;rw [Array.getElem?_toList,Array.getElem?_modify,List.getElem?_set];by_cases hij:j=i
    ·subst hij;have hx2:arr[j]=x:=by rw [Array.getElem?_eq_getElem hj] at g2; exact Option.some.inj g2
     simp [hj,hx2]
    ·simp [hij]
   have hb1:(arr.toList.set j { x with key:=Value.string ⟨k.toArray⟩,val:=v }).map (·.born)=arr.toList.map (·.born):=by
    rw [List.map_set];apply List.ext_getElem?;intro i;rw [List.getElem?_set];by_cases hij:j=i
    ·subst hij;have hx2:arr[j]=x:=by rw [Array.getElem?_eq_getElem hj] at g2; exact Option.some.inj g2
     simp [hj,hx2]
    ·simp [hij]
   have hmem:∀ e∈arr.toList.set j { x with key:=Value.string ⟨k.toArray⟩,val:=v },e = { x with key:=Value.string ⟨k.toArray⟩,val:=v }∨(e∈arr.toList∧e.born≠x.born):=by
    intro e he;obtain ⟨i,hi⟩:=List.getElem?_of_mem he;rw [List.getElem?_set] at hi;by_cases hij:j=i
    ·subst hij;simp [hj] at hi;exact .inl hi.symm
    ·rw [if_neg hij] at hi;refine .inr ⟨List.mem_of_getElem? hi,fun e1=>hij ?_⟩;have a1:(arr.toList.map (·.born))[j]? = some x.born:=by rw [List.getElem?_map,hx]; rfl
     have a2:(arr.toList.map (·.born))[i]? = some x.born:=by rw [List.getElem?_map,hi]; simp [e1]
     obtain ⟨l1,q1⟩:=List.getElem?_eq_some_iff.1 a1;obtain ⟨l2,q2⟩:=List.getElem?_eq_some_iff.1 a2;exact Aew h1 l1 l2 (q1.trans q2.symm)
   refine ⟨⟨by rw [hl,hb1]; exact h1,fun e he=>?_⟩,Zt k y h2,h3,fun e=>if e.born=x.born then (k,y) else f e,?_,fun e he=>?_⟩
   ·rw [hl] at he;rcases hmem e he with rfl |⟨he,_⟩
    ·exact h1' x (List.mem_of_getElem? hx)
    ·exact h1' e he
   ·rw [hl];have hset:({ x with key:=Value.string ⟨k.toArray⟩,val:=v } :: arr.toList.eraseIdx j).Perm (arr.toList.set j { x with key:=Value.string ⟨k.toArray⟩,val:=v }):=by
     have e1:(arr.toList.set j { x with key:=Value.string ⟨k.toArray⟩,val:=v })[j]? = some { x with key:=Value.string ⟨k.toArray⟩,val:=v }:=by
      rw [List.getElem?_set]; simp [hj]
     have:=Wd _ _ _ e1
     rw [List.eraseIdx_set_eq] at this;exact this.symm
    refine (hset.symm.map _).trans ?_;simp only [List.map_cons,if_true];have hne:∀ e∈arr.toList.eraseIdx j,e.born≠x.born:=by
     intro e he e1;have hp:=(Wd _ _ _ hx).map (·.born);have hn:x.born ∉ (arr.toList.eraseIdx j).map (·.born):=by
      have:=hp.nodup_iff.1 h1
      rw [List.map_cons,List.nodup_cons] at this;exact this.1
     exact hn (by rw [← e1]; exact List.mem_map.2 ⟨e,he,rfl⟩)
    have hmap:(arr.toList.eraseIdx j).map (fun e=>if e.born=x.born then (k,y) else f e)=(arr.toList.eraseIdx j).map f:=List.map_congr_left fun e he=>by rw [if_neg (hne e he)]
    rw [hmap];have hp:=(Wd _ _ _ hx).map f;have hfx:(f x).1=k:=Adg (by rw [← (h5 x (List.mem_of_getElem? hx)).1,g3]);exact ((Abc h2 (h4.symm.trans hp) hfx).symm.cons _).trans (Xm (k,y) (Xp k es)).symm
   ·rw [hl] at he;rcases hmem e he with rfl |⟨he,hne⟩
    ·simp only [if_true];exact ⟨rfl,hv⟩
    ·show ER E w Z t (if e.born=x.born then (k,y) else f e) e;rw [if_neg hne];exact h5 e he
end
end Go.Proofs.YtdgejpgbppfhmaaGreatDoor.Eng
namespace Go.Proofs.YtdgejpgbppfhmaaGreatDoor.Eng
open Go.RowKit (Below)
structure Uv.Law {Tag:Type} {T:Tag→Type} (E:Uv T) (isB:Tag→Bool) (toB:(t:Tag)→T t→UInt8):Prop where
 un:∀ t cs ps x,E.un t cs=some (ps,x)→Us ps→∀ (j:Nat) c,(E.k t x)[j]? = some c→∃ d,cs[j]? = some d∧∀ w Z ρ v,RC E w Z ρ d v→PR E w Z c v
 byte:∀ t x,isB t=true→E.k t x=[.lit (.int .u8 (toB t x).toNat)]
section
variable {Tag:Type} {T:Tag→Type} (E:Uv T)
variable {P:Program} {w:World} {Z:Nat→Prop} {ρ:Nat→Option (Nat×Nat×Nat)}
def evUn (op:UnOp):AV T→Res T
 | .cv (.lit (.bool b))=>match op with | .not=>some ([],.cv (.lit (.bool (!b)))) | _=>none
 | .cv (.lit (.int k n))=>match op with | .neg=>some ([],.cv (.lit (.int k (k.wrap (0 - n))))) | _=>none
 | _=>none
theorem Ade {op:UnOp} {x r:AV T} {cs:List Prop} {u:Value} (h:evUn op x=some (cs,r)) (hx:RA E w Z ρ x u):∃ r',(Op.unary op u).run P w=.ok r' w∧RA E w Z ρ r r':=by
 unfold evUn at h;split at h
 ·have e:=Ua E hx; subst e;split at h <;> cases h
  exact ⟨_,rfl,Vf E⟩
 ·have e:=Ua E hx; subst e;split at h <;> cases h
  exact ⟨_,rfl,Vb E⟩
 ·cases h
def Ado:AV T→AV T→AV T→Res T
 | .cv (.lit (.bool c)),.cv (.lit (.bool p)),.cv (.lit (.bool q))=>some ([],.cv (.lit (.bool (bif c then p else q))))
 | .cv (.lit (.bool true)),a,_=>some ([],a)
 | .cv (.lit (.bool false)),_,b=>some ([],b)
 | _,_,_=>none
theorem Abv {c a b r:AV T} {cs:List Prop} {vc va vb:Value} (h:Ado c a b=some (cs,r)) (hc:RA E w Z ρ c vc) (ha:RA E w Z ρ a va) (hb:RA E w Z ρ b vb) :
  ∃ r',(do pure (if ← asBool vc then va else vb):Sem Value).run P w=.ok r' w∧RA E w Z ρ r r':=by
 unfold Ado at h;split at h
 ·rename_i c p q;have e:=Ua E hc; subst e;have e:=Ua E ha; subst e;have e:=Ua E hb; subst e;cases h;cases c
  ·exact ⟨_,rfl,Vf E⟩
  ·exact ⟨_,rfl,Vf E⟩
 ·have e:=Ua E hc; subst e;cases h;exact ⟨_,rfl,ha⟩
 ·have e:=Ua E hc; subst e;cases h;exact ⟨_,rfl,hb⟩
 ·cases h
def Af6:AV T→Res T
 | .cv (.ptr id off)=>some ([],.cv (.ptr id off))
 | .cv (.pel t id i off)=>some ([],.cv (.pel t id i off))
 | .cv (.pcs cs off)=>some ([],.cv (.pcs cs off))
 | .cv (.fn (.func f) a b)=>some ([],.cv (.fn (.func f) a b))
 | .cv (.ifc t g cs)=>some ([],.cv (.ifc t g cs))
 | _=>none
def evMI (P:Program) (t:TypeId):AV T→Res T
 | .cv c=>match P.underlying t with
  | some (.interface _)=>none
  | some _=>some ([],.cv (.ifc t false [c]))
  | none=>none
 | .agg cs=>match P.underlying t with
  | some (.interface _)=>none
  | some _=>some ([],.cv (.ifc t true cs))
  | none=>none
 | _=>none
theorem Adt {t:TypeId} {x r:AV T} {cs:List Prop} {u:Value} (h:evMI P t x=some (cs,r)) (hx:RA E w Z ρ x u):∃ r',(Instr.makeInterface t u).run P w=.ok r' w∧RA E w Z ρ r r':=by
 unfold evMI at h;split at h
 ·split at h
  ·cases h
  ·rename_i d hn hu;cases h;cases hx with | cv hx =>
   refine ⟨.iface t u,?_,.cv (.ifc1 hx hx.one)⟩;unfold Instr.makeInterface;rw [Sem.run_bind,run_underlying hu];cases d <;> first | exact absurd rfl (hn _) | rfl
  ·cases h
 ·split at h
  ·cases h
  ·rename_i d hn hu;cases h;cases hx with | agg h1 h2 =>
   refine ⟨.iface t _,?_,.cv (.ifca h1 h2)⟩;unfold Instr.makeInterface;rw [Sem.run_bind,run_underlying hu];cases d <;> first | exact absurd rfl (hn _) | rfl
  ·cases h
 ·cases h
def Ae4 (P:Program) (t:TypeId) (H:List (Nat×T9 T)):AV T→Res T
 | .cv (.str l)=>match P.underlying t with | some .string=>some ([],.cv (.lit (.int .i64 l.length))) | _=>none
 | .cv (.ro _ xs)=>match P.underlying t with | some (.slice _)=>some ([],.cv (.lit (.int .i64 xs.length))) | _=>none
 | .cv (.own _ id)=>match P.underlying t,look id H with | some (.slice _),some (.lst _ xs)=>some ([],.cv (.lit (.int .i64 xs.length))) | _,_=>none
 | .cv (.rol cs)=>match P.underlying t with | some (.slice _)=>some ([],.cv (.lit (.int .i64 cs.length))) | _=>none
 | .cv (.lit (.slice _ n _))=>match P.underlying t with | some (.slice _)=>some ([],.cv (.lit (.int .i64 n))) | _=>none
 | _=>none
theorem Acx {t ty:TypeId} {H:List (Nat×T9 T)} (hH:∀ id blk,look id H=some blk→BR E w Z ρ blk (ρ id)) {x r:AV T} {cs:List Prop} {u:Value} (h:Ae4 P t H x=some (cs,r)) (hx:RA E w Z ρ x u) :
  ∃ r',(Builtin.len_ #[t] ty #[u]).run P w=.ok r' w∧RA E w Z ρ r r':=by
 unfold Ae4 at h;split at h
 ·rename_i l;split at h
  ·rename_i hu;cases h;have e:=Uu E hx; subst e;refine ⟨_,?_,Vb E⟩;have hs:(ByteArray.mk l.toArray).size=l.length:=by show l.toArray.size=_; simp
   simp [Builtin.len_,run_underlying hu,goInt,hs]
  ·cases h
 ·split at h
  ·rename_i hu;cases h;cases hx with | cv hx =>
   cases hx with | pure hx =>
   cases hx with
   | ronil=>(refine ⟨_,?_,Vb E⟩; simp [Builtin.len_,run_underlying hu,goInt])
   | ro=>(refine ⟨_,?_,Vb E⟩; simp [Builtin.len_,run_underlying hu,goInt])
  ·cases h
 ·split at h
  ·rename_i hu hl;cases h;have hB:=hH _ _ hl;cases hx with | cv hx =>
   cases hx with
   | pure hx=>cases hx
   | own hr =>
    rw [hr] at hB;obtain ⟨hlen,_⟩:=hB;subst hlen;refine ⟨_,?_,Vb E⟩; simp [Builtin.len_,run_underlying hu,goInt]
   | ownv hr =>
    rw [hr] at hB;replace hB:_=[]:=hB;refine ⟨_,?_,Vb E⟩; simp [Builtin.len_,run_underlying hu,goInt,hB]
  ·cases h
 ·split at h
  ·rename_i hu;cases h;cases hx with | cv hx =>
   cases hx with
   | pure hx=>cases hx
   | rol=>(refine ⟨_,?_,Vb E⟩; simp [Builtin.len_,run_underlying hu,goInt])
  ·cases h
 ·split at h
  ·rename_i hu;cases h;have e:=Ua E hx; subst e
   (refine ⟨_,?_,Vb E⟩; simp [Builtin.len_,run_underlying hu,goInt])
  ·cases h
 ·cases h
def evMM (big:Bool):AV T→AV T→Res T
 | .cv (.lit (.int k a)),.cv (.lit (.int _ b))=>some ([],.cv (.lit (.int k (bif big then (if b > a then b else a) else (if b < a then b else a)))))
 | _,_=>none
def We {α:Type} (xs:List α) (lo hi:Int):List α:=(xs.drop lo.toNat).take (hi.toNat - lo.toNat)
def Wf (d:Int):Option (AV T)→Option Int
 | none=>some d
 | some (.cv (.lit (.int _ n)))=>some n
 | _=>none
def Aca (E:Uv T) (P:Program) (t:TypeId) (x:AV T) (lo hi:Option (AV T)):Res T :=
 match x with
 | .cv (.str l)=>match P.underlying t with
  | some .string=>match Wf 0 lo,Wf l.length hi with
   | some a,some b=>some ([0≤a,a≤b,b≤l.length],.cv (.str (We l a b)))
   | _,_=>none
  | _=>none
 | .cv (.ro tg xs)=>bif U5 E P t tg then (match Wf 0 lo,Wf xs.length hi with
   | some a,some b=>some ([0≤a,a≤b,b≤xs.length],.cv (.ro tg (We xs a b)))
   | _,_=>none) else none
 | _=>none
theorem X7 {d n:Int} {x:AV T} (h:Wf d (some x)=some n):∃ k,x=.cv (.lit (.int k n)):=by
 unfold Wf at h;split at h
 ·rename_i hh; cases hh
 ·rename_i hh; cases hh; cases h; exact ⟨_,rfl⟩
 ·cases h
theorem Wz {isS:Bool} {len cap:Nat} {lo hi:Option (AV T)} {vl vh:Option Value} {a b d:Int} (hl:Wf 0 lo=some a) (hh:Wf d hi=some b) (hd:d=len)
  (h1:∀ x,lo=some x→∃ v,vl=some v∧RA E w Z ρ x v) (h1':lo=none→vl=none) (h2:∀ x,hi=some x→∃ v,vh=some v∧RA E w Z ρ x v) (h2':hi=none→vh=none)
  (h0:0≤a) (hab:a≤b) (hb:b≤cap):(Instr.sliceBounds isS len cap vl vh none).run P w=.ok (a.toNat,b.toNat,cap) w:=by
 have e1:vl=none∧a=0∨∃ k,vl=some (.int k a):=by
  cases lo with
  | none=>exact .inl ⟨h1' rfl,by cases hl; rfl⟩
  | some x =>
   obtain ⟨k,rfl⟩:=X7 hl;obtain ⟨v,hv,hr⟩:=h1 _ rfl
   have:=Ua E hr; subst this
   exact .inr ⟨k,hv⟩
 have e2:vh=none∧b=len∨∃ k,vh=some (.int k b):=by
  cases hi with
  | none=>exact .inl ⟨h2' rfl,by cases hh; exact hd⟩
  | some x =>
   obtain ⟨k,rfl⟩:=X7 hh;obtain ⟨v,hv,hr⟩:=h2 _ rfl
   have:=Ua E hr; subst this
   exact .inr ⟨k,hv⟩
 have hb0:0≤b:=by omega
 have r1:∀ k code,(Instr.sliceBound (.int k b) cap code).run P w=.ok b.toNat w:=fun k code=>run_sliceBound w k b cap code hb0 hb
 have r2:∀ k code,(Instr.sliceBound (.int k a) b.toNat code).run P w=.ok a.toNat w:=fun k code=>run_sliceBound w k a b.toNat code h0 (by omega)
 unfold Instr.sliceBounds;rcases e1 with ⟨rfl,ha⟩ |⟨k,rfl⟩ <;> rcases e2 with ⟨rfl,hb'⟩ |⟨k',rfl⟩
 ·subst ha; subst hb'; simp
 ·subst ha; simp only [Sem.run_bind,Sem.run_pure,Result.andThen,r1,Option.isSome_none]; rfl
 ·have r3:∀ k code,(Instr.sliceBound (.int k a) len code).run P w=.ok a.toNat w:=fun k code=>run_sliceBound w k a len code h0 (by omega)
  subst hb'; simp only [Sem.run_bind,Sem.run_pure,Result.andThen,r3,Option.isSome_none]; simp
 ·simp only [Sem.run_bind,Sem.run_pure,Result.andThen,r1,r2,Option.isSome_none]
theorem Aax {t:TypeId} {x r:AV T} {lo hi:Option (AV T)} {cs:List Prop} {u:Value} {vl vh:Option Value} (h:Aca E P t x lo hi=some (cs,r)) (hx:RA E w Z ρ x u) (hcs:Us cs)
  (h1:∀ x,lo=some x→∃ v,vl=some v∧RA E w Z ρ x v) (h1':lo=none→vl=none) (h2:∀ x,hi=some x→∃ v,vh=some v∧RA E w Z ρ x v) (h2':hi=none→vh=none) :
  ∃ r',(Instr.sliceAt t u vl vh none).run P w=.ok r' w∧RA E w Z ρ r r':=by
 unfold Aca at h;split at h
 ·rename_i l;split at h
  ·rename_i hu;split at h
   ·rename_i a b hl hh;cases h;obtain ⟨h0,hcs⟩:=hcs;obtain ⟨hab,hcs⟩:=hcs;replace hcs:b≤l.length:=hcs;have e:=Uu E hx; subst e;refine ⟨.string ⟨(We l a b).toArray⟩,?_,.cv (.pure (.str _))⟩;unfold Instr.sliceAt;rw [Sem.run_bind,run_underlying hu];simp only [Result.andThen];unfold Instr.slice;rw [Sem.run_bind,run_underlying hu];simp only [Result.andThen,Option.isSome_none];have hb:=Wz E (P:=P) (w:=w) (Z:=Z) (ρ:=ρ) (isS:=false) (len:=l.length) (cap:=l.length) hl hh rfl h1 h1' h2 h2' h0 hab hcs;have hsz:(ByteArray.mk l.toArray).size=l.length:=by simp [ByteArray.size]
    simp only [hsz];have he:(ByteArray.mk l.toArray).extract a.toNat b.toNat=⟨(We l a b).toArray⟩:=by
     apply ByteArray.ext;simp [We,List.take_drop]
    simp [Sem.run_bind,hb,Result.andThen,he]
   ·cases h
  ·cases h
 ·rename_i tg xs;cases hk:U5 E P t tg with
  | false=>rw [hk] at h; cases h
  | true =>
   rw [hk] at h;simp only [cond_true] at h;split at h
   ·rename_i a b hl hh;cases h;obtain ⟨h0,hcs⟩:=hcs;obtain ⟨hab,hcs⟩:=hcs;replace hcs:b≤xs.length:=hcs;obtain ⟨i,hu,hi,hs⟩:=Va E hk;have run:∀ (A:Option Addr) (cap:Nat),xs.length≤cap→(Instr.sliceAt t (.slice A xs.length cap) vl vh none).run P w =
      .ok (.slice (if cap=a.toNat then A else A.map (·.add (a.toNat * E.sz tg))) (b.toNat - a.toNat) (cap - a.toNat)) w:=by
     intro A cap hc;unfold Instr.sliceAt;rw [Sem.run_bind,run_underlying hu];simp only [Result.andThen];unfold Instr.slice;rw [Sem.run_bind,run_underlying hu];simp only [Result.andThen];have hb:=Wz E (P:=P) (w:=w) (Z:=Z) (ρ:=ρ) (isS:=true) (len:=xs.length) (cap:=cap) hl hh rfl h1 h1' h2 h2' h0 hab (by omega);simp [Sem.run_bind,hb,Result.andThen,run_sizeOf w hi,Program.cellsOf,hi,hs]
    have hlen:(We xs a b).length=b.toNat - a.toNat:=by simp [We]; omega
    cases hx with | cv hx =>
    cases hx with | pure hx =>
    cases hx with
    | ronil _ A cap =>
     refine ⟨_,run A cap (by simp),.cv (.pure ?_)⟩
     have:b.toNat - a.toNat=0:=by simp at hcs; omega
     rw [this]
     have:We ([]:List (T tg)) a b=[]:=by simp [We]
     rw [this];exact .ronil _ _ _
    | ro _ _ ad cap uu hz hcap hcell hrel =>
     refine ⟨_,run (some ad) cap hcap,.cv (.pure ?_)⟩;by_cases hca:cap=a.toNat
     ·rw [if_pos hca];have h0':b.toNat - a.toNat=0:=by omega
      rw [h0'] at hlen ⊢;rw [List.eq_nil_of_length_eq_zero hlen];exact .ronil _ _ _
     ·rw [if_neg hca,← hlen];simp only [Option.map_some];have hget:∀ (i:Nat) x,(We xs a b)[i]? = some x→xs[a.toNat+i]? = some x:=fun i x hx=>by
       simp only [We,List.getElem?_take,List.getElem?_drop] at hx;split at hx
       ·exact hx
       ·cases hx
      refine .ro tg _ _ _ (fun i j=>uu (a.toNat+i) j) (by rw [Aa7]; exact hz) (by rw [hlen]; omega) (fun i x j c hx hc=>?_) (fun i x j c hx hc=>hrel _ _ _ _ (hget i x hx) hc);rw [add_add]
      have:=hcell _ _ _ _ (hget i x hx) hc
      rw [Nat.add_mul,Nat.add_assoc] at this;exact this
   ·cases h
 ·cases h
end
end Go.Proofs.YtdgejpgbppfhmaaGreatDoor.Eng
namespace Go.Proofs.YtdgejpgbppfhmaaGreatDoor.Eng
open Go.RowKit (Below)
section
variable {Tag:Type} {T:Tag→Type} (E:Uv T)
variable {P:Program} {w:World} {Z:Nat→Prop} {ρ:Nat→Option (Nat×Nat×Nat)}
def RL (w:World) (Z:Nat→Prop) (ρ:Nat→Option (Nat×Nat×Nat)) (arr:Array Value) (cs:List (CV T)):Prop :=
 arr.size=cs.length∧∀ (i:Nat) c u,cs[i]? = some c→arr[i]? = some u→RC E w Z ρ c u
theorem Ad6 {v:Value} (h:v.oneCell'=true):RC E w Z ρ (absC v) v:=by
 unfold absC;split
 ·rename_i s
  have:=PR.str (E:=E) (w:=w) (Z:=Z) s.data.toList
  have e:(ByteArray.mk s.data.toList.toArray)=s:=by apply ByteArray.ext; simp
  rw [e] at this;exact .pure this
 ·exact .pure (.lit h)
theorem RL.absC {arr:Array Value} (h:arr.toList.all (·.oneCell')=true):RL E w Z ρ arr (arr.toList.map absC):=by
 refine ⟨by simp,fun i c u hc hu=>?_⟩;simp only [List.getElem?_map,Array.getElem?_toList,hu,Option.map_some,Option.some.injEq] at hc;subst hc;refine Ad6 E (List.all_eq_true.1 h u ?_);exact Array.mem_toList_iff.2 (Array.mem_of_getElem? hu)
def AV.cellsOf:AV T→Option (List (CV T))
 | .cv c=>some [c]
 | .agg cs=>some cs
 | _=>none
theorem Vs {x:AV T} {cs:List (CV T)} {v:Value} (h:x.cellsOf=some cs) (hx:RA E w Z ρ x v):RL E w Z ρ v.cells cs:=by
 unfold AV.cellsOf at h;split at h
 ·cases h;cases hx with | cv hx =>
  have h1:=hx.one
  have:v.cells = #[v]:=by cases v <;> first | rfl | cases h1
  rw [this];refine ⟨rfl,fun i c u hc hu=>?_⟩;cases i with
  | zero=>simp at hc hu; subst hc; subst hu; exact hx
  | succ i=>simp at hc
 ·cases h;cases hx with | agg h1 h2 =>
  exact ⟨h1,h2⟩
 ·cases h
theorem RL.one {arr:Array Value} {cs:List (CV T)} (h:RL E w Z ρ arr cs):∀ u∈arr,u.oneCell'=true:=by
 intro u hu;obtain ⟨i,hi,he⟩:=Array.mem_iff_getElem.1 hu;have hlt:i < cs.length:=by rw [← h.1]; exact hi
 exact (h.2 i _ u (List.getElem?_eq_getElem hlt) (by simp [hi,he])).one
def Ab8 (cells:List (CV T)) (off:Nat) (cs:List (CV T)):List (CV T):=cells.take off++cs++cells.drop (off+cs.length)
theorem Aa4 (off:Nat):∀ (l:List Value) (k:Nat) (arr:Array Value),off+k+l.length≤arr.size →
  ((l.zipIdx k).foldl (fun cs (x:Value×Nat)=>cs.setIfInBounds (off+x.2) x.1) arr).size=arr.size ∧
  ∀ i,((l.zipIdx k).foldl (fun cs (x:Value×Nat)=>cs.setIfInBounds (off+x.2) x.1) arr)[i]? = if off+k≤i∧i < off+k+l.length then l[i - (off+k)]? else arr[i]?
 | [],k,arr,h=>by
  refine ⟨rfl,fun i=>?_⟩;rw [if_neg (by simp)];rfl
 | v :: l,k,arr,h=>by
  simp only [List.length_cons] at h;obtain ⟨h1,h2⟩:=Aa4 off l (k+1) (arr.setIfInBounds (off+k) v) (by simp; omega);simp only [List.zipIdx_cons,List.foldl_cons];refine ⟨by rw [h1]; simp,fun i=>?_⟩;rw [h2];simp only [List.length_cons];by_cases hc:off+(k+1)≤i∧i < off+(k+1)+l.length
  ·rw [if_pos hc,if_pos (by omega)];rw [show i - (off+k)=(i - (off+(k+1)))+1 from by omega];simp
  ·rw [if_neg hc];by_cases he:i=off+k
   ·subst he;rw [if_pos (by omega)];simp [Array.getElem?_setIfInBounds];omega
   ·rw [if_neg (by omega)];rw [Array.getElem?_setIfInBounds_ne (by omega)]
theorem Aaj (cells:List (CV T)) (off:Nat) (cs:List (CV T)) (h:off+cs.length≤cells.length) (i:Nat) :
  (Ab8 cells off cs)[i]? = if off≤i∧i < off+cs.length then cs[i - off]? else cells[i]?:=by
 unfold Ab8;by_cases h1:i < off
 ·rw [if_neg (by omega),List.append_assoc,List.getElem?_append_left (by simp; omega),List.getElem?_take,if_pos h1]
 ·by_cases h2:i < off+cs.length
  ·rw [if_pos (by omega),List.append_assoc,List.getElem?_append_right (by simp; omega),List.getElem?_append_left (by simp; omega)]
   congr 1
   simp; omega
  ·rw [if_neg (by omega),List.getElem?_append_right (by simp; omega),List.getElem?_drop]
   congr 1
   simp; omega
theorem RL.put {arr:Array Value} {cells:List (CV T)} (h:RL E w Z ρ arr cells) {l:Array Value} {cs:List (CV T)} (hl:RL E w Z ρ l cs) (off:Nat) (ho:off+cs.length≤cells.length) :
  RL E w Z ρ (l.zipIdx.foldl (fun cs (x:Value×Nat)=>cs.setIfInBounds (off+x.2) x.1) arr) (Ab8 cells off cs):=by
 have hll:l.toList.length=cs.length:=by simpa using hl.1
 obtain ⟨h1,h2⟩:=Aa4 off l.toList 0 arr (by rw [hll,h.1]; simpa using ho);have e:l.zipIdx.foldl (fun cs (x:Value×Nat)=>cs.setIfInBounds (off+x.2) x.1) arr=(l.toList.zipIdx 0).foldl (fun cs (x:Value×Nat)=>cs.setIfInBounds (off+x.2) x.1) arr:=by
  rw [← Array.foldl_toList]; simp
 rw [e];refine ⟨?_,fun i c u hc hu=>?_⟩
 ·rw [h1,h.1];unfold Ab8;simp; omega
 ·rw [h2 i] at hu;rw [Aaj _ _ _ ho] at hc;simp only [Nat.add_zero,hll] at hu;by_cases hi:off≤i∧i < off+cs.length
  ·rw [if_pos hi] at hu hc;exact hl.2 _ _ _ hc (by simpa using hu)
  ·rw [if_neg hi] at hu hc;exact h.2 _ _ _ hc hu
def Abi (place:Nat→Option (Nat×Nat)):List (CV T)→List (Nat×Option (AV T))→Option (List (CV T))
 | cells,[]=>some cells
 | cells,(i,v) :: rest=>match place i,v with
  | some (off,size),some x=>match x.cellsOf with
   | some cs=>bif Nat.beq cs.length size && Nat.ble (off+cs.length) cells.length then Abi place (Ab8 cells off cs) rest else none
   | none=>none
  | _,_=>none
theorem Wx (place:Nat→Option (Nat×Nat)):∀ (parts:List (Nat×Option (AV T))) (vparts:List (Nat×Value)) (cells r:List (CV T)) (arr:Array Value),Abi place cells parts=some r →
  RL E w Z ρ arr cells→parts.map (·.1)=vparts.map (·.1)→(∀ (i:Nat) p q x,parts[i]? = some p→vparts[i]? = some q→p.2=some x→RA E w Z ρ x q.2) →
  ∃ arr',Instr.fill place arr vparts=some arr'∧RL E w Z ρ arr' r
 | [],vparts,cells,r,arr,h,ha,hm,hp=>by
  cases vparts with
  | nil=>cases h; exact ⟨arr,rfl,ha⟩
  | cons _ _=>simp at hm
 |(i,v) :: rest,vparts,cells,r,arr,h,ha,hm,hp=>by
  cases vparts with
  | nil=>simp at hm
  | cons q vrest =>
   obtain ⟨i',u⟩:=q;simp only [List.map_cons,List.cons.injEq] at hm;obtain ⟨hi,hm⟩:=hm;subst hi;unfold Abi at h;split at h
   ·rename_i off size x hpl;split at h
    ·rename_i cs hcs;cases hb:(Nat.beq cs.length size && Nat.ble (off+cs.length) cells.length) with
     | false=>rw [hb] at h; cases h
     | true =>
      rw [hb] at h;simp only [Bool.and_eq_true] at hb;have h1:=Nat.eq_of_beq_eq_true hb.1;have h2:=Nat.le_of_ble_eq_true hb.2;have hx:=hp 0 _ _ x rfl rfl rfl;have hl:=Vs E hcs hx;obtain ⟨arr',e1,e2⟩:=Wx place rest vrest _ r _ h (RL.put E ha hl off h2) hm (fun j p q x hp' hq hx=>hp (j+1) p q x (by simpa using hp') (by simpa using hq) hx);refine ⟨arr',?_,e2⟩;have hsz:u.cells.size=cs.length:=hl.1;unfold Instr.fill;simp only [hpl];rw [if_neg]
      ·exact e1
      ·simp only [hsz,ha.1];simp [h1];omega
    ·cases h
   ·cases h
def Ab4 (P:Program) (t:TypeId) (parts:List (Nat×Option (AV T))):Res T :=
 match P.info? t,P.underlying t with
 | some it,some (.array _ e)=>match it.zero,P.info? e with
  | some z,some ie=>bif z.cells.toList.all (·.oneCell') then (match Abi (fun i=>some (i * ie.size,ie.size)) (z.cells.toList.map absC) parts with
   | some cs=>some ([],.agg cs)
   | none=>none) else none
  | _,_=>none
 | some it,some (.struct fields)=>match it.zero,fields.toList.mapM (fun f=>(P.info? f.type).map fun i=>(f.offset,i.size)) with
  | some z,some places=>bif z.cells.toList.all (·.oneCell') then (match Abi (places.toArray[·]?) (z.cells.toList.map absC) parts with
   | some cs=>some ([],.agg cs)
   | none=>none) else none
  | _,_=>none
 | _,_=>none
theorem Aao {t:TypeId} {parts:List (Nat×Option (AV T))} {vparts:Array (Nat×Value)} {cs:List Prop} {r:AV T} (h:Ab4 P t parts=some (cs,r))
  (hm:parts.map (·.1)=vparts.toList.map (·.1)) (hp:∀ (i:Nat) p q x,parts[i]? = some p→vparts.toList[i]? = some q→p.2=some x→RA E w Z ρ x q.2) :
  ∃ r',(Instr.build t vparts).run P w=.ok r' w∧RA E w Z ρ r r':=by
 unfold Ab4 at h;split at h
 ·rename_i it n e hit hu;split at h
  ·rename_i z ie hz hie;cases hall:z.cells.toList.all (·.oneCell') with
   | false=>rw [hall] at h; cases h
   | true =>
    rw [hall] at h;simp only [cond_true] at h;split at h
    ·rename_i cs' hf;cases h;obtain ⟨arr',e1,e2⟩:=Wx E (w:=w) (Z:=Z) (ρ:=ρ) _ parts vparts.toList _ cs' z.cells hf (RL.absC E hall) hm hp;exact ⟨.agg arr',run_build w t vparts arr' (by simp [Program.built,hit,hu,hz,hie,e1]),.agg e2.1 e2.2⟩
    ·cases h
  ·cases h
 ·rename_i it fields hit hu;split at h
  ·rename_i z places hz hpl;cases hall:z.cells.toList.all (·.oneCell') with
   | false=>rw [hall] at h; cases h
   | true =>
    rw [hall] at h;simp only [cond_true] at h;split at h
    ·rename_i cs' hf;cases h;obtain ⟨arr',e1,e2⟩:=Wx E (w:=w) (Z:=Z) (ρ:=ρ) _ parts vparts.toList _ cs' z.cells hf (RL.absC E hall) hm hp;refine ⟨.agg arr',run_build w t vparts arr' ?_,.agg e2.1 e2.2⟩;unfold Program.built;simp only [hit,hu,hz,hpl];exact e1
    ·cases h
  ·cases h
 ·cases h
theorem Afd {t:TypeId} {off:Nat} {cs:List (CV T)} {arr:Array Value} {r:AV T} (h:ld P t cs off=some r) (ha:RL E w Z ρ arr cs):∃ v,(part t arr off).run P w=.ok v w∧RA E w Z ρ r v:=by
 unfold ld at h;split at h
 ·rename_i d info hd hi;cases hA:Acc d with
  | true =>
   rw [hA] at h;simp only [cond_true] at h;cases hl:Nat.beq ((cs.drop off).take info.size).length info.size with
   | false=>rw [hl] at h; simp at h
   | true =>
    rw [hl] at h;simp only [cond_true,Option.some.injEq] at h;subst h;have hl':((cs.drop off).take info.size).length=info.size:=Nat.eq_of_beq_eq_true hl;refine ⟨.agg (arr.extract off (off+info.size)),?_,?_⟩
    ·unfold part;rw [Sem.run_bind,Vp hd];simp only [Result.andThen,hA,if_true];rw [Sem.run_bind,run_sizeOf w hi];simp [Result.andThen,Program.cellsOf,hi]
    ·have hsz:=ha.1;simp only [List.length_take,List.length_drop] at hl';refine .agg (by simp only [Array.size_extract,List.length_take,List.length_drop]; omega) fun i c v hc hv=>?_
     rw [List.getElem?_take] at hc;split at hc
     ·rename_i hi';rw [List.getElem?_drop] at hc;rw [Array.getElem?_extract] at hv;split at hv
      ·exact ha.2 _ _ _ hc hv
      ·cases hv
     ·cases hc
  | false =>
   rw [hA] at h;simp only [cond_false] at h;split at h
   ·rename_i c hc;cases h;have hlt:off < arr.size:=by rw [ha.1]; exact (List.getElem?_eq_some_iff.1 hc).1
    refine ⟨arr[off],?_,.cv (ha.2 _ _ _ hc (by simp [hlt]))⟩;unfold part;rw [Sem.run_bind,Vp hd];simp [Result.andThen,hA,hlt]
   ·cases h
 ·cases h
theorem Aap {s:TypeId} {f:Nat} {x r:AV T} {cs:List Prop} {u:Value} (h:Abo P s f x=some (cs,r)) (hx:RA E w Z ρ x u) :
  ∃ r',(Instr.field s u f).run P w=.ok r' w∧RA E w Z ρ r r':=by
 unfold Abo at h;split at h
 ·split at h
  ·rename_i fs hu;split at h
   ·rename_i fl hf;split at h
    ·rename_i r' hr;cases h;cases hx with | agg h1 h2 =>
     obtain ⟨v,e1,e2⟩:=Afd E (w:=w) (Z:=Z) (ρ:=ρ) hr ⟨h1,h2⟩;refine ⟨v,?_,e2⟩;unfold Instr.field;rw [Sem.run_bind,run_underlying hu];simp [Result.andThen,hf,asAgg,e1]
    ·cases h
   ·cases h
  ·cases h
 ·cases h
def Ab9 (P:Program) (t:TypeId):AV T→AV T→Res T
 | .cv (.str l),.cv (.lit (.int _ n))=>match P.underlying t with
  | some .string=>some ([0≤n,n < l.length],.cv (.lit (.int .u8 (l.getD n.toNat 0).toNat)))
  | _=>none
 | _,_=>none
theorem Aat {t:TypeId} {x y r:AV T} {cs:List Prop} {u v:Value} (h:Ab9 P t x y=some (cs,r)) (hx:RA E w Z ρ x u) (hy:RA E w Z ρ y v) (hcs:Us cs) :
  ∃ r',(Instr.index t u v).run P w=.ok r' w∧RA E w Z ρ r r':=by
 unfold Ab9 at h;split at h
 ·rename_i l k n;split at h
  ·rename_i hu;cases h;obtain ⟨h0,h1⟩:=hcs;replace h1:n < l.length:=h1;have e:=Uu E hx; subst e;have e:=Ua E hy; subst e;refine ⟨_,?_,Vb E⟩;have hlt:n.toNat < l.length:=by omega
   have hg:(ByteArray.mk l.toArray)[n.toNat]? = some l[n.toNat]:=by
    rw [getElem?_pos (ByteArray.mk l.toArray) n.toNat (by show n.toNat < l.toArray.size; simpa using hlt)];rfl
   simp [Instr.index,asIntOf,Sem.run_bind,run_underlying hu,Result.andThen,h0,hg,List.getD,List.getElem?_eq_getElem hlt]
  ·cases h
 ·cases h
def Yv (E:Uv T) (isB:Tag→Bool) (toB:(t:Tag)→T t→UInt8) (P:Program) (H:List (Nat×T9 T)) (src dst:TypeId):AV T→Res T
 | .cv (.lit (.int _ n))=>match P.underlying src,P.underlying dst with
  | some (.int _),some (.int k)=>some ([],.cv (.lit (.int k (k.wrap n))))
  | _,_=>none
 | .cv (.str l)=>match P.underlying src,P.underlying dst with
  | some .string,some .string=>some ([],.cv (.str l))
  | _,_=>none
 | .cv (.ro tg xs)=>match P.underlying src,P.underlying dst with
  | some (.slice e),some .string=>match P.underlying e with
   | some (.int .u8)=>bif isB tg && Nat.beq (E.sz tg) 1 then some ([],.cv (.str (xs.map (toB tg)))) else none
   | _=>none
  | _,_=>none
 | .cv (.own tg id)=>match P.underlying src,P.underlying dst,look id H with
  | some (.slice e),some .string,some (.lst tg' xs)=>match P.underlying e with
   | some (.int .u8)=>bif isB tg' && Nat.beq (E.sz tg') 1 then some ([],.cv (.str (xs.map (toB tg')))) else none
   | _=>none
  | _,_,_=>none
 | .cv (.lit (.slice none a b))=>match P.underlying src,P.underlying dst with
  | some (.slice e),some .string=>match P.underlying e with
   | some (.int .u8)=>some ([],.cv (.str []))
   | _=>none
  | _,_=>none
 | _=>none
theorem Ac4 {v u:Value} (h:PR E w Z (.lit v) u):u=v:=by cases h; rfl
theorem Yx:∀ (l:List UInt8) (acc:List UInt8),(l.map fun b=>(b.toNat:Int)).foldl (fun (r:ByteArray) n=>r.push (UInt8.ofNat n.toNat)) ⟨acc.toArray⟩=⟨(acc++l).toArray⟩
 | [],acc=>by simp
 | b :: l,acc=>by
  simp only [List.map_cons,List.foldl_cons]
  have:(ByteArray.mk acc.toArray).push (UInt8.ofNat ((b.toNat:Int)).toNat)=⟨(acc++[b]).toArray⟩:=by
   apply ByteArray.ext;show (acc.toArray.push _)=_;simp
  rw [this,Yx l (acc++[b])];simp
theorem Yo (l:List UInt8) (a:Addr) (cap:Nat) (h:∀ (j:Nat) (b:UInt8),l[j]? = some b→w.cell? (a.add j)=some (.int .u8 b.toNat)) :
  (Conv.bytesToString (.slice (some a) l.length cap)).run P w=.ok (.string ⟨l.toArray⟩) w:=by
 have h1:=run_loadCells_list (P:=P) w a (l.map fun b=>Value.int .u8 b.toNat) (fun j v hv=>by
  simp only [List.getElem?_map,Option.map_eq_some_iff] at hv;obtain ⟨b,hb,rfl⟩:=hv;exact h j b hb)
 simp only [List.length_map] at h1
 have:=run_bytesToString (P:=P) w a l.length cap (l.map fun b=>(b.toNat:Int)) (by rw [h1]; simp [List.map_map,Function.comp_def])
 rw [this];have h2:=Yx l [];simp only [List.nil_append] at h2;rw [← h2];rfl
theorem Zc {isB:Tag→Bool} {toB:(t:Tag)→T t→UInt8} (L:E.Law isB toB) {H:List (Nat×T9 T)} {src dst:TypeId} {x r:AV T} {cs:List Prop} {u:Value}
  (h:Yv E isB toB P H src dst x=some (cs,r)) (hx:RA E w Z ρ x u) (hcs:Us cs) (hH:∀ id blk,look id H=some blk→BR E w Z ρ blk (ρ id)) :
  ∃ r',(convert src dst u).run P w=.ok r' w∧RA E w Z ρ r r':=by
 unfold Yv at h;split at h
 ·split at h
  ·rename_i hs hd;cases h;have e:=Ua E hx; subst e;refine ⟨_,?_,Vb E⟩;simp [convert,run_underlying hs,run_underlying hd,Conv.intToInt]
  ·cases h
 ·split at h
  ·rename_i hs hd;cases h;have e:=Uu E hx; subst e;refine ⟨_,?_,hx⟩;simp [convert,run_underlying hs,run_underlying hd]
  ·cases h
 ·split at h
  ·rename_i e hs hd;split at h
   ·rename_i tg xs _ _ _ he;cases hb:(isB tg && Nat.beq (E.sz tg) 1) with
    | false=>rw [hb] at h; cases h
    | true =>
     rw [hb] at h;cases h;simp only [Bool.and_eq_true] at hb;have hsz:E.sz tg=1:=Nat.eq_of_beq_eq_true hb.2;refine ⟨.string ⟨(xs.map (toB tg)).toArray⟩,?_,.cv (.pure (.str _))⟩;cases hx with | cv hx =>
     cases hx with | pure hx =>
     cases hx with
     | ronil _ A cap =>
      rw [run_convert_bytes_string w src dst e _ _ _ hs he hd];cases A with
      | none=>rfl
      | some a=>exact Yo (P:=P) [] a cap (fun j b hb=>by simp at hb)
     | ro _ _ a cap uu hz hcap hcell hrel =>
      rw [run_convert_bytes_string w src dst e _ _ _ hs he hd]
      have:=Yo (P:=P) (w:=w) (xs.map (toB tg)) a cap (fun j b hbj=>by
       simp only [List.getElem?_map,Option.map_eq_some_iff] at hbj;obtain ⟨x,hx,rfl⟩:=hbj;have hk:(E.k tg x)[0]? = some (.lit (.int .u8 (toB tg x).toNat)):=by rw [L.byte tg x hb.1]; rfl
       have h1:=hcell j x 0 _ hx hk;have h2:=hrel j x 0 _ hx hk;rw [hsz,Nat.mul_one,Nat.add_zero] at h1;rw [h1,Ac4 E h2])
      simpa using this
   ·cases h
  ·cases h
 ·split at h
  ·rename_i tg id _ _ _ e tg' xs hs hd hl;split at h
   ·rename_i he;cases hb:(isB tg' && Nat.beq (E.sz tg') 1) with
    | false=>rw [hb] at h; cases h
    | true =>
     rw [hb] at h;cases h;simp only [Bool.and_eq_true] at hb;have hsz:E.sz tg'=1:=Nat.eq_of_beq_eq_true hb.2;refine ⟨.string ⟨(xs.map (toB tg')).toArray⟩,?_,.cv (.pure (.str _))⟩;cases hx with | cv hx =>
     cases hx with
     | pure hx=>cases hx
     | ownv hr =>
      have hb':=hH _ _ hl;rw [hr] at hb'
      have:xs=[]:=hb'
      subst this;rw [run_convert_bytes_string w src dst e _ _ _ hs he hd];rfl
     | @own _ _ n b cap hr =>
      have hb':=hH _ _ hl;rw [hr] at hb';obtain ⟨hn,arr,ha,hcap,hmax,hsize,hrel⟩:=hb';rw [run_convert_bytes_string w src dst e _ _ _ hs he hd,hn]
      have:=Yo (P:=P) (w:=w) (xs.map (toB tg')) ⟨b,0,none⟩ cap (fun j bb hbj=>by
       simp only [List.getElem?_map,Option.map_eq_some_iff] at hbj;obtain ⟨x,hx,rfl⟩:=hbj;have hk:(E.k tg' x)[0]? = some (.lit (.int .u8 (toB tg' x).toNat)):=by rw [L.byte tg' x hb.1]; rfl
       have hj:j < xs.length:=(List.getElem?_eq_some_iff.1 hx).1;rw [hsz,Nat.mul_one] at hsize;have hja:j < arr.size:=by omega
       have h2:=hrel j x 0 _ arr[j] hx hk (by rw [hsz,Nat.mul_one,Nat.add_zero]; simp [hja]);rw [Uo,Nat.zero_add,Ux ha];rw [Array.getElem?_eq_getElem hja,Ac4 E h2])
      simpa using this
   ·cases h
  ·cases h
 ·split at h
  ·rename_i hs hd;split at h
   ·rename_i he;cases h;have e:=Ua E hx; subst e;refine ⟨.string ⟨([]:List UInt8).toArray⟩,?_,.cv (.pure (.str _))⟩;rw [run_convert_bytes_string w src dst _ _ _ _ hs he hd];rfl
   ·cases h
  ·cases h
 ·cases h
end
end Go.Proofs.YtdgejpgbppfhmaaGreatDoor.Eng
namespace Go.Proofs.YtdgejpgbppfhmaaGreatDoor.Eng
open Go.RowKit (Below)
structure V6 {Tag:Type} (T:Tag→Type) where
 E:Uv T
 isB:Tag→Bool
 toB:(t:Tag)→T t→UInt8
 glb:List (Nat×(Array Value→Prop)):=[]
 ofB:(t:Tag)→UInt8→T t:=fun t _=>E.dflt t
 typd:TypeId→Bool:=fun _=>false
def GOK {Tag:Type} {T:Tag→Type} (V:V6 T) (w:World) (Z:Nat→Prop):Prop :=
 ∀ p∈V.glb,Z p.1∧∃ cs t fz,w.heap[p.1]? = some (.cells cs t fz)∧p.2 cs
theorem GOK.mono {Tag:Type} {T:Tag→Type} {V:V6 T} {w w':World} {Z Z':Nat→Prop} (hZ:∀ b,Z b→Z' b) (hw:∀ b,Z b→w'.heap[b]? = w.heap[b]?) (h:GOK V w Z):GOK V w' Z' :=
 fun p hp=>by
  obtain ⟨h1,cs,t,fz,h2,h3⟩:=h p hp;exact ⟨hZ _ h1,cs,t,fz,(hw _ h1).trans h2,h3⟩
structure ZOK {Tag:Type} {T:Tag→Type} (V:V6 T) (w:World) (Z:Nat→Prop):Prop where
 lt:∀ b,Z b→b < w.heap.size
 glb:GOK V w Z
section
variable {Tag:Type} {T:Tag→Type} (V:V6 T)
variable {P:Program} {w:World} {Z:Nat→Prop} {ρ:Nat→Option (Nat×Nat×Nat)}
def Acl (get:Operand→Option (AV T)):List Operand→Option (List (CV T))
 | []=>some []
 | x :: xs=>match get x with
  | some (.cv c)=>match Acl get xs with | some cs=>some (c :: cs) | none=>none
  | _=>none
theorem Xd {E:Uv T} {get:Operand→Option (AV T)} {a:Act} (hg:∀ x v,get x=some v→RA E w Z ρ v (a.eval x)):∀ (xs:List Operand) (cs:List (CV T)),Acl get xs=some cs →
  xs.length=cs.length∧∀ (i:Nat) c u,cs[i]? = some c→(xs.map a.eval)[i]? = some u→RC E w Z ρ c u
 | [],cs,h=>by cases h; exact ⟨rfl,fun i c u hc=>by simp at hc⟩
 | x :: xs,cs,h=>by
  unfold Acl at h;split at h
  ·rename_i c hc;split at h
   ·rename_i cs' hcs;cases h;obtain ⟨h1,h2⟩:=Xd hg xs cs' hcs;refine ⟨by simp [h1],fun i d u hd hu=>?_⟩;cases i with
    | zero =>
     simp at hd hu;subst hd; subst hu;cases hg _ _ hc with | cv h=>exact h
    | succ i=>exact h2 i d u (by simpa using hd) (by simpa using hu)
   ·cases h
  ·cases h
def opt (get:Operand→Option (AV T)):Option Operand→Option (Option (AV T))
 | none=>some none
 | some x=>match get x with | some v=>some (some v) | none=>none
def Afm (H:List (Nat×T9 T)):AV T→Option (Σ t:Tag,List (List UInt8×T t))
 | .cv (.mp id)=>match look id H with | some (.mpb t es)=>some ⟨t,es⟩ | _=>none
 | .cv (.rom t es)=>some ⟨t,es⟩
 | _=>none
theorem Aci {E:Uv T} {H:List (Nat×T9 T)} (hH:∀ id blk,look id H=some blk→BR E w Z ρ blk (ρ id)) {x:AV T} {t:Tag} {es:List (List UInt8×T t)} {u:Value} (h:Afm H x=some ⟨t,es⟩) (hx:RA E w Z ρ x u) :
  ∃ b arr clock,u=.map (some b)∧w.heap[b]? = some (.map arr clock)∧MR E w Z t es arr clock:=by
 unfold Afm at h;split at h
 ·split at h
  ·rename_i hl;cases h;have hB:=hH _ _ hl;cases hx with | cv hx =>
   cases hx with
   | pure hx=>cases hx
   | mp hr =>
    rw [hr] at hB;obtain ⟨arr,clock,h1,h2⟩:=hB;exact ⟨_,arr,clock,rfl,h1,h2⟩
  ·cases h
 ·cases h;cases hx with | cv hx =>
  cases hx with | pure hx =>
  obtain ⟨b,arr,clock,h1,_,h2,h3⟩:=Ad8 E hx;exact ⟨b,arr,clock,h1,h2,h3⟩
 ·cases h
def Aaa (E:Uv T) (P:Program) (H:List (Nat×T9 T)) (mt:TypeId) (x:AV T) (k:List UInt8) (ok:Bool):Res T :=
 match Afm H x with
 | some ⟨t,es⟩=>match P.underlying mt with
  | some (.map kt e)=>match P.underlying kt with
   | some .string=>bif Z9 E P e t (E.dflt t) then some ([],bif ok then .tup [Ae9 E t ((V7 k es).getD (E.dflt t)),.cv (.lit (.bool (V7 k es).isSome))] else Ae9 E t ((V7 k es).getD (E.dflt t))) else none
   | _=>none
  | _=>none
 | none=>none
theorem Zn {E:Uv T} {H:List (Nat×T9 T)} (hH:∀ id blk,look id H=some blk→BR E w Z ρ blk (ρ id)) {mt:TypeId} {x r:AV T} {k:List UInt8} {ok:Bool} {cs:List Prop} {u:Value} (h:Aaa E P H mt x k ok=some (cs,r)) (hx:RA E w Z ρ x u) :
  ∃ r',(Instr.lookup mt u (.string ⟨k.toArray⟩) ok).run P w=.ok r' w∧RA E w Z ρ r r':=by
 unfold Aaa at h;split at h
 ·rename_i t es hm;split at h
  ·rename_i kt e hu;split at h
   ·rename_i hk;cases hz:Z9 E P e t (E.dflt t) with
    | false=>rw [hz] at h; cases h
    | true =>
     rw [hz] at h;simp only [cond_true,Option.some.injEq,Prod.mk.injEq] at h;obtain ⟨_,rfl⟩:=h;obtain ⟨b,arr,clock,rfl,hb,hM⟩:=Aci hH hm hx;obtain ⟨v,e1,e2⟩:=Adp E (w:=w) (Z:=Z) hu hk hz hb hM k ok;refine ⟨_,e1,?_⟩;cases ok with
     | false=>exact Abx E e2
     | true =>
      refine .tup (us:=#[v,.bool (V7 k es).isSome]) rfl fun i c u hc hu=>?_
      match i with
      | 0=>simp at hc hu; subst hc; subst hu; exact Abx E e2
      | 1=>simp at hc hu; subst hc; subst hu; exact Vf E
      | i+2=>simp at hc
   ·cases h
  ·cases h
 ·cases h
def Ace (E:Uv T) (H:List (Nat×T9 T)):AV T→Res T
 | .cv (.ptr id 0)=>match look id H with
  | some (.itr t _ (some p))=>some ([],.tup [.cv (.str p.1),Ae9 E t p.2])
  | _=>none
 | _=>none
theorem Aau {E:Uv T} {H:List (Nat×T9 T)} (hH:∀ id blk,look id H=some blk→BR E w Z ρ blk (ρ id)) {x r:AV T} {cs:List Prop} {u:Value} (h:Ace E H x=some (cs,r)) (hx:RA E w Z ρ x u) :
  ∃ r',(Instr.entry u).run P w=.ok r' w∧RA E w Z ρ r r':=by
 unfold Ace at h;split at h
 ·split at h
  ·rename_i t left p hl;cases h;have hB:=hH _ _ hl;cases hx with | cv hx =>
   cases hx with
   | pure hx=>cases hx
   | ptr hr =>
    rw [hr] at hB;obtain ⟨m,since,seen,arr,h1,h2,h3,h4,h5,h6,h7,h8⟩:=hB;obtain ⟨seen',e,g1,rfl,g3,g4⟩:=h8 p rfl;refine ⟨_,run_entry_at w _ m since seen' arr since e h1 h3 g1 h4.1,?_⟩;refine .tup (us:=#[e.key,e.val]) rfl fun i c u hc hu=>?_
    match i with
    | 0=>simp at hc hu; subst hc; subst hu; rw [g3]; exact .cv (.pure (.str _))
    | 1=>simp at hc hu; subst hc; subst hu; exact Abx E g4
    | i+2=>simp at hc
  ·cases h
 ·cases h
def Adq (P:Program) (op:BinOp) (t:TypeId) (y:Operand) (u v:AV T):Option Bool :=
 match u,v,y with
 | .cv (.lit .nilIface),.cv (.lit .nilIface),.const _=>match P.underlying t,op with
  | some (.interface _),.eql=>some true
  | some (.interface _),.neq=>some false
  | _,_=>none
 | _,_,_=>none
theorem Abw {op:BinOp} {t:TypeId} {xo yo:Operand} {u v:AV T} {b:Bool} {x y:Value} {E:Uv T} (h:Adq P op t yo u v=some b) (hx:RA E w Z ρ u x) (hy:RA E w Z ρ v y) :
  (do eqGuard op t xo yo x y; binOp op t x y:Sem Value).run P w=.ok (.bool b) w:=by
 unfold Adq at h;split at h
 ·have e1:=Ua E hx;have e2:=Ua E hy;subst e1; subst e2;split at h
  ·rename_i hu;cases h;have hq:(Op.equal t .nilIface .nilIface).run P w=.ok true w:=by
    unfold Op.equal Op.maxDepth Op.equalIn;simp [Sem.run_bind,run_underlying hu,Result.andThen]
   unfold eqGuard binOp;simp [Sem.run_bind,Result.andThen,hq]
  ·rename_i hu;cases h;have hq:(Op.equal t .nilIface .nilIface).run P w=.ok true w:=by
    unfold Op.equal Op.maxDepth Op.equalIn;simp [Sem.run_bind,run_underlying hu,Result.andThen]
   unfold eqGuard binOp;simp [Sem.run_bind,Result.andThen,hq]
  ·cases h
 ·cases h
def evTA (P:Program) (ta:TypeId) (ok:Bool):AV T→Res T
 | .cv (.ifc t true cs)=>match P.underlying ta with
  | some (.struct _)=>bif Nat.beq t ta then some ([],bif ok then .tup [.agg cs,.cv (.lit (.bool true))] else .agg cs) else none
  | _=>none
 | _=>none
theorem Adz {E:Uv T} {xt ta:TypeId} {ok:Bool} {x r:AV T} {cs:List Prop} {v:Value} (h:evTA P ta ok x=some (cs,r)) (hx:RA E w Z ρ x v) :
  ∃ r',(Instr.typeAssert v xt ta ok).run P w=.ok r' w∧RA E w Z ρ r r':=by
 unfold evTA at h;split at h
 ·rename_i t cs';split at h
  ·rename_i fs hu;cases hb:Nat.beq t ta with
   | false=>rw [hb] at h; cases h
   | true =>
    rw [hb] at h;cases h
    have:=Nat.eq_of_beq_eq_true hb
    subst this;cases hx with | cv hx =>
    cases hx with
    | pure hx=>cases hx
    | @ifca _ _ us h1 h2 =>
     cases ok with
     | true =>
      refine ⟨.tuple #[.agg us,.bool true],?_,.tup (us:=#[.agg us,.bool true]) rfl fun i c u hc hu=>?_⟩
      ·unfold Instr.typeAssert;simp [Sem.run_bind,run_underlying hu,Result.andThen]
      ·match i with
       | 0=>simp at hc hu; subst hc; subst hu; exact .agg h1 h2
       | 1=>simp at hc hu; subst hc; subst hu; exact Vf E
       | i+2=>simp at hc
     | false =>
      refine ⟨.agg us,?_,.agg h1 h2⟩;unfold Instr.typeAssert;simp [Sem.run_bind,run_underlying hu,Result.andThen]
  ·cases h
 ·cases h
def evV (P:Program) (H:List (Nat×T9 T)) (get:Operand→Option (AV T)) (o:Oper):Res T :=
 match o.op with
 | .move x=>match get x with | some v=>some ([],v) | none=>none
 | .assign x=>match get x with | some v=>some ([],v) | none=>none
 | .pick c a b=>match get c,get a,get b with | some c,some a,some b=>Ado c a b | _,_,_=>none
 | .build t parts=>Ab4 P t (parts.toList.map fun p=>(p.1,get p.2))
 | .load t x=>match get x with | some v=>Adv V.E P H t v | none=>none
 | .nilCheck x=>match get x with | some v=>Af6 v | none=>none
 | .binOp op t x y _=>match get x,get y with
  | some u,some v=>match Adq P op t y u v with
   | some b=>some ([],.cv (.lit (.bool b)))
   | none=>Ae5 P op t u v
  | _,_=>none
 | .unOp op _ x=>match get x with | some v=>evUn op v | none=>none
 | .convert s d x=>match get x with | some v=>Yv V.E V.isB V.toB P H s d v | none=>none
 | .makeInterface t x=>match get x with | some v=>evMI P t v | none=>none
 | .makeFunc f first caps=>match Acl get first.toList,Acl get caps.toList with | some a,some b=>some ([],.cv (.fn f a b)) | _,_=>none
 | .slice t x lo hi none=>match get x,opt get lo,opt get hi with | some v,some l,some h=>Aca V.E P t v l h | _,_,_=>none
 | .fieldAddr t x f=>match get x with | some v=>Vh P t f v | none=>none
 | .field t x f=>match get x with | some v=>Abo P t f v | none=>none
 | .indexAddr t x y=>match get x,get y with | some u,some v=>W6 V.E P H t u v | _,_=>none
 | .index t x y=>match get x,get y with | some u,some v=>Ab9 P t u v | _,_=>none
 | .extract x i=>match get x with | some v=>Yr i v | none=>none
 | .lookup t x k ok=>match get x,get k with | some v,some (.cv (.str k))=>Aaa V.E P H t v k ok | _,_=>none
 | .entry x=>match get x with | some v=>Ace V.E H v | none=>none
 | .typeAssert x _ ta ok=>match get x with | some v=>evTA P ta ok v | none=>none
 | .call c=>match c.callee with
  | .builtin .len=>match c.args.toList,c.argTypes.toList with
   | [x],[t]=>match get x with | some v=>Ae4 P t H v | none=>none
   | _,_=>none
  | .builtin .max=>match c.args.toList with
   | [x,y]=>match get x,get y with | some u,some v=>evMM true u v | _,_=>none
   | _=>none
  | .builtin .min=>match c.args.toList with
   | [x,y]=>match get x,get y with | some u,some v=>evMM false u v | _,_=>none
   | _=>none
  | _=>none
 | _=>none
theorem arr1 {α:Type} {a:Array α} {x:α} (h:a.toList=[x]):a = #[x]:=by
 cases a; simp at h; subst h; rfl
theorem Abu {α:Type} {a:Array α} {x y:α} (h:a.toList=[x,y]):a = #[x,y]:=by
 cases a; simp at h; subst h; rfl
theorem Ye {E:Uv T} {get:Operand→Option (AV T)} {a:Act} (hg:∀ x v,get x=some v→RA E w Z ρ v (a.eval x)) {x:Option Operand} {r:Option (AV T)} (h:opt get x=some r) :
  (∀ v,r=some v→∃ u,x.map a.eval=some u∧RA E w Z ρ v u)∧(r=none→x.map a.eval=none):=by
 unfold opt at h;split at h
 ·cases h; exact ⟨fun v hv=>(by cases hv),fun _=>rfl⟩
 ·split at h
  ·rename_i v hv;cases h;exact ⟨fun v' hv'=>(by cases hv'; exact ⟨_,rfl,hg _ _ hv⟩),fun h=>(by cases h)⟩
  ·cases h
theorem Xg (L:V.E.Law V.isB V.toB) {H:List (Nat×T9 T)} {get:Operand→Option (AV T)} {a:Act} {o:Oper} {cs:List Prop} {r:AV T} (h:evV V P H get o=some (cs,r)) (hcs:Us cs)
  (hG:GOK V w Z) (hg:∀ x v,get x=some v→RA V.E w Z ρ v (a.eval x)) (hH:∀ id blk,look id H=some blk→BR V.E w Z ρ blk (ρ id)) :
  ∃ r',(execOp a.eval o).run P w=.ok (.value r') w∧RA V.E w Z ρ r r':=by
 unfold evV at h;unfold execOp;split at h <;> rename_i heq <;>(try (rw [heq]; dsimp only))
 ·-- move
  split at h
  ·rename_i v hv; cases h; exact ⟨_,rfl,hg _ _ hv⟩
  ·cases h
 ·split at h
  ·rename_i v hv; cases h; exact ⟨_,rfl,hg _ _ hv⟩
  ·cases h
 ·-- pick
  split at h
  ·rename_i h1 h2 h3;obtain ⟨r',e1,e2⟩:=Abv V.E (P:=P) h (hg _ _ h1) (hg _ _ h2) (hg _ _ h3);refine ⟨r',?_,e2⟩;simp only [Sem.run_bind,Sem.run_pure] at e1 ⊢;revert e1;cases (asBool (a.eval _)).run P w with
   | ok b w'=>intro e1; simp only [Result.andThen,Result.ok.injEq] at e1 ⊢; obtain ⟨e1,rfl⟩:=e1; exact ⟨by rw [e1],rfl⟩
   | halt h w'=>intro e1; simp [Result.andThen] at e1
  ·cases h
 ·-- build
  rename_i t parts;obtain ⟨r',e1,e2⟩:=Aao V.E (P:=P) (w:=w) (Z:=Z) (ρ:=ρ) (vparts:=parts.map fun p=>(p.1,a.eval p.2)) h (by simp [List.map_map,Function.comp_def]) (fun i p q x hp hq hx=>by
   simp only [Array.toList_map,List.getElem?_map,Option.map_eq_some_iff] at hp hq;obtain ⟨y,hy,rfl⟩:=hp;obtain ⟨y',hy',rfl⟩:=hq;rw [hy] at hy'; cases hy';exact hg _ _ hx)
  exact ⟨r',by simp only [Sem.run_bind]; erw [e1]; rfl,e2⟩
 ·-- load
  split at h
  ·rename_i v hv;obtain ⟨r',e1,e2⟩:=Acf V.E h (hg _ _ hv) hcs hH;exact ⟨r',by simp [e1],e2⟩
  ·cases h
 ·-- nilCheck
  split at h
  ·rename_i v hv;have hx:=hg _ _ hv;revert hx;generalize a.eval _=u;intro hx;unfold Af6 at h;split at h
   ·cases h;obtain ⟨b,e⟩:=Abq V.E hx;subst e;exact ⟨_,rfl,hx⟩
   ·cases h;cases hx with | cv hx' =>
    cases hx' with
    | pure hx'=>cases hx'
    | pel hr=>exact ⟨_,rfl,.cv (.pel hr)⟩
   ·cases h;cases hx with | cv hx' =>
    cases hx' with
    | pure hx'=>cases hx' with | pcs _ _ a u hz hc hr=>exact ⟨_,rfl,.cv (.pure (.pcs _ _ a u hz hc hr))⟩
    | pcs _ _ a u hz hc hr=>exact ⟨_,rfl,.cv (.pcs _ _ a u hz hc hr)⟩
   ·cases h;obtain ⟨x,y,e⟩:=Ad2 V.E hx;subst e;exact ⟨_,rfl,hx⟩
   ·cases h;obtain ⟨x,e⟩:=Acd V.E hx;subst e;exact ⟨_,rfl,hx⟩
   ·cases h
  ·cases h
 ·-- binOp
  split at h
  ·rename_i h1 h2;split at h
   ·rename_i b hq;cases h;exact ⟨.bool b,by rw [Sem.run_bind,Abw hq (hg _ _ h1) (hg _ _ h2)]; rfl,Vf V.E⟩
   ·obtain ⟨r',e1,e2⟩:=Aco V.E (P:=P) h (hg _ _ h1) (hg _ _ h2) hcs;exact ⟨r',by rw [Sem.run_bind,e1]; rfl,e2⟩
  ·cases h
 ·split at h
  ·rename_i h1;obtain ⟨r',e1,e2⟩:=Ade V.E (P:=P) h (hg _ _ h1);exact ⟨r',by simp [e1],e2⟩
  ·cases h
 ·split at h
  ·rename_i h1;obtain ⟨r',e1,e2⟩:=Zc V.E L h (hg _ _ h1) hcs hH;exact ⟨r',by simp [e1],e2⟩
  ·cases h
 ·split at h
  ·rename_i h1;obtain ⟨r',e1,e2⟩:=Adt V.E (P:=P) h (hg _ _ h1);exact ⟨r',by simp [e1],e2⟩
  ·cases h
 ·-- makeFunc
  split at h
  ·rename_i f first caps _ _ x y h1 h2
   cases h;obtain ⟨l1,r1⟩:=Xd hg _ _ h1;obtain ⟨l2,r2⟩:=Xd hg _ _ h2;refine ⟨.func f (first.map a.eval) (caps.map a.eval),by simp [Instr.makeFunc],.cv (.fn (by simp at l1 ⊢; exact l1) (by simp at l2 ⊢; exact l2) (fun i c v hc hv=>r1 i c v hc ?_) (fun i c v hc hv=>r2 i c v hc ?_))⟩
   ·rw [← Array.toList_map,Array.getElem?_toList]; exact hv
   ·rw [← Array.toList_map,Array.getElem?_toList]; exact hv
  ·cases h
 ·-- slice
  split at h
  ·rename_i h1 h2 h3;obtain ⟨r',e1,e2⟩:=Aax V.E (P:=P) h (hg _ _ h1) hcs (Ye hg h2).1 (Ye hg h2).2 (Ye hg h3).1 (Ye hg h3).2;exact ⟨r',by simp [e1],e2⟩
  ·cases h
 ·split at h
  ·rename_i h1;obtain ⟨r',e1,e2⟩:=Wl V.E h (hg _ _ h1);exact ⟨r',by simp [e1],e2⟩
  ·cases h
 ·split at h
  ·rename_i h1;obtain ⟨r',e1,e2⟩:=Aap V.E (P:=P) h (hg _ _ h1);exact ⟨r',by simp [e1],e2⟩
  ·cases h
 ·split at h
  ·rename_i h1 h2;obtain ⟨r',e1,e2⟩:=Yg V.E hH h (hg _ _ h1) (hg _ _ h2) hcs;exact ⟨r',by simp [e1],e2⟩
  ·cases h
 ·split at h
  ·rename_i h1 h2;obtain ⟨r',e1,e2⟩:=Aat V.E h (hg _ _ h1) (hg _ _ h2) hcs;exact ⟨r',by simp [e1],e2⟩
  ·cases h
 ·split at h
  ·rename_i h1;obtain ⟨r',e1,e2⟩:=Ze V.E (P:=P) h (hg _ _ h1);exact ⟨r',by simp [e1],e2⟩
  ·cases h
 ·-- lookup
  split at h
  ·rename_i h1 h2;obtain ⟨r',e1,e2⟩:=Zn (P:=P) hH h (hg _ _ h1)
   have:=Uu V.E (hg _ _ h2)
   exact ⟨r',by rw [this]; simp [e1],e2⟩
  ·cases h
 ·split at h
  ·rename_i h1;obtain ⟨r',e1,e2⟩:=Aau (P:=P) hH h (hg _ _ h1);exact ⟨r',by simp [e1],e2⟩
  ·cases h
 ·split at h
  ·rename_i h1;obtain ⟨r',e1,e2⟩:=Adz (P:=P) h (hg _ _ h1);exact ⟨r',by simp only [Sem.run_bind]; erw [e1]; rfl,e2⟩
  ·cases h
 ·-- call
  split at h <;> rename_i hcal
  ·split at h
   ·rename_i x t hargs htys;split at h
    ·rename_i v hv;obtain ⟨r',e1,e2⟩:=Acx V.E (P:=P) (w:=w) (ty:=o.type) hH h (hg _ _ hv);refine ⟨r',?_,e2⟩;simp [resolve,hcal,invoke,builtin,arr1 hargs,arr1 htys,e1]
    ·cases h
   ·cases h
  ·split at h
   ·rename_i x y hargs;split at h
    ·rename_i u v hu hv;unfold evMM at h;split at h
     ·cases h;have e1:=Ua V.E (hg _ _ hu);have e2:=Ua V.E (hg _ _ hv);refine ⟨_,?_,Vb V.E⟩;simp [resolve,hcal,invoke,builtin,Abu hargs,e1,e2,Builtin.max_,Builtin.max2]
     ·cases h
    ·cases h
   ·cases h
  ·split at h
   ·rename_i x y hargs;split at h
    ·rename_i u v hu hv;unfold evMM at h;split at h
     ·cases h;have e1:=Ua V.E (hg _ _ hu);have e2:=Ua V.E (hg _ _ hv);refine ⟨_,?_,Vb V.E⟩;simp [resolve,hcal,invoke,builtin,Abu hargs,e1,e2,Builtin.min_,Builtin.min2]
     ·cases h
    ·cases h
   ·cases h
  ·cases h
 ·cases h
end
end Go.Proofs.YtdgejpgbppfhmaaGreatDoor.Eng
namespace Go.Proofs.YtdgejpgbppfhmaaGreatDoor.Eng
open Go.RowKit (Below)
def del {α:Type} (t:Nat):List (Nat×α)→List (Nat×α)
 | []=>[]
 |(s,v) :: r=>bif Nat.beq s t then del t r else (s,v) :: del t r
theorem Uj {α:Type} (t s:Nat) (l:List (Nat×α)):look s (del t l)=if s=t then none else look s l:=by
 induction l with
 | nil=>simp [del,look]
 | cons p r ih =>
  obtain ⟨q,v⟩:=p;simp only [del];cases hb:Nat.beq q t with
  | true =>
   have:=Nat.eq_of_beq_eq_true hb
   subst this;simp only [cond_true,ih,look];by_cases h:s=q
   ·simp [h]
   ·have:Nat.beq q s=false:=by
     cases hh:Nat.beq q s with
     | false=>rfl
     | true=>exact absurd (Nat.eq_of_beq_eq_true hh).symm h
    simp [h,this]
  | false =>
   have hne:q≠t:=fun e=>by subst e; simp at hb
   simp only [cond_false,look,ih];cases hs:Nat.beq q s with
   | true=>have:=Nat.eq_of_beq_eq_true hs; subst this; simp [hne]
   | false=>simp
theorem T6 {α:Type} (t s:Nat) (v:α) (l:List (Nat×α)):look s ((t,v) :: l)=if s=t then some v else look s l:=by
 simp only [look];by_cases h:s=t
 ·subst h; simp
 ·have:Nat.beq t s=false:=by
   cases hh:Nat.beq t s with
   | false=>rfl
   | true=>exact absurd (Nat.eq_of_beq_eq_true hh).symm h
  simp [h,this]
section
variable {Tag:Type} {T:Tag→Type} (V:V6 T)
def St.put (S:St T) (d:Option Tmp) (v:AV T):St T :=
 match d with
 | some d=>{ S with tmps:=(d,v) :: del d S.tmps }
 | none=>S
def St.new (S:St T) (id:Nat) (b:T9 T):St T:={ S with heap:=(id,b) :: del id S.heap }
def T9.names (id:Nat):T9 T→Bool
 | .raw cs=>CV.names.namesL id cs
 | _=>false
def St.named (S:St T) (id:Nat):Bool:=S.tmps.any (fun p=>p.2.names id) || S.heap.any (fun p=>p.2.names id)
structure Ue where
 w0:World
 Z0:Nat→Prop
 D:Nat→Nat→Prop
 st:List (Nat×Option (Nat×Nat×Nat))
 ds:List Deferred:=[]
structure Ul (n m:Nat) (Γ:Ue) (S:St T) (Z:Nat→Prop) (ρ:Nat→Option (Nat×Nat×Nat)) (a:Act) (w:World):Prop where
 defers:a.defers=Γ.ds
 size:a.tmps.size=n
 tmps:∀ t v,look t S.tmps=some v→RA V.E w Z ρ v (a.tmps.getD t undef)
 os:w.os=Γ.w0.os
 tape:w.tape=Γ.w0.tape
 output:w.output=Γ.w0.output
 hsize:Γ.w0.heap.size≤w.heap.size
 old:∀ b,b < Γ.w0.heap.size→(∀ id,¬ Γ.D id b)→w.heap[b]? = Γ.w0.heap[b]?
 stm:∀ p∈Γ.st,p.1 < m
 st:∀ p∈Γ.st,ρ p.1=p.2
 dlt:∀ id b,Γ.D id b→id < 100
 Z0:∀ b,Γ.Z0 b→Z b
 Zold:∀ b,Z b→b < Γ.w0.heap.size→Γ.Z0 b
 Zlt:∀ b,Z b→b < w.heap.size
 glb:GOK V w Z
 own:∀ id blk b c,look id S.heap=some blk→ρ id=some (b,c)→b < w.heap.size∧¬ Z b∧(Γ.w0.heap.size≤b∨Γ.D id b)
 inj:∀ id id' blk blk' b c c',look id S.heap=some blk→look id' S.heap=some blk'→ρ id=some (b,c)→ρ id'=some (b,c')→id=id'
 blk:∀ id blk,look id S.heap=some blk→BR V.E w Z ρ blk (ρ id)
theorem Ul.zok {n m:Nat} {Γ:Ue} {S:St T} {Z:Nat→Prop} {ρ:Nat→Option (Nat×Nat×Nat)} {a:Act} {w:World} (h:Ul V n m Γ S Z ρ a w):ZOK V w Z:=⟨h.Zlt,h.glb⟩
variable {V} {n m:Nat} {Γ:Ue} {S:St T} {Z:Nat→Prop} {ρ:Nat→Option (Nat×Nat×Nat)} {a:Act} {w:World}
theorem Ul.get (h:Ul V n m Γ S Z ρ a w):∀ x v,S.get x=some v→RA V.E w Z ρ v (a.eval x):=by
 intro x v hv;cases x with
 | tmp t=>exact h.tmps t v hv
 | const c =>
  cases hv;show RA V.E w Z ρ (absV c) c;unfold absV;split
  ·rename_i cs;cases hall:cs.toList.all (·.oneCell') with
   | true =>
    have:=RL.absC V.E (w:=w) (Z:=Z) (ρ:=ρ) hall
    exact .agg this.1 this.2
   | false=>exact .any
  ·exact .any
  ·exact .cv (Ad6 V.E (by cases c <;> first | rfl |(rename_i h1 h2; exact absurd rfl (h1 _)) |(rename_i h1 h2; exact absurd rfl (h2 _))))
 | global g=>cases hv
 | func f=>cases hv; exact .cv (.fn rfl rfl (fun i c v hc=>by simp at hc) (fun i c v hc=>by simp at hc))
theorem BR.mono {w':World} {Z':Nat→Prop} {ρ':Nat→Option (Nat×Nat×Nat)} (hZ:∀ b,Z b→Z' b) (hw:∀ b,Z b→w'.heap[b]? = w.heap[b]?) {B:T9 T} {bc:Option (Nat×Nat×Nat)}
  (hb:∀ b c,bc=some (b,c)→w'.heap[b]? = w.heap[b]?) (h:BR V.E w Z ρ B bc) (hn:∀ id,B.names id=true→ρ' id=ρ id):BR V.E w' Z' ρ' B bc:=by
 cases B with
 | raw cs =>
  cases bc with
  | none=>exact h
  | some p =>
   obtain ⟨b,c⟩:=p;obtain ⟨arr,e,h1,h3,h4⟩:=h;refine ⟨arr,e,(hb b c rfl).trans h1,h3,fun i c u hc hu=>(h4 i c u hc hu).mono V.E hZ hw fun id hid=>hn id ?_⟩;simp only [T9.names];cases hh:CV.names.namesL id cs with
   | true=>rfl
   | false=>rw [CV.namesL_false hh hc] at hid; exact hid
 | lst t xs =>
  cases bc with
  | none=>exact h
  | some p =>
   obtain ⟨b,c⟩:=p;obtain ⟨h0,arr,h1,h2,h3,h4,h5⟩:=h;exact ⟨h0,arr,(hb b c rfl).trans h1,h2,h3,h4,fun i x j c u hx hc hu=>(h5 i x j c u hx hc hu).mono V.E hZ hw⟩
 | fz t xs =>
  cases bc with
  | none=>exact h
  | some p =>
   obtain ⟨b,c⟩:=p;obtain ⟨h0,arr,fr,h1,h2,h3,h4,h5⟩:=h;exact ⟨h0,arr,fr,(hb b c rfl).trans h1,h2,h3,h4,fun i x j c u hx hc hu=>(h5 i x j c u hx hc hu).mono V.E hZ hw⟩
 | mpb t es =>
  cases bc with
  | none=>exact h
  | some p =>
   obtain ⟨b,c⟩:=p;obtain ⟨arr,clock,h1,h2⟩:=h;exact ⟨arr,clock,(hb b c rfl).trans h1,h2.mono V.E hZ hw⟩
 | zr t vs =>
  cases bc with
  | none=>exact h
  | some p =>
   obtain ⟨b,c⟩:=p;exact (hb b c rfl).trans h
 | itr t left cur =>
  cases bc with
  | none=>exact h
  | some p =>
   obtain ⟨b,c⟩:=p;obtain ⟨m,since,seen,arr,h1,h2,h3,h4,h5,h6,⟨f,h7,h8⟩,h9⟩:=h;refine ⟨m,since,seen,arr,(hb b c rfl).trans h1,hZ _ h2,(hw _ h2).trans h3,h4,h5,h6,⟨f,h7,fun e he=>(h8 e he).mono V.E hZ hw⟩,fun p hp=>?_⟩;obtain ⟨s',e,g1,g2,g3⟩:=h9 p hp;exact ⟨s',e,g1,g2,g3.mono V.E hZ hw⟩
theorem Xj {a:Act} {d:Option Tmp} {v:Value} (t:Nat):(a.put d v).tmps.getD t undef=if d=some t∧t < a.tmps.size then v else a.tmps.getD t undef:=by
 cases d with
 | none=>simp [Act.put]
 | some d =>
  simp only [Act.put,Array.getD_eq_getD_getElem?];by_cases h:d=t
  ·subst h;by_cases hlt:d < a.tmps.size
   ·simp [hlt]
   ·simp [hlt]
  ·rw [Array.getElem?_setIfInBounds_ne h];simp [h]
theorem Wr {a:Act} {d:Option Tmp} {v:Value}:(a.put d v).tmps.size=a.tmps.size:=by cases d <;> simp [Act.put]
theorem Vm {a:Act} {d:Option Tmp} {v:Value}:(a.put d v).defers=a.defers:=by cases d <;> rfl
def Xw (n:Nat):Option Tmp→Bool
 | none=>true
 | some d=>Nat.blt d n
structure Onto (w w':World) (Z Z':Nat→Prop):Prop where
 below:Below w.heap.size w w'
 sub:∀ b,Z b→Z' b
 fresh:∀ b,Z' b→Z b∨(w.heap.size≤b∧b < w'.heap.size)
theorem Onto.refl (w:World) (Z:Nat→Prop):Onto w w Z Z:=⟨Below.refl _ _,fun _ h=>h,fun _ h=>.inl h⟩
theorem Ul.onto (h:Ul V n m Γ S Z ρ a w) {w':World} {Z':Nat→Prop} (ho:Onto w w' Z Z'):Ul V n m Γ S Z' ρ a w' where
 defers:=h.defers
 size:=h.size
 tmps t v hv:=(h.tmps t v hv).mono V.E ho.sub (fun b hb=>ho.below.block b (h.Zlt b hb)) (fun _ _=>rfl)
 os:=ho.below.os.trans h.os
 tape:=ho.below.tape.trans h.tape
 output:=ho.below.output.trans h.output
 hsize:=Nat.le_trans h.hsize ho.below.size
 old b hb hp:=(ho.below.block b (Nat.lt_of_lt_of_le hb h.hsize)).trans (h.old b hb hp)
 stm:=h.stm
 dlt:=h.dlt
 st:=h.st
 Z0 b hb:=ho.sub b (h.Z0 b hb)
 Zold b hb hlt:=by
  rcases ho.fresh b hb with h1 | h1
  ·exact h.Zold b h1 hlt
  ·have:=h.hsize; omega
 glb:=h.glb.mono ho.sub (fun b hb=>ho.below.block b (h.Zlt b hb))
 Zlt b hb:=by
  rcases ho.fresh b hb with h1 | h1
  ·exact Nat.lt_of_lt_of_le (h.Zlt b h1) ho.below.size
  ·exact h1.2
 own id blk b c hl hr:=by
  obtain ⟨h1,h2,h3⟩:=h.own id blk b c hl hr;refine ⟨Nat.lt_of_lt_of_le h1 ho.below.size,fun hz=>?_,h3⟩;rcases ho.fresh b hz with h4 | h4
  ·exact h2 h4
  ·omega
 inj:=h.inj
 blk id blk hl:=BR.mono ho.sub (fun b hb=>ho.below.block b (h.Zlt b hb)) (fun b c hbc=>ho.below.block b (h.own id blk b c hl hbc).1) (h.blk id blk hl) (fun _ _=>rfl)
theorem Ul.put (h:Ul V n m Γ S Z ρ a w) {d:Option Tmp} (hd:Xw n d=true) {r:AV T} {v:Value} (hr:RA V.E w Z ρ r v):Ul V n m Γ (S.put d r) Z ρ (a.put d v) w:=by
 have key:∀ t v',look t (S.put d r).tmps=some v'→RA V.E w Z ρ v' ((a.put d v).tmps.getD t undef):=by
  intro t v' hv;rw [Xj];cases d with
  | none=>simpa using h.tmps t v' hv
  | some d =>
   simp only [St.put] at hv;rw [T6] at hv;by_cases ht:t=d
   ·subst ht;rw [if_pos rfl] at hv;cases hv;rw [if_pos ⟨rfl,by rw [h.size]; exact Nat.le_of_ble_eq_true hd⟩];exact hr
   ·rw [if_neg ht,Uj,if_neg ht] at hv;rw [if_neg (fun e=>ht (by cases e.1; rfl))];exact h.tmps t v' hv
 have hh:(S.put d r).heap=S.heap:=by cases d <;> rfl
 exact { h with
  defers:=by rw [Vm]; exact h.defers
  size:=by rw [Wr]; exact h.size
  tmps:=key
  own:=by rw [hh]; exact h.own
  inj:=by rw [hh]; exact h.inj
  blk:=by rw [hh]; exact h.blk }
def Zu (ρ:Nat→Option (Nat×Nat×Nat)) (id:Nat) (p:Nat×Nat×Nat):Nat→Option (Nat×Nat×Nat):=fun i=>if i=id then some p else ρ i
theorem Xy {id:Nat} (h:S.named id=false) {t:Nat} {v:AV T} (hl:look t S.tmps=some v):v.names id=false:=by
 unfold St.named at h;simp only [Bool.or_eq_false_iff] at h;have h1:=h.1;revert hl;generalize S.tmps=l at h1
 induction l with
 | nil=>intro hl; cases hl
 | cons p r ih =>
  obtain ⟨q,u⟩:=p;simp only [List.any_cons,Bool.or_eq_false_iff] at h1;intro hl;simp only [look] at hl;cases hq:Nat.beq q t with
  | true=>rw [hq] at hl; cases hl; exact h1.1
  | false=>rw [hq] at hl; exact ih h1.2 hl
theorem X2 {id:Nat} (h:S.named id=false) {t:Nat} {v:T9 T} (hl:look t S.heap=some v):v.names id=false:=by
 unfold St.named at h;simp only [Bool.or_eq_false_iff] at h;have h1:=h.2;revert hl;generalize S.heap=l at h1
 induction l with
 | nil=>intro hl; cases hl
 | cons p r ih =>
  obtain ⟨q,u⟩:=p;simp only [List.any_cons,Bool.or_eq_false_iff] at h1;intro hl;simp only [look] at hl;cases hq:Nat.beq q t with
  | true=>rw [hq] at hl; cases hl; exact h1.1
  | false=>rw [hq] at hl; exact ih h1.2 hl
theorem Ul.new (h:Ul V n m Γ S Z ρ a w) {id:Nat} (hm:m≤id) (hn:S.named id=false) {w':World} (hw:Below w.heap.size w w') {b:Nat} {c:Nat×Nat} (hb:w.heap.size≤b) (hb':b < w'.heap.size)
  {B:T9 T} (hB:BR V.E w' Z (Zu ρ id (b,c)) B (some (b,c))):Ul V n m Γ (S.new id B) Z (Zu ρ id (b,c)) a w' where
 defers:=h.defers
 size:=h.size
 tmps t v hv:=(h.tmps t v hv).mono V.E (fun _ h=>h) (fun b hb=>hw.block b (h.Zlt b hb)) (fun i hi=>by
  unfold Zu; rw [if_neg]; intro e; subst e; rw [Xy hn hv] at hi; cases hi)
 os:=hw.os.trans h.os
 tape:=hw.tape.trans h.tape
 output:=hw.output.trans h.output
 hsize:=Nat.le_trans h.hsize hw.size
 old b hb hp:=(hw.block b (Nat.lt_of_lt_of_le hb h.hsize)).trans (h.old b hb hp)
 stm:=h.stm
 dlt:=h.dlt
 st p hp:=by
  unfold Zu; rw [if_neg]; exact h.st p hp
  have:=h.stm p hp; omega
 Z0:=h.Z0
 Zold:=h.Zold
 Zlt b hb:=Nat.lt_of_lt_of_le (h.Zlt b hb) hw.size
 glb:=h.glb.mono (fun _ h=>h) (fun b hb=>hw.block b (h.Zlt b hb))
 own i blk b1 c1 hl hr:=by
  simp only [St.new] at hl;rw [T6] at hl;by_cases hi:i=id
  ·subst hi;unfold Zu at hr;rw [if_pos rfl] at hr;cases hr;exact ⟨hb',fun hz=>by have:=h.Zlt _ hz; omega,.inl (Nat.le_trans h.hsize hb)⟩
  ·rw [if_neg hi,Uj,if_neg hi] at hl;unfold Zu at hr;rw [if_neg hi] at hr;obtain ⟨h1,h2,h3⟩:=h.own i blk b1 c1 hl hr;exact ⟨Nat.lt_of_lt_of_le h1 hw.size,h2,h3⟩
 inj i i' blk blk' b1 c1 c2 hl hl' hr hr':=by
  simp only [St.new] at hl hl';rw [T6] at hl hl';unfold Zu at hr hr';by_cases hi:i=id
  ·by_cases hi':i'=id
   ·exact hi.trans hi'.symm
   ·rw [if_neg hi',Uj,if_neg hi'] at hl';rw [if_neg hi'] at hr';rw [if_pos hi] at hr;cases hr
    have:=(h.own i' blk' _ _ hl' hr').1
    omega
  ·rw [if_neg hi,Uj,if_neg hi] at hl;rw [if_neg hi] at hr;by_cases hi':i'=id
   ·rw [if_pos hi'] at hr';cases hr'
    have:=(h.own i blk _ _ hl hr).1
    omega
   ·rw [if_neg hi',Uj,if_neg hi'] at hl';rw [if_neg hi'] at hr';exact h.inj i i' blk blk' b1 c1 c2 hl hl' hr hr'
 blk i blk hl:=by
  simp only [St.new] at hl;rw [T6] at hl;by_cases hi:i=id
  ·rw [if_pos hi] at hl;cases hl;unfold Zu;rw [if_pos hi];exact hB
  ·rw [if_neg hi,Uj,if_neg hi] at hl
   have:Zu ρ id (b,c) i=ρ i:=by unfold Zu; rw [if_neg hi]
   rw [this];refine BR.mono (fun _ h=>h) (fun b hb=>hw.block b (h.Zlt b hb)) (fun b1 c1 hbc=>hw.block b1 (h.own i blk b1 c1 hl hbc).1) (h.blk i blk hl) (fun j hj=>?_);unfold Zu;rw [if_neg];intro e; subst e;rw [X2 hn hl] at hj; cases hj
end
end Go.Proofs.YtdgejpgbppfhmaaGreatDoor.Eng
namespace Go.Proofs.YtdgejpgbppfhmaaGreatDoor.Eng
open Go.RowKit (Below)
section
variable {Tag:Type} {T:Tag→Type} (V:V6 T)
variable {P:Program} {w:World} {Z:Nat→Prop} {ρ:Nat→Option (Nat×Nat×Nat)}
def Af7 (P:Program) (t:TypeId):Option (List (CV T)) :=
 match P.info? t with
 | some i=>match i.zero with
  | some z=>bif z.cells.toList.all (·.oneCell') then some (z.cells.toList.map absC) else none
  | none=>none
 | none=>none
def Ab1 (E:Uv T) (tg:Tag):Nat→List (CV T)→Option (List Prop×List (T tg))
 | 0,_=>some ([],[])
 | n+1,cs=>match E.un tg (cs.take (E.sz tg)),Ab1 E tg n (cs.drop (E.sz tg)) with
  | some (ps,x),some (qs,xs)=>some (ps++qs,x :: xs)
  | _,_=>none
def evA (P:Program) (nid:Nat) (get:Operand→Option (AV T)) (o:Oper):Option (List Prop×AV T×Option (T9 T)) :=
 match o.op with
 | .alloc t=>bif V.typd t then (match P.info? t with
   | some i=>match i.zero with
    | some z=>some ([],.cv (.ptr nid 0),some (.zr t z.cells.toList))
    | none=>none
   | none=>none) else (match Af7 P t with
  | some cs=>bif CV.names.namesL nid cs then none else some ([],.cv (.ptr nid 0),some (.raw cs))
  | none=>none)
 | .box t x=>match get x with
  | some v=>match v.cellsOf with
   | some cs=>bif CV.names.namesL nid cs then none else some ([],.cv (.ptr nid 0),some (.raw cs))
   | none=>none
  | none=>none
 | .buildSlice t len parts=>match P.underlying t with
  | some (.slice e)=>match P.info? e with
   | some ie=>match ie.zero with
    | some z=>match len with
     | 0=>match V.E.ofTy e,parts.toList with
      | some tg,[]=>bif U5 V.E P t tg then some ([],.cv (.own tg nid),some (.lst tg [])) else none
      | _,_=>none
     | len'+1 =>
      let zs:=(Array.range ((len'+1) * ie.size)).map (z.cells[· % z.cells.size]!)
      bif Nat.ble ((len'+1) * ie.size) 10000 && Nat.blt 0 ie.size && zs.toList.all (·.oneCell') then
       (match Abi (fun i=>some (i * ie.size,ie.size)) (zs.toList.map absC) (parts.toList.map fun p=>(p.1,get p.2)) with
       | some cs=>match V.E.ofTy e with
        | some tg=>bif U5 V.E P t tg then (match Ab1 V.E tg (len'+1) cs with
         | some (ps,xs)=>bif (V.isB tg || Nat.ble 100000 nid) && Nat.beq cs.length ((len'+1) * ie.size) then some (ps,.cv (.own tg nid),some (.lst tg xs)) else some (ps,.cv (.ro tg xs),none)
         | none=>none) else none
        | none=>bif Nat.beq ie.size 1 && Nat.beq cs.length (len'+1) then some ([],.cv (.rol cs),none) else none
       | none=>none) else none
    | none=>none
   | none=>none
  | _=>none
 | .makeSlice t l c=>match get l,get c,P.underlying t with
  | some (.cv (.lit (.int _ n))),some (.cv (.lit (.int _ m))),some (.slice e)=>match P.info? e with
   | some ie=>match ie.zero with
    | some z=>match V.E.ofTy e with
     | some tg=>bif U5 V.E P t tg && (Nat.beq z.cells.size ie.size && (Nat.ble 1 ie.bytes && z.cells.toList.all (·.oneCell'))) then
       (match V.E.un tg (z.cells.toList.map absC) with
       | some (ps,x)=>some ([0≤n,n≤m,(ie.bytes:Int) * m≤281474976710656,Us ps],.cv (.own tg nid),some (.lst tg (List.replicate n.toNat x)))
       | none=>none) else none
     | none=>none
    | none=>none
   | none=>none
  | _,_,_=>none
 | .makeMap t none=>match P.underlying t with
  | some (.map kt e)=>match P.underlying kt,V.E.ofTy e with
   | some .string,some tg=>bif V.E.isAgg tg || Nat.beq (V.E.sz tg) 1 then some ([],.cv (.mp nid),some (.mpb tg [])) else none
   | _,_=>none
  | _=>none
 | .range t x=>match get x,P.underlying t with
  | some (.cv (.rom tg es)),some (.map _ _)=>some ([],.cv (.ptr nid 0),some (.itr tg es none))
  | _,_=>none
 | _=>none
theorem Yh {E:Uv T} {isB:Tag→Bool} {toB:(t:Tag)→T t→UInt8} (L:E.Law isB toB) {tg:Tag}:∀ (n:Nat) (cs:List (CV T)) (ps:List Prop) (xs:List (T tg)),Ab1 E tg n cs=some (ps,xs)→Us ps →
  xs.length=n∧∀ (i:Nat) x (j:Nat) c,xs[i]? = some x→(E.k tg x)[j]? = some c→∃ d,cs[i * E.sz tg+j]? = some d∧∀ w Z ρ v,RC E w Z ρ d v→PR E w Z c v
 | 0,cs,ps,xs,h,hps=>by cases h; exact ⟨rfl,fun i x j c hx=>by simp at hx⟩
 | n+1,cs,ps,xs,h,hps=>by
  unfold Ab1 at h;split at h
  ·rename_i p1 x p2 xs' h1 h2;cases h;have hp1:Us p1:=Us.of_mem fun p hp=>hps.mem p (by simp [hp])
   have hp2:Us p2:=Us.of_mem fun p hp=>hps.mem p (by simp [hp])
   obtain ⟨l1,l2⟩:=Yh L n _ p2 xs' h2 hp2;refine ⟨by simp [l1],fun i y j c hy hc=>?_⟩;cases i with
   | zero =>
    simp at hy; subst hy;obtain ⟨d,hd,hr⟩:=L.un _ _ _ _ h1 hp1 j c hc;rw [List.getElem?_take] at hd;split at hd
    ·exact ⟨d,by simpa using hd,hr⟩
    ·cases hd
   | succ i =>
    obtain ⟨d,hd,hr⟩:=l2 i y j c (by simpa using hy) hc;rw [List.getElem?_drop] at hd;exact ⟨d,by rw [← hd]; congr 1; rw [Nat.add_mul,Nat.one_mul]; omega,hr⟩
  ·cases h
theorem Uk (w:World) (o:Obj):Below w.heap.size w (w.alloc o):=(Below.refl _ _).alloc (Nat.le_refl _) o
theorem Ads (w:World) (Z:Nat→Prop) (o:Obj):Onto w (w.alloc o) Z (fun b=>Z b∨b=w.heap.size) :=
 ⟨Uk w o,fun _ h=>.inl h,fun b h=>h.imp id fun e=>by subst e; exact ⟨Nat.le_refl _,by simp⟩⟩
theorem Vx (w:World) (o:Obj):(w.alloc o).heap[w.heap.size]? = some o:=heap_alloc_new w o
theorem RL.mono' {E:Uv T} {w w':World} {Z Z':Nat→Prop} {ρ ρ':Nat→Option (Nat×Nat×Nat)} (hZ:∀ b,Z b→Z' b) (hw:∀ b,Z b→w'.heap[b]? = w.heap[b]?) {arr:Array Value} {cs:List (CV T)}
  (h:RL E w Z ρ arr cs) (hn:∀ id,CV.names.namesL id cs=true→ρ' id=ρ id):RL E w' Z' ρ' arr cs :=
 ⟨h.1,fun i c u hc hu=>(h.2 i c u hc hu).mono E hZ hw fun id hid=>hn id (by
  cases hh:CV.names.namesL id cs with
  | true=>rfl
  | false=>rw [CV.namesL_false hh hc] at hid; exact hid)⟩
theorem Yt (L:V.E.Law V.isB V.toB) {get:Operand→Option (AV T)} {a:Act} {o:Oper} {nid:Nat} {ps:List Prop} {r:AV T} {B:Option (T9 T)} (h:evA V P nid get o=some (ps,r,B)) (hps:Us ps)
  (hg:∀ x v,get x=some v→RA V.E w Z ρ v (a.eval x)) (hZ:∀ b,Z b→b < w.heap.size) :
  ∃ v w',(execOp a.eval o).run P w=.ok (.value v) w'∧(match B with
   | none=>∃ Z',Onto w w' Z Z'∧RA V.E w' Z' ρ r v
   | some B=>∃ b c,Below w.heap.size w w'∧w.heap.size≤b∧b < w'.heap.size∧BR V.E w' Z (Zu ρ nid (b,c)) B (some (b,c))∧RA V.E w' Z (Zu ρ nid (b,c)) r v):=by
 have raw:∀ (e:TypeId) (arr:Array Value) (cs:List (CV T)),CV.names.namesL nid cs=false→RL V.E w Z ρ arr cs →
   ∃ b c,Below w.heap.size w (w.alloc (.cells arr e))∧w.heap.size≤b∧b <(w.alloc (.cells arr e)).heap.size∧BR V.E (w.alloc (.cells arr e)) Z (Zu ρ nid (b,c)) (.raw cs) (some (b,c)) ∧
    RA V.E (w.alloc (.cells arr e)) Z (Zu ρ nid (b,c)) (.cv (.ptr nid 0)) (.pointer (some ⟨w.heap.size,0,none⟩)):=by
  intro e arr cs hn hl;have hb:=Uk w (.cells arr e);refine ⟨w.heap.size,(0,0),hb,Nat.le_refl _,by simp,⟨arr,e,Vx _ _,hl.1,?_⟩,.cv (.ptr (by unfold Zu; rw [if_pos rfl]))⟩;exact (RL.mono' (w:=w) (fun _ h=>h) (fun b hb'=>hb.block b (hZ b hb')) hl (fun id hid=>by unfold Zu; rw [if_neg]; intro e; subst e; rw [hn] at hid; cases hid)).2
 unfold evA at h;unfold execOp;split at h <;> rename_i heq <;>(try (rw [heq]; dsimp only))
 ·-- alloc
  rename_i t;cases htp:V.typd t with
  | true =>
   rw [htp] at h;simp only [cond_true] at h;split at h
   ·rename_i i hi;split at h
    ·rename_i z hz;cases h;refine ⟨.pointer (some ⟨w.heap.size,0,none⟩),w.alloc (.cells z.cells t),by simp [Instr.alloc,zeroValue,typeInfo,hi,hz,newVar,newRow],w.heap.size,(0,0),Uk w _,Nat.le_refl _,by simp,?_,.cv (.ptr (by unfold Zu; rw [if_pos rfl]))⟩;show (w.alloc _).heap[w.heap.size]? = _;rw [Vx]
    ·cases h
   ·cases h
  | false =>
  rw [htp] at h;simp only [cond_false] at h;split at h
  ·rename_i cs hz;cases hn:CV.names.namesL nid cs with
   | true=>rw [hn] at h; cases h
   | false =>
    rw [hn] at h;cases h;unfold Af7 at hz;split at hz
    ·rename_i i hi;split at hz
     ·rename_i z hzz;cases hall:z.cells.toList.all (·.oneCell') with
      | false=>rw [hall] at hz; cases hz
      | true =>
       rw [hall] at hz;cases hz;refine ⟨.pointer (some ⟨w.heap.size,0,none⟩),w.alloc (.cells z.cells t),?_,raw t z.cells _ hn (RL.absC V.E hall)⟩;simp [Instr.alloc,zeroValue,typeInfo,hi,hzz,newVar,newRow]
     ·cases hz
    ·cases hz
  ·cases h
 ·-- box
  rename_i t x;split at h
  ·rename_i v hv;split at h
   ·rename_i cs hcs;cases hn:CV.names.namesL nid cs with
    | true=>rw [hn] at h; cases h
    | false =>
     rw [hn] at h;cases h;refine ⟨.pointer (some ⟨w.heap.size,0,none⟩),w.alloc (.cells (a.eval x).cells t),?_,raw t _ _ hn (Vs V.E hcs (hg _ _ hv))⟩;simp [Instr.box,newVar,newRow]
   ·cases h
  ·cases h
 ·-- buildSlice
  rename_i t len parts;split at h
  ·rename_i e hu;split at h
   ·rename_i ie hie;split at h
    ·rename_i z hz;split at h
     ·-- nothing in it
      split at h
      ·rename_i tg htg hparts;cases hk:U5 V.E P t tg with
       | false=>rw [hk] at h; cases h
       | true =>
        rw [hk] at h;cases h;obtain ⟨i,hu',hi,hs⟩:=Va V.E hk;have he:e=V.E.ty tg:=by rw [hu] at hu'; cases hu'; rfl
        have hp:parts = #[]:=by cases parts; simp at hparts; subst hparts; rfl
        subst hp;refine ⟨.slice (some ⟨w.heap.size,0,none⟩) 0 0,w.alloc (.cells #[] e),?_,w.heap.size,(0,0),Uk w _,Nat.le_refl _,by simp,?_,.cv (.own (by unfold Zu; rw [if_pos rfl]))⟩
        ·simp [Instr.buildSlice,run_underlying hu,sizeOf,typeInfo,hie,Instr.fill,newRow]; rw [show (Array.range 0) = #[] from by apply Array.ext <;> simp,Array.map_empty]
        ·exact ⟨rfl,#[],by rw [← he]; exact Vx _ _,Nat.le_refl _,by simp [maxLen],by simp,fun i x j c u hx=>by simp at hx⟩
      ·cases h
     ·rename_i len';dsimp only at h;generalize hzs:(Array.range ((len'+1) * ie.size)).map (z.cells[· % z.cells.size]!)=zs at h;cases hb:(Nat.ble ((len'+1) * ie.size) 10000 && Nat.blt 0 ie.size && zs.toList.all (·.oneCell')) with
      | false=>rw [hb] at h; cases h
      | true =>
       rw [hb] at h;simp only [Bool.and_eq_true] at hb;have hsmall:=Nat.le_of_ble_eq_true hb.1.1;have hpos:0 < ie.size:=Nat.le_of_ble_eq_true hb.1.2;simp only [cond_true] at h;split at h
       ·rename_i cs hf;obtain ⟨arr,e1,e2⟩:=Wx V.E (w:=w) (Z:=Z) (ρ:=ρ) _ (parts.toList.map fun p=>(p.1,get p.2)) (parts.map fun p=>(p.1,a.eval p.2)).toList _ cs zs hf (RL.absC V.E hb.2)
         (by simp [List.map_map,Function.comp_def]) (fun i p q x hp hq hx=>by
          simp only [Array.toList_map,List.getElem?_map,Option.map_eq_some_iff] at hp hq;obtain ⟨y,hy,rfl⟩:=hp;obtain ⟨y',hy',rfl⟩:=hq;rw [hy] at hy'; cases hy';exact hg _ _ hx)
        have hrun:=run_buildSlice (P:=P) w t e (len'+1) (parts.map fun p=>(p.1,a.eval p.2)) arr ie z hu hie hz (by omega)
         (by have:=Nat.mul_pos (Nat.succ_pos len') hpos; simp only [Nat.succ_eq_add_one] at this; omega) (by rw [hzs]; exact e1)
        have ho:=Ads w Z (.cells arr e);have hmono:=RL.mono' (E:=V.E) (w:=w) (ρ:=ρ) (ρ':=ρ) ho.sub (fun b hb'=>ho.below.block b (hZ b hb')) e2 (fun _ _=>rfl);have hcell:∀ j,(w.alloc (.cells arr e)).cell? ((⟨w.heap.size,0,none⟩:Addr).add j)=arr[j]?:=fun j=>by
         rw [Uo,Nat.zero_add]; exact Ux (Vx _ _) j
        split at h
        ·rename_i tg htg;cases hk:U5 V.E P t tg with
         | false=>rw [hk] at h; cases h
         | true =>
          rw [hk] at h;simp only [cond_true] at h;split at h
          ·rename_i ps' xs hxs;have hpp:ps'=ps:=by
            revert h;cases ((V.isB tg || Nat.ble 100000 nid) && Nat.beq cs.length ((len'+1) * ie.size)) <;>(intro h; cases h; rfl)
           subst hpp;obtain ⟨hlen,hpl⟩:=Yh L _ _ _ _ hxs hps;cases hB:((V.isB tg || Nat.ble 100000 nid) && Nat.beq cs.length ((len'+1) * ie.size)) with
           | true =>
            rw [hB] at h;cases h;simp only [Bool.and_eq_true] at hB;have hcl:=Nat.eq_of_beq_eq_true hB.2;obtain ⟨i0,hu',hi0,hs0⟩:=Va V.E hk;have he:e=V.E.ty tg:=by rw [hu] at hu'; cases hu'; rfl
            have hii:i0=ie:=by rw [← he,hie] at hi0; cases hi0; rfl
            subst hii;have hle:len'+1≤(len'+1) * i0.size:=Nat.le_mul_of_pos_right _ hpos;refine ⟨_,_,by simp only [Sem.run_bind]; erw [hrun]; rfl,w.heap.size,(len'+1,len'+1),Uk w _,Nat.le_refl _,by simp,?_,.cv (.own (by unfold Zu; rw [if_pos rfl]))⟩;refine ⟨hlen.symm,arr,by rw [← he]; exact Vx _ _,by rw [hlen]; exact Nat.le_refl _,by simp only [maxLen]; omega,by rw [e2.1,hcl,hs0],fun i x j c u hx hc hu=>?_⟩;obtain ⟨d,hd,hr⟩:=hpl i x j c hx hc;exact hr _ _ ρ _ ((e2.2 _ d u hd hu).mono V.E (fun _ h=>h) (fun b hb'=>(Uk w _).block b (hZ b hb')) (fun _ _=>rfl))
           | false =>
           rw [hB] at h;cases h;refine ⟨_,_,by simp only [Sem.run_bind]; erw [hrun]; rfl,_,ho,.cv (.pure ?_)⟩;have key:∀ (i:Nat) x (j:Nat) c,xs[i]? = some x→(V.E.k tg x)[j]? = some c→∃ u,arr[i * V.E.sz tg+j]? = some u∧PR V.E (w.alloc (.cells arr e)) (fun b=>Z b∨b=w.heap.size) c u:=by
            intro i x j c hx hc;obtain ⟨d,hd,hr⟩:=hpl i x j c hx hc;have hlt:i * V.E.sz tg+j < arr.size:=by rw [e2.1]; exact (List.getElem?_eq_some_iff.1 hd).1
            exact ⟨arr[i * V.E.sz tg+j],by simp [hlt],hr _ _ _ _ (hmono.2 _ d _ hd (by simp [hlt]))⟩
           have key':∀ (p:Nat×Nat),∃ u,∀ x c,xs[p.1]? = some x→(V.E.k tg x)[p.2]? = some c→arr[p.1 * V.E.sz tg+p.2]? = some u∧PR V.E (w.alloc (.cells arr e)) (fun b=>Z b∨b=w.heap.size) c u:=by
            intro p;by_cases hp:∃ x c,xs[p.1]? = some x∧(V.E.k tg x)[p.2]? = some c
            ·obtain ⟨x,c,hx,hc⟩:=hp;obtain ⟨u,hu1,hu2⟩:=key _ _ _ _ hx hc;exact ⟨u,fun x' c' hx' hc'=>by rw [hx] at hx'; cases hx'; rw [hc] at hc'; cases hc'; exact ⟨hu1,hu2⟩⟩
            ·exact ⟨.nilFunc,fun x c hx hc=>absurd ⟨x,c,hx,hc⟩ hp⟩
           obtain ⟨f,hf'⟩:=Classical.axiomOfChoice key'
           have:=PR.ro (E:=V.E) (w:=w.alloc (.cells arr e)) (Z:=fun b=>Z b∨b=w.heap.size) tg xs ⟨w.heap.size,0,none⟩ (len'+1) (fun i j=>f (i,j)) (.inr rfl) (by omega)
            (fun i x j c hx hc=>by rw [hcell]; exact (hf' (i,j) x c hx hc).1) (fun i x j c hx hc=>(hf' (i,j) x c hx hc).2)
           rw [hlen] at this;exact this
          ·cases h
        ·cases hk:(Nat.beq ie.size 1 && Nat.beq cs.length (len'+1)) with
         | false=>rw [hk] at h; cases h
         | true =>
          rw [hk] at h;cases h;simp only [Bool.and_eq_true] at hk;have hl:=Nat.eq_of_beq_eq_true hk.2;refine ⟨_,_,by simp only [Sem.run_bind]; erw [hrun]; rfl,_,ho,.cv ?_⟩
          have:=RC.rol (E:=V.E) (w:=w.alloc (.cells arr e)) (Z:=fun b=>Z b∨b=w.heap.size) (ρ:=ρ) (cs:=cs) (a:=⟨w.heap.size,0,none⟩) (cap:=len'+1) (fun j=>arr.getD j undef) (.inr rfl) (by omega)
           (fun j c hc=>by
            have hlt:j < arr.size:=by rw [e2.1]; exact (List.getElem?_eq_some_iff.1 hc).1
            rw [hcell]; simp [hlt,Array.getD])
           (fun j c hc=>by
            have hlt:j < arr.size:=by rw [e2.1]; exact (List.getElem?_eq_some_iff.1 hc).1
            exact hmono.2 j c _ hc (by simp [hlt,Array.getD]))
          rw [hl] at this;exact this
       ·cases h
    ·cases h
   ·cases h
  ·cases h
 ·-- makeSlice
  rename_i t l c;split at h
  ·rename_i kl n kc m e hl hc hu;split at h
   ·rename_i ie hie;split at h
    ·rename_i z hz;split at h
     ·rename_i tg htg;cases hb:(U5 V.E P t tg && (Nat.beq z.cells.size ie.size && (Nat.ble 1 ie.bytes && z.cells.toList.all (·.oneCell')))) with
      | false=>rw [hb] at h; cases h
      | true =>
       rw [hb] at h;simp only [cond_true] at h;simp only [Bool.and_eq_true] at hb;obtain ⟨hk,hsz,hby,hall⟩:=hb;split at h
       ·rename_i ps' x0 hun;cases h;obtain ⟨h0,hnm,hbytes,hps'⟩:=hps;replace hps':Us ps':=hps';obtain ⟨i,hu',hi,hs⟩:=Va V.E hk;have he:e=V.E.ty tg:=by rw [hu] at hu'; cases hu'; rfl
        have hii:i=ie:=by rw [← he,hie] at hi; cases hi; rfl
        subst hii;have hzsz:=Nat.eq_of_beq_eq_true hsz;have hby':=Nat.le_of_ble_eq_true hby;have hl':=hg _ _ hl;have hc':=hg _ _ hc;have el:a.eval l=.int kl n:=Ua V.E hl';have ec:a.eval c=.int kc m:=Ua V.E hc';have hm:m≤281474976710656:=by
         have h1:(1:Int)≤(i.bytes:Int):=by omega
         have h2:(1:Int) * m≤(i.bytes:Int) * m:=Int.mul_le_mul_of_nonneg_right h1 (by omega);omega
        have hrun:=run_make (P:=P) w t e i z hu hie hz kl kc n m h0 hnm hbytes (by omega);refine ⟨_,_,by simp only [Sem.run_bind]; rw [el,ec]; erw [hrun]; rfl,w.heap.size,(m.toNat,n.toNat),Uk w _,Nat.le_refl _,by simp,?_,.cv (.own (by unfold Zu; rw [if_pos rfl]))⟩;refine ⟨by simp,madeCells z.cells (m.toNat * i.size),by rw [← he]; exact Vx _ _,by rw [List.length_replicate]; omega,by simp only [maxLen]; omega,by rw [size_madeCells,hs],fun k x j c u hx hcc hu2=>?_⟩;have hx0:x=x0:=by
         have:=List.getElem?_eq_some_iff.1 hx
         obtain ⟨hlt,hxx⟩:=this;rw [List.getElem_replicate] at hxx;exact hxx.symm
        subst hx0;have hj:j < V.E.sz tg:=by rw [← V.E.klen tg x]; exact (List.getElem?_eq_some_iff.1 hcc).1
        obtain ⟨d,hd,hr⟩:=L.un tg _ _ _ hun hps' j c hcc;have hrl:=RL.absC V.E (w:=w) (Z:=Z) (ρ:=ρ) hall;refine hr _ _ ρ u ?_;have hju:z.cells[j]? = some u:=by
         rw [madeCells,Array.getElem?_map,Option.map_eq_some_iff] at hu2;obtain ⟨q,hq,hxx⟩:=hu2;obtain ⟨hlt,hqq⟩:=Array.getElem?_eq_some_iff.1 hq;rw [Array.getElem_range] at hqq;subst hqq;rw [hzsz,← hs,Nat.mul_comm,Nat.mul_add_mod,Nat.mod_eq_of_lt (by rw [hs]; exact hj)] at hxx;rw [← hxx]
         have:j < z.cells.size:=by rw [hzsz,hs]; exact hj
         simp [this]
        refine (hrl.2 j d u hd hju).mono V.E (fun _ h=>h) (fun b hb'=>?_) (fun _ _=>rfl);exact (Uk w _).block b (hZ b hb')
       ·cases h
     ·cases h
    ·cases h
   ·cases h
  ·cases h
 ·-- makeMap
  rename_i t;split at h
  ·rename_i kt e hu;split at h
   ·rename_i tg hk htg;cases hb:(V.E.isAgg tg || Nat.beq (V.E.sz tg) 1) with
    | false=>rw [hb] at h; cases h
    | true =>
     rw [hb] at h;cases h;refine ⟨.map (some w.heap.size),w.alloc (.map #[] 0),?_,w.heap.size,(0,0),Uk w _,Nat.le_refl _,by simp,⟨#[],0,Vx _ _,⟨by simp,by simp⟩,by simp,fun ha=>?_,fun _=>([],V.E.dflt tg),by simp,by simp⟩,.cv (.mp (by unfold Zu; rw [if_pos rfl]))⟩
     ·simp [Instr.makeMap,Result.andThen]
     ·rw [ha] at hb;exact Nat.eq_of_beq_eq_true (by simpa using hb)
   ·cases h
  ·cases h
 ·-- range
  rename_i t x;split at h
  ·rename_i tg es kt e hx hu;cases h;have hr:=hg _ _ hx;generalize a.eval x=u at hr;cases hr with | cv hr =>
   cases hr with | pure hr =>
   obtain ⟨b,arr,clock,rfl,hz,hheap,hM,hnd,hone,f,hf1,hf2⟩:=Ad8 V.E hr;have hlt:=hZ b hz;refine ⟨.pointer (some ⟨w.heap.size,0,none⟩),w.alloc (.mapIter (some b) clock #[] clock),?_,w.heap.size,(0,0),Uk w _,Nat.le_refl _,by simp,?_,.cv (.ptr (by unfold Zu; rw [if_pos rfl]))⟩
   ·have:=run_range_map (P:=P) w t _ _ b arr clock hu hheap
    simp [this]
   ·have hleft:leftOf arr #[]=arr:=by unfold leftOf; exact Array.filter_eq_self.2 (by simp)
    refine ⟨b,clock,#[],arr,Vx _ _,hz,((Uk w _).block b hlt).trans hheap,hM,hone,hnd,⟨f,by rw [hleft]; exact hf1,fun e he=>?_⟩,fun p hp=>by cases hp⟩;rw [hleft] at he;exact (hf2 e he).mono V.E (fun _ h=>h) (fun b' hb'=>(Uk w _).block b' (hZ b' hb'))
  ·cases h
 ·cases h
end
end Go.Proofs.YtdgejpgbppfhmaaGreatDoor.Eng
namespace Go.Proofs.YtdgejpgbppfhmaaGreatDoor.Eng
open Go.RowKit (Below)
section
variable {Tag:Type} {T:Tag→Type} {V:V6 T}
variable {P:Program} {n m:Nat} {Γ:Ue} {S:St T} {Z:Nat→Prop} {ρ:Nat→Option (Nat×Nat×Nat)} {a:Act} {w:World}
def CV.kill (id:Nat) (c:CV T):CV T:=bif c.names id then .any else c
def AV.kill (id:Nat):AV T→AV T
 | .cv c=>.cv (c.kill id)
 | .agg cs=>.agg (cs.map (·.kill id))
 | .tup vs=>bif AV.names.namesL id vs then .any else .tup vs
 | .any=>.any
def T9.kill (id:Nat):T9 T→T9 T
 | .raw cs=>.raw (cs.map (·.kill id))
 | b=>b
def St.kill (id:Nat) (S:St T):St T:={ S with tmps:=S.tmps.map fun p=>(p.1,p.2.kill id),heap:=S.heap.map fun p=>(p.1,p.2.kill id) }
theorem CV.kill_names (id:Nat) (c:CV T):(c.kill id).names id=false:=by
 unfold CV.kill;cases h:c.names id with
 | true=>rfl
 | false=>exact h
theorem W7 (id:Nat):∀ cs:List (CV T),CV.names.namesL id (cs.map (·.kill id))=false
 | []=>rfl
 | c :: cs=>by simp only [List.map_cons,CV.names.namesL,CV.kill_names,W7 id cs,Bool.or_self]
theorem AV.kill_names (id:Nat) (v:AV T):(v.kill id).names id=false:=by
 cases v with
 | cv c=>exact CV.kill_names id c
 | agg cs=>exact W7 id cs
 | tup vs =>
  simp only [AV.kill];cases h:AV.names.namesL id vs with
  | true=>rfl
  | false=>exact h
 | any=>rfl
theorem St.kill_named (id:Nat) (S:St T):(S.kill id).named id=false:=by
 unfold St.named St.kill;simp only [List.any_map,Bool.or_eq_false_iff,List.any_eq_false];refine ⟨fun p _=>by simp [AV.kill_names],fun p _=>?_⟩;simp only [Function.comp];obtain ⟨i,b⟩:=p;cases b with
 | raw cs=>simp [T9.kill,T9.names,W7]
 | lst t xs=>simp [T9.kill,T9.names]
 | mpb a b=>simp [T9.kill,T9.names]
 | itr a b c=>simp [T9.kill,T9.names]
 | zr a b=>simp [T9.kill,T9.names]
 | fz t xs=>simp [T9.kill,T9.names]
theorem CV.kill_rc {E:Uv T} {id:Nat} {c:CV T} {v:Value} (h:RC E w Z ρ c v):RC E w Z ρ (c.kill id) v:=by
 unfold CV.kill;cases c.names id with
 | true=>exact .pure (.any h.one)
 | false=>exact h
theorem RL.kill {E:Uv T} {id:Nat} {arr:Array Value} {cs:List (CV T)} (h:RL E w Z ρ arr cs):RL E w Z ρ arr (cs.map (·.kill id)) :=
 ⟨by simpa using h.1,fun i c u hc hu=>by
  simp only [List.getElem?_map,Option.map_eq_some_iff] at hc;obtain ⟨d,hd,rfl⟩:=hc;exact CV.kill_rc (h.2 i d u hd hu)⟩
theorem AV.kill_ra {E:Uv T} {id:Nat} {x:AV T} {v:Value} (h:RA E w Z ρ x v):RA E w Z ρ (x.kill id) v:=by
 cases h with
 | cv h=>exact .cv (CV.kill_rc h)
 | agg h1 h2=>have:=RL.kill (E:=E) (id:=id) ⟨h1,h2⟩; exact .agg this.1 this.2
 | tup h1 h2 =>
  simp only [AV.kill];cases AV.names.namesL id _ with
  | true=>exact .any
  | false=>exact .tup h1 h2
 | any=>exact .any
theorem Vc {α β:Type} (f:α→β) (t:Nat) (l:List (Nat×α)):look t (l.map fun p=>(p.1,f p.2))=(look t l).map f:=by
 induction l with
 | nil=>rfl
 | cons p r ih =>
  obtain ⟨q,v⟩:=p;simp only [List.map_cons,look];cases Nat.beq q t with
  | true=>rfl
  | false=>exact ih
theorem Ul.kill (h:Ul V n m Γ S Z ρ a w) (id:Nat):Ul V n m Γ (S.kill id) Z ρ a w:=by
 have hl:∀ i blk,look i (S.kill id).heap=some blk→∃ b0,look i S.heap=some b0∧blk=b0.kill id:=fun i blk hl=>by
  simp only [St.kill] at hl;rw [Vc,Option.map_eq_some_iff] at hl;obtain ⟨b0,h1,h2⟩:=hl;exact ⟨b0,h1,h2.symm⟩
 exact { h with
  tmps:=fun t v hv=>by
   simp only [St.kill] at hv;rw [Vc,Option.map_eq_some_iff] at hv;obtain ⟨v0,h1,rfl⟩:=hv;exact AV.kill_ra (h.tmps t v0 h1)
  own:=fun i blk b c hb hr=>by obtain ⟨b0,h1,_⟩:=hl i blk hb; exact h.own i b0 b c h1 hr
  inj:=fun i i' blk blk' b c c' h1 h2 h3 h4=>by
   obtain ⟨b0,e1,_⟩:=hl i blk h1;obtain ⟨b1,e2,_⟩:=hl i' blk' h2;exact h.inj i i' b0 b1 b c c' e1 e2 h3 h4
  blk:=fun i blk hb=>by
   obtain ⟨b0,e1,rfl⟩:=hl i blk hb
   have:=h.blk i b0 e1
   cases b0 with
   | raw cs =>
    revert this;cases ρ i with
    | none=>exact fun h=>h
    | some p =>
     intro this;obtain ⟨arr,e,h1,h2,h3⟩:=this;have h4:=RL.kill (E:=V.E) (id:=id) (w:=w) (Z:=Z) (ρ:=ρ) ⟨h2,h3⟩;exact ⟨arr,e,h1,h4.1,h4.2⟩
   | lst t xs=>exact this
   | mpb x y=>exact this
   | itr x y z=>exact this
   | zr x y=>exact this
   | fz t xs=>exact this }
def Uy (ρ:Nat→Option (Nat×Nat×Nat)) (id:Nat) (p:Option (Nat×Nat×Nat)):Nat→Option (Nat×Nat×Nat):=fun i=>if i=id then p else ρ i
theorem Ul.rebase (h:Ul V n m Γ S Z ρ a w) {id:Nat} {bc:Option (Nat×Nat×Nat)} (hfix:bc=ρ id∨(m≤id∧S.named id=false)) {w':World} {old:Option Nat}
  (hold:∀ k,old=some k→∃ B c,look id S.heap=some B∧ρ id=some (k,c)) (hw:w.grownBy w' old)
  (hbc:∀ b c,bc=some (b,c)→b < w'.heap.size∧(w.heap.size≤b∨old=some b)) {B:T9 T} (hB:BR V.E w' Z (Uy ρ id bc) B bc) :
  Ul V n m Γ (S.new id B) Z (Uy ρ id bc) a w':=by
 have hold':∀ k,old=some k→k < w.heap.size∧¬ Z k∧(Γ.w0.heap.size≤k∨Γ.D id k):=fun k hk=>by
  obtain ⟨B0,c,h1,h2⟩:=hold k hk;exact h.own id B0 k c h1 h2
 have hZw:∀ b,Z b→w'.heap[b]? = w.heap[b]?:=fun b hb=>hw.block b (h.Zlt b hb) fun e=>(hold' b e.symm).2.1 hb
 have hρ:∀ i,i≠id→Uy ρ id bc i=ρ i:=fun i hi=>by unfold Uy; rw [if_neg hi]
 have hρn:∀ i,(i=id→bc=ρ id)→Uy ρ id bc i=ρ i:=fun i hi=>by
  by_cases e:i=id
  ·subst e; unfold Uy; rw [if_pos rfl]; exact hi rfl
  ·exact hρ i e
 have hlook:∀ i blk,look i (S.new id B).heap=some blk→(i=id∧blk=B)∨(i≠id∧look i S.heap=some blk):=fun i blk hl=>by
  simp only [St.new] at hl;rw [T6] at hl;by_cases hi:i=id
  ·rw [if_pos hi] at hl; cases hl; exact .inl ⟨hi,rfl⟩
  ·rw [if_neg hi,Uj,if_neg hi] at hl; exact .inr ⟨hi,hl⟩
 exact {
  defers:=h.defers
  size:=h.size
  tmps:=fun t v hv=>(h.tmps t v hv).mono V.E (fun _ h=>h) hZw fun i hi=>hρn i fun e=>by
   rcases hfix with hf |⟨_,hn⟩
   ·exact hf
   ·subst e; rw [Xy hn hv] at hi; cases hi
  os:=hw.os.trans h.os
  tape:=hw.tape.trans h.tape
  output:=hw.output.trans h.output
  hsize:=Nat.le_trans h.hsize hw.size
  old:=fun b hb hD=>by
   have hlt:=Nat.lt_of_lt_of_le hb h.hsize;refine (hw.block b hlt fun e=>?_).trans (h.old b hb hD);rcases (hold' b e.symm).2.2 with h1 | h1
   ·omega
   ·exact hD _ h1
  stm:=h.stm
  dlt:=h.dlt
  st:=fun p hp=>by
   rw [← h.st p hp];refine hρn p.1 fun e=>?_
   rcases hfix with hf |⟨hm,_⟩
   ·exact hf
   ·have:=h.stm p hp; omega
  Z0:=h.Z0
  Zold:=h.Zold
  Zlt:=fun b hb=>Nat.lt_of_lt_of_le (h.Zlt b hb) hw.size
  glb:=h.glb.mono (fun _ h=>h) hZw
  own:=fun i blk b1 c1 hl hr=>by
   rcases hlook i blk hl with ⟨rfl,rfl⟩ |⟨hi,hl'⟩
   ·unfold Uy at hr;rw [if_pos rfl] at hr;obtain ⟨h1,h2⟩:=hbc b1 c1 hr;refine ⟨h1,?_⟩;rcases h2 with h2 | h2
    ·exact ⟨fun hz=>by have:=h.Zlt _ hz; omega,.inl (Nat.le_trans h.hsize h2)⟩
    ·exact ⟨(hold' b1 h2).2.1,(hold' b1 h2).2.2⟩
   ·rw [hρ i hi] at hr;obtain ⟨h1,h2,h3⟩:=h.own i blk b1 c1 hl' hr;exact ⟨Nat.lt_of_lt_of_le h1 hw.size,h2,h3⟩
  inj:=fun i i' blk blk' b1 c1 c2 hl hl' hr hr'=>by
   have one:∀ i blk c1 c2,i≠id→look i S.heap=some blk→ρ i=some (b1,c1)→bc=some (b1,c2)→False:=fun i blk c1 c2 hi hl hr hb=>by
    obtain ⟨h1,h2⟩:=hbc b1 c2 hb;rcases h2 with h2 | h2
    ·have:=(h.own i blk b1 c1 hl hr).1; omega
    ·obtain ⟨B0,c0,e1,e2⟩:=hold b1 h2;exact hi (h.inj i id blk B0 b1 c1 c0 hl e1 hr e2)
   rcases hlook i blk hl with ⟨e,rfl⟩ |⟨hi,hl1⟩
   ·rcases hlook i' blk' hl' with ⟨e',rfl⟩ |⟨hi',hl1'⟩
    ·exact e.trans e'.symm
    ·exfalso;subst e;unfold Uy at hr;rw [if_pos rfl] at hr;rw [hρ i' hi'] at hr';exact one i' blk' c2 c1 hi' hl1' hr' hr
   ·rcases hlook i' blk' hl' with ⟨e',rfl⟩ |⟨hi',hl1'⟩
    ·exfalso;subst e';unfold Uy at hr';rw [if_pos rfl] at hr';rw [hρ i hi] at hr;exact one i blk c1 c2 hi hl1 hr hr'
    ·rw [hρ i hi] at hr;rw [hρ i' hi'] at hr';exact h.inj i i' blk blk' b1 c1 c2 hl1 hl1' hr hr'
  blk:=fun i blk hl=>by
   rcases hlook i blk hl with ⟨rfl,rfl⟩ |⟨hi,hl'⟩
   ·unfold Uy;rw [if_pos rfl];exact hB
   ·rw [hρ i hi];refine BR.mono (fun _ h=>h) hZw (fun b1 c1 hbc'=>?_) (h.blk i blk hl') fun j hj=>hρn j fun e=>?_
    ·refine hw.block b1 (h.own i blk b1 c1 hl' hbc').1 fun e=>?_
     obtain ⟨B0,c0,e1,e2⟩:=hold b1 e.symm;exact hi (h.inj i id blk B0 b1 c1 c0 hl' e1 hbc' e2)
    ·rcases hfix with hf |⟨_,hn⟩
     ·exact hf
     ·subst e; rw [X2 hn hl'] at hj; cases hj }
end
end Go.Proofs.YtdgejpgbppfhmaaGreatDoor.Eng
namespace Go.Proofs.YtdgejpgbppfhmaaGreatDoor.Eng
open Go.RowKit (Below)
section
variable {Tag:Type} {T:Tag→Type} (V:V6 T)
variable {P:Program} {n m:Nat} {Γ:Ue} {S:St T} {Z:Nat→Prop} {ρ:Nat→Option (Nat×Nat×Nat)} {a:Act} {w:World}
def Wg (P:Program) (S:St T) (t:TypeId) (x v:AV T):Option (List Prop×St T) :=
 match x,v.cellsOf,P.info? t with
 | .cv (.ptr id off),some news,some i=>match look id S.heap with
  | some (.raw cs)=>bif Nat.beq news.length i.size && Nat.ble (off+news.length) cs.length then some ([],S.new id (.raw (Ab8 cs off news))) else none
  | _=>none
 | .cv (.pel tg id ix off),some news,some i=>match look id S.heap with
  | some (.lst tg' xs)=>match V.E.dec tg tg' with
   | .isTrue _=>bif Nat.beq news.length i.size && Nat.ble (off+news.length) (V.E.sz tg') then (match V.E.un tg' (Ab8 (V.E.k tg' (xs.getD ix (V.E.dflt tg'))) off news) with
    | some (ps,y)=>some ([ix < xs.length,Us ps],S.new id (.lst tg' (xs.set ix y)))
    | none=>none) else none
   | .isFalse _=>none
  | _=>none
 | _,_,_=>none
theorem Z7 {α:Type} (l new:List α) (o:Nat) (h:o+new.length≤l.length) (i:Nat) :
  (l.take o++new++l.drop (o+new.length))[i]? = if o≤i∧i < o+new.length then new[i - o]? else l[i]?:=by
 by_cases h1:i < o
 ·rw [if_neg (by omega),List.append_assoc,List.getElem?_append_left (by simp; omega),List.getElem?_take,if_pos h1]
 ·by_cases h2:i < o+new.length
  ·rw [if_pos (by omega),List.append_assoc,List.getElem?_append_right (by simp; omega),List.getElem?_append_left (by simp; omega)]
   congr 1
   simp; omega
  ·rw [if_neg (by omega),List.getElem?_append_right (by simp; omega),List.getElem?_drop]
   congr 1
   simp; omega
theorem Wc (w:World) (g:Nat) (cs:Array Value):w.grownBy (w.setRow g cs) (some g) :=
 ⟨rfl,rfl,rfl,by simp,fun k hk hne=>setRow_other w g k cs (fun e=>hne (by rw [e]))⟩
theorem Wt (id:Nat):Uy ρ id (ρ id)=ρ:=by
 funext i; unfold Uy; split
 ·subst_vars; rfl
 ·rfl
theorem Xt (L:V.E.Law V.isB V.toB) {t:TypeId} {x v:AV T} {cs:List Prop} {S':St T} {ux uv:Value} (h:Wg V P S t x v=some (cs,S')) (hcs:Us cs) (ha:Ul V n m Γ S Z ρ a w)
  (hx:RA V.E w Z ρ x ux) (hv:RA V.E w Z ρ v uv):∃ w',(Instr.storeAt t ux uv).run P w=.ok () w'∧Ul V n m Γ S' Z ρ a w':=by
 have run:∀ (b off:Nat) (arr:Array Value) (e:TypeId) (news:List (CV T)) (i:TypeInfo),w.heap[b]? = some (.cells arr e (0,0))→RL V.E w Z ρ uv.cells news→P.info? t=some i→news.length=i.size→off+news.length≤arr.size →
   (Instr.storeAt t (.pointer (some ⟨b,off,none⟩)) uv).run P w=.ok () (w.setRow b (arr.toList.take off++uv.cells.toList++arr.toList.drop (off+uv.cells.toList.length)).toArray):=by
  intro b off arr e news i hb hl hi hs hle;have hlen:uv.cells.size=news.length:=hl.1;have h1:=run_storeCells_at P b off e uv.cells.toList 0 arr w hb (by simp [hlen]; omega) (fun u hu=>hl.one V.E u (Array.mem_toList_iff.1 hu));simp only [Nat.add_zero] at h1;unfold Instr.storeAt storeVar;simp only [Instr.sureAddr,Sem.run_bind,Sem.run_pure,Result.andThen,run_sizeOf w hi,Program.cellsOf,hi,Option.map_some,Option.getD_some];rw [if_neg (by rw [hlen,hs]; simp)];exact h1
 unfold Wg at h;split at h
 ·rename_i id off news i hcells hi;split at h
  ·rename_i cs0 hlk;cases hb:(Nat.beq news.length i.size && Nat.ble (off+news.length) cs0.length) with
   | false=>rw [hb] at h; cases h
   | true =>
    rw [hb] at h;cases h;simp only [Bool.and_eq_true] at hb;have h1:=Nat.eq_of_beq_eq_true hb.1;have h2:=Nat.le_of_ble_eq_true hb.2;have hl:=Vs V.E hcells hv;cases hx with | cv hx =>
    cases hx with
    | pure hx=>cases hx
    | @ptr _ _ b c hr =>
     have hB:=ha.blk id _ hlk;rw [hr] at hB;obtain ⟨arr,e,hheap,hsz,hrel⟩:=hB;refine ⟨_,run b off arr e news i hheap hl hi h1 (by rw [hsz]; exact h2),?_⟩;generalize hcur:(arr.toList.take off++uv.cells.toList++arr.toList.drop (off+uv.cells.toList.length)).toArray=cur;have hrow:=setRow_heap w b arr cur e (0,0) hheap;have hlen:uv.cells.toList.length=news.length:=by simpa using hl.1
     have hZ:∀ b',Z b'→(w.setRow b cur).heap[b']? = w.heap[b']?:=fun b' hb'=>setRow_other _ _ _ _ (fun e=>(ha.own id _ b c hlk hr).2.1 (e ▸ hb'))
     have:=Ul.rebase (id:=id) (bc:=ρ id) ha (.inl rfl) (old:=some b) (fun k hk=>by cases hk; exact ⟨_,c,hlk,hr⟩) (Wc w b cur)
      (fun b' c' hbc=>by rw [hr] at hbc; cases hbc; exact ⟨by rw [size_setRow]; exact (ha.own id _ b c hlk hr).1,.inr rfl⟩) (B:=.raw (Ab8 cs0 off news)) (by
       rw [hr];refine ⟨cur,e,hrow,?_,fun i' c' u' hc' hu'=>?_⟩
       ·rw [← hcur];simp only [List.size_toArray,List.length_append,List.length_take,List.length_drop,Ab8,hlen,Array.length_toList,hsz]
       ·rw [← hcur] at hu';simp only [List.getElem?_toArray] at hu';rw [Z7 _ _ _ (by rw [hlen]; simp [hsz]; exact h2)] at hu';rw [Aaj _ _ _ h2] at hc';rw [hlen] at hu';have hmono:∀ c1 u1,RC V.E w Z ρ c1 u1→RC V.E (w.setRow b cur) Z (Uy ρ id (some (b,c))) c1 u1:=fun c1 u1 h=>by
         rw [← hr,Wt];exact h.mono V.E (fun _ h=>h) hZ (fun _ _=>rfl)
        by_cases hi':off≤i'∧i' < off+news.length
        ·rw [if_pos hi'] at hc' hu';exact hmono _ _ (hl.2 _ _ _ hc' (by simpa using hu'))
        ·rw [if_neg hi'] at hc' hu';exact hmono _ _ (hrel _ _ _ hc' (by simpa using hu')))
     rw [Wt] at this;exact this
  ·cases h
 ·rename_i tg id ix off news i hcells hi;split at h
  ·rename_i tg' xs hlk;split at h
   ·rename_i htg _;subst htg;cases hb:(Nat.beq news.length i.size && Nat.ble (off+news.length) (V.E.sz tg)) with
    | false=>rw [hb] at h; cases h
    | true =>
     rw [hb] at h;simp only [cond_true] at h;split at h
     ·rename_i ps y hy;cases h;obtain ⟨hcs,hps⟩:=hcs;replace hps:Us ps:=hps;simp only [Bool.and_eq_true] at hb;have h1:=Nat.eq_of_beq_eq_true hb.1;have h2:=Nat.le_of_ble_eq_true hb.2;have hix:ix < xs.length:=hcs;have hl:=Vs V.E hcells hv;cases hx with | cv hx =>
      cases hx with
      | pure hx=>cases hx
      | @pel _ _ _ _ b cl hr =>
       obtain ⟨c,len⟩:=cl;have hB:=ha.blk id _ hlk;rw [hr] at hB;obtain ⟨hlenx,arr,hheap,hcap,hmax,hsz,hrel⟩:=hB;have hlast:ix * V.E.sz tg+V.E.sz tg≤arr.size:=by
        rw [hsz]
        calc ix * V.E.sz tg+V.E.sz tg=(ix+1) * V.E.sz tg:=by rw [Nat.add_mul,Nat.one_mul]
         _≤c * V.E.sz tg:=Nat.mul_le_mul_right _ (by omega)
       refine ⟨_,run b (ix * V.E.sz tg+off) arr _ news i hheap hl hi h1 (by omega),?_⟩;generalize hcur:(arr.toList.take (ix * V.E.sz tg+off)++uv.cells.toList++arr.toList.drop (ix * V.E.sz tg+off+uv.cells.toList.length)).toArray=cur;have hrow:=setRow_heap w b arr cur _ (0,0) hheap;have hlen:uv.cells.toList.length=news.length:=by simpa using hl.1
       have hZ:∀ b',Z b'→(w.setRow b cur).heap[b']? = w.heap[b']?:=fun b' hb'=>setRow_other _ _ _ _ (fun e=>(ha.own id _ b (c,len) hlk hr).2.1 (e ▸ hb'))
       have hget:∀ p,cur[p]? = if ix * V.E.sz tg+off≤p∧p < ix * V.E.sz tg+off+news.length then uv.cells[p - (ix * V.E.sz tg+off)]? else arr[p]?:=fun p=>by
        rw [← hcur];simp only [List.getElem?_toArray];rw [Z7 _ _ _ (by rw [hlen]; simp; omega),hlen];simp
       have hxi:=X1 xs ix (V.E.dflt tg) hix;have hlenk:=V.E.klen tg (xs.getD ix (V.E.dflt tg))
       have:=Ul.rebase (id:=id) (bc:=ρ id) ha (.inl rfl) (old:=some b) (fun k hk=>by cases hk; exact ⟨_,(c,len),hlk,hr⟩) (Wc w b cur)
        (fun b' c' hbc=>by rw [hr] at hbc; cases hbc; exact ⟨by rw [size_setRow]; exact (ha.own id _ b (c,len) hlk hr).1,.inr rfl⟩) (B:=.lst tg (xs.set ix y)) (by
         rw [hr];refine ⟨by simpa using hlenx,cur,hrow,by simpa using hcap,hmax,?_,fun i' x' j c' u' hx' hc' hu'=>?_⟩
         ·rw [← hcur];simp only [List.size_toArray,List.length_append,List.length_take,List.length_drop,hlen,Array.length_toList];omega
         ·have hmono:∀ c1 u1,PR V.E w Z c1 u1→PR V.E (w.setRow b cur) Z c1 u1:=fun c1 u1 h=>h.mono V.E (fun _ h=>h) hZ
          have hj:j < V.E.sz tg:=by rw [← V.E.klen tg x']; exact (List.getElem?_eq_some_iff.1 hc').1
          rw [hget] at hu';by_cases hii:i'=ix
          ·subst hii;rw [List.getElem?_set_self hix] at hx';cases hx';obtain ⟨d,hd,himp⟩:=L.un _ _ _ _ hy hps j c' hc';rw [Aaj _ _ _ (by rw [hlenk]; exact h2)] at hd;by_cases hin:off≤j∧j < off+news.length
           ·rw [if_pos (by omega)] at hu';rw [if_pos hin] at hd
            have:=hl.2 (j - off) d u' hd (by rw [← hu']; congr 1; omega)
            exact himp _ _ ρ _ (this.mono V.E (fun _ h=>h) hZ (fun _ _=>rfl))
           ·rw [if_neg (by omega)] at hu';rw [if_neg hin] at hd
            have:=hrel i' _ j d u' hxi hd hu'
            exact himp _ _ ρ _ (.pure (hmono _ _ this))
          ·rw [List.getElem?_set_ne (Ne.symm hii)] at hx';have hout:¬ (ix * V.E.sz tg+off≤i' * V.E.sz tg+j∧i' * V.E.sz tg+j < ix * V.E.sz tg+off+news.length):=by
            rintro ⟨ha1,ha2⟩;rcases Nat.lt_or_gt_of_ne hii with hlt | hgt
            ·have:(i'+1) * V.E.sz tg≤ix * V.E.sz tg:=Nat.mul_le_mul_right _ hlt
             rw [Nat.add_mul,Nat.one_mul] at this;omega
            ·have:(ix+1) * V.E.sz tg≤i' * V.E.sz tg:=Nat.mul_le_mul_right _ hgt
             rw [Nat.add_mul,Nat.one_mul] at this;omega
           rw [if_neg hout] at hu';exact hmono _ _ (hrel i' x' j c' u' hx' hc' hu'))
       rw [Wt] at this;exact this
     ·cases h
   ·cases h
  ·cases h
 ·cases h
def Aeg (E:Uv T) (H:List (Nat×T9 T)) (tg:Tag):AV T→Option (List Prop×List (T tg))
 | .cv (.ro t ys)=>match E.dec t tg with | .isTrue h=>some ([],h ▸ ys) | .isFalse _=>none
 | .cv (.ron t ys)=>match E.dec t tg with | .isTrue h=>some ([],h ▸ ys) | .isFalse _=>none
 | .cv (.own t id)=>match look id H with
  | some (.lst t' ys)=>match E.dec t' tg with | .isTrue h=>bif decide (E.sz t=E.sz tg) then some ([],h ▸ ys) else none | .isFalse _=>none
  | _=>none
 | .cv (.lit (.slice none 0 0))=>some ([],[])
 | _=>none
def LR (E:Uv T) (w:World) (Z:Nat→Prop) (tg:Tag) (xs:List (T tg)) (vs:List Value):Prop :=
 vs.length=xs.length * E.sz tg∧∀ (i:Nat) x (j:Nat) c u,xs[i]? = some x→(E.k tg x)[j]? = some c→vs[i * E.sz tg+j]? = some u→PR E w Z c u
theorem LR.append {E:Uv T} {tg:Tag} {xs ys:List (T tg)} {us vs:List Value} (h1:LR E w Z tg xs us) (h2:LR E w Z tg ys vs):LR E w Z tg (xs++ys) (us++vs):=by
 refine ⟨by simp [h1.1,h2.1,Nat.add_mul],fun i x j c u hx hc hu=>?_⟩;have hj:j < E.sz tg:=by rw [← E.klen tg x]; exact (List.getElem?_eq_some_iff.1 hc).1
 by_cases hi:i < xs.length
 ·have:(i+1) * E.sz tg≤xs.length * E.sz tg:=Nat.mul_le_mul_right _ hi
  rw [Nat.add_mul,Nat.one_mul] at this;rw [List.getElem?_append_left hi] at hx;rw [List.getElem?_append_left (by rw [h1.1]; omega)] at hu;exact h1.2 i x j c u hx hc hu
 ·have hge:xs.length * E.sz tg≤i * E.sz tg:=Nat.mul_le_mul_right _ (by omega);rw [List.getElem?_append_right (by omega)] at hx;rw [List.getElem?_append_right (by rw [h1.1]; omega)] at hu;refine h2.2 (i - xs.length) x j c u hx hc ?_;rw [← hu]
  congr 1
  rw [h1.1,Nat.sub_mul];omega
theorem Afg {E:Uv T} {t:Tag} {ys0:List (T t)} {v:Value} (hx:PR E w Z (.ro t ys0) v) :
  ∃ A c,v=.slice A ys0.length c∧(ys0=[]∨∃ ad news,A=some ad∧LR E w Z t ys0 news∧(∀ (j:Nat) u,news[j]? = some u→w.cell? (ad.add j)=some u)∧∀ u∈news,u.oneCell'=true):=by
 cases hx with
 | ronil=>exact ⟨_,_,rfl,.inl rfl⟩
 | ro _ _ ad cap u hz hcap hcell hrel =>
  refine ⟨_,_,rfl,?_⟩;by_cases hnil:ys0=[]
  ·exact .inl hnil
  ·refine .inr ⟨ad,(List.range (ys0.length * E.sz t)).map fun p=>u (p / E.sz t) (p % E.sz t),rfl,⟨by simp,fun i x j c v hx hc hv=>?_⟩,fun p v hv=>?_,fun v hv=>?_⟩
   ·have hj:j < E.sz t:=by rw [← E.klen t x]; exact (List.getElem?_eq_some_iff.1 hc).1
    simp only [List.getElem?_map,Option.map_eq_some_iff] at hv;obtain ⟨p,hp,rfl⟩:=hv;have hp':p=i * E.sz t+j:=by
     obtain ⟨hlt,he⟩:=List.getElem?_eq_some_iff.1 hp;simp at he; exact he.symm
    subst hp';have e1:(i * E.sz t+j) / E.sz t=i:=by rw [Nat.mul_comm,Nat.mul_add_div (E.szpos t)]; simp [Nat.div_eq_of_lt hj]
    have e2:(i * E.sz t+j) % E.sz t=j:=by rw [Nat.mul_comm,Nat.mul_add_mod]; exact Nat.mod_eq_of_lt hj
    rw [e1,e2];exact hrel i x j c hx hc
   all_goals
    first
     |(simp only [List.getElem?_map,Option.map_eq_some_iff] at hv)
     |(simp only [List.mem_map,List.mem_range] at hv)
   ·obtain ⟨q,hq,rfl⟩:=hv;obtain ⟨hlt,he⟩:=List.getElem?_eq_some_iff.1 hq;simp at he hlt;subst he;have hi:p / E.sz t < ys0.length:=by rw [Nat.div_lt_iff_lt_mul (E.szpos t)]; exact hlt
    have hjlt:p % E.sz t <(E.k t ys0[p / E.sz t]).length:=by rw [E.klen]; exact Nat.mod_lt _ (E.szpos t)
    have:=hcell (p / E.sz t) _ (p % E.sz t) _ (List.getElem?_eq_getElem hi) (List.getElem?_eq_getElem hjlt)
    rw [← this,Nat.mul_comm,Nat.div_add_mod]
   ·obtain ⟨p,hp,rfl⟩:=hv;have hi:p / E.sz t < ys0.length:=by rw [Nat.div_lt_iff_lt_mul (E.szpos t)]; exact hp
    have hjlt:p % E.sz t <(E.k t ys0[p / E.sz t]).length:=by rw [E.klen]; exact Nat.mod_lt _ (E.szpos t)
    exact (hrel (p / E.sz t) _ (p % E.sz t) _ (List.getElem?_eq_getElem hi) (List.getElem?_eq_getElem hjlt)).one
theorem Aaz {E:Uv T} {H:List (Nat×T9 T)} {tg:Tag} {x:AV T} {cs:List Prop} {ys:List (T tg)} {v:Value} (h:Aeg E H tg x=some (cs,ys)) (hcs:Us cs) (hx:RA E w Z ρ x v)
  (hH:∀ id blk,look id H=some blk→BR E w Z ρ blk (ρ id)) :
  ∃ A c,v=.slice A ys.length c∧(ys=[]∨∃ ad news,A=some ad∧LR E w Z tg ys news∧(∀ (j:Nat) u,news[j]? = some u→w.cell? (ad.add j)=some u)∧∀ u∈news,u.oneCell'=true):=by
 unfold Aeg at h;split at h
 ·rename_i t ys0;split at h
  ·rename_i ht _;subst ht;cases h;cases hx with | cv hx =>
   cases hx with | pure hx =>
   exact Afg hx
  ·cases h
 ·rename_i t ys0;split at h
  ·rename_i ht _;subst ht;cases h;cases hx with | cv hx =>
   cases hx with
   | pure hx=>cases hx
   | ron hx=>exact Afg hx
  ·cases h
 ·rename_i t id;split at h
  ·rename_i t' ys0 hl;split at h
   ·rename_i ht _;subst ht;cases hsz:decide (E.sz t=E.sz t') with
    | false=>rw [hsz] at h; cases h
    | true =>
     rw [hsz] at h;cases h;have hB:=hH _ _ hl;cases hx with | cv hx =>
     cases hx with
     | pure hx=>cases hx
     | ownv hr =>
      rw [hr] at hB
      have:ys0=[]:=hB
      subst this;exact ⟨_,_,rfl,.inl rfl⟩
     | @own _ _ n b cap hr =>
      rw [hr] at hB;obtain ⟨hk,arr,hheap,hcap,hmax,hs,hrel⟩:=hB;subst hk;refine ⟨_,_,rfl,.inr ⟨⟨b,0,none⟩,arr.toList.take (ys0.length * E.sz t'),rfl,⟨?_,fun i x j c u hx hc hu=>?_⟩,fun j u hu=>?_,fun u hu=>?_⟩⟩
      ·rw [List.length_take,show arr.toList.length=cap * E.sz t' from by simp [hs]]; exact Nat.min_eq_left (Nat.mul_le_mul_right (E.sz t') hcap)
      ·rw [List.getElem?_take] at hu;split at hu
       ·exact hrel i x j c u hx hc (by simpa using hu)
       ·cases hu
      ·rw [List.getElem?_take] at hu;split at hu
       ·rw [Uo,Nat.zero_add,Ux hheap]; simpa using hu
       ·cases hu
      ·obtain ⟨p,hp,he⟩:=List.mem_iff_getElem.1 hu;simp only [List.length_take] at hp;have hplt:p < ys0.length * E.sz t':=by omega
       have hi:p / E.sz t' < ys0.length:=by rw [Nat.div_lt_iff_lt_mul (E.szpos t')]; exact hplt
       have hjlt:p % E.sz t' <(E.k t' ys0[p / E.sz t']).length:=by rw [E.klen]; exact Nat.mod_lt _ (E.szpos t')
       refine (hrel (p / E.sz t') _ (p % E.sz t') _ u (List.getElem?_eq_getElem hi) (List.getElem?_eq_getElem hjlt) ?_).one;rw [Nat.mul_comm,Nat.div_add_mod,← he,List.getElem_take];simp
   ·cases h
  ·cases h
 ·cases h;have e:=Ua E hx;subst e;exact ⟨_,_,rfl,.inl rfl⟩
 ·cases h
end
end Go.Proofs.YtdgejpgbppfhmaaGreatDoor.Eng
namespace Go.Proofs.YtdgejpgbppfhmaaGreatDoor.Eng
open Go.RowKit (Below)
section
variable {Tag:Type} {T:Tag→Type} (V:V6 T)
variable {P:Program} {n m:Nat} {Γ:Ue} {S:St T} {Z:Nat→Prop} {ρ:Nat→Option (Nat×Nat×Nat)} {a:Act} {w:World}
def Adb (E:Uv T) (P:Program) (t:TypeId) (tg:Tag):Option Nat :=
 bif U5 E P t tg then (match P.info? (E.ty tg) with
  | some i=>match i.zero with
   | some z=>bif Nat.beq z.cells.size i.size && Nat.ble 1 i.bytes then some i.bytes else none
   | none=>none
  | none=>none) else none
def Ae0 (P:Program) (m:Nat) (S:St T) (nid:Nat) (t:TypeId) (s x:AV T):Option (List Prop×AV T×St T) :=
 match s with
 | .cv (.own tg id)=>match look id S.heap with
  | some (.lst tg' xs)=>match V.E.dec tg tg' with
   | .isTrue _=>match Adb V.E P t tg',Aeg V.E S.heap tg' x with
    | some bytes,some (cs,ys)=>bif Nat.ble m id then
      some ([(xs.length+ys.length) * bytes≤140737488355328,Us cs],.cv (.own tg' id),(S.kill id).new id (.lst tg' (xs++ys))) else none
    | _,_=>none
   | .isFalse _=>none
  | _=>none
 | .cv (.lit (.slice none 0 0))=>match P.underlying t with
  | some (.slice e)=>match V.E.ofTy e with
   | some tg=>match Adb V.E P t tg,Aeg V.E S.heap tg x with
    | some bytes,some (cs,ys)=>bif Nat.ble m nid && !S.named nid then
      some ([ys.length * bytes≤140737488355328,Us cs],.cv (.own tg nid),S.new nid (.lst tg ys)) else none
    | _,_=>none
   | none=>none
  | _=>none
 | _=>none
theorem Adx {E:Uv T} {t:TypeId} {tg:Tag} {bytes:Nat} (h:Adb E P t tg=some bytes):∃ i z,P.underlying t=some (.slice (E.ty tg))∧P.info? (E.ty tg)=some i∧i.size=E.sz tg∧i.bytes=bytes∧i.zero=some z∧z.cells.size=E.sz tg∧1≤bytes:=by
 unfold Adb at h;cases hk:U5 E P t tg with
 | false=>rw [hk] at h; cases h
 | true =>
  rw [hk] at h;obtain ⟨i0,h1,h2,h3⟩:=Va E hk;simp only [cond_true,h2] at h;split at h
  ·rename_i z hz;cases hb:(Nat.beq z.cells.size i0.size && Nat.ble 1 i0.bytes) with
   | false=>rw [hb] at h; cases h
   | true =>
    rw [hb] at h;cases h;simp only [Bool.and_eq_true] at hb;exact ⟨i0,z,h1,h2,h3,rfl,hz,by rw [Nat.eq_of_beq_eq_true hb.1,h3],Nat.le_of_ble_eq_true hb.2⟩
  ·cases h
theorem Acj {E:Uv T} {t ty:TypeId} {tg:Tag} {bytes:Nat} (hk:Adb E P t tg=some bytes) {xs ys:List (T tg)} {v u:Value} {bc:Option (Nat×Nat×Nat)}
  (hv:(v=.slice none 0 0∧xs=[]∧bc=none)∨∃ b cap arr,v=.slice (some ⟨b,0,none⟩) xs.length cap∧bc=some (b,cap,xs.length)∧b < w.heap.size∧w.heap[b]? = some (.cells arr (E.ty tg) (0,0))∧xs.length≤cap∧cap≤maxLen∧arr.size=cap * E.sz tg ∧
   ∀ (i:Nat) x (j:Nat) c u,xs[i]? = some x→(E.k tg x)[j]? = some c→arr[i * E.sz tg+j]? = some u→PR E w Z c u)
  (hu:∃ A c,u=.slice A ys.length c∧(ys=[]∨∃ ad news,A=some ad∧LR E w Z tg ys news∧(∀ (j:Nat) u,news[j]? = some u→w.cell? (ad.add j)=some u)∧∀ u∈news,u.oneCell'=true))
  (hZ:∀ b,Z b→b < w.heap.size∧∀ c,bc≠some (b,c)) (hby:(xs.length+ys.length) * bytes≤140737488355328) :
  ∃ v' w' bc',(Builtin.append_ #[t,t] ty #[v,u]).run P w=.ok v' w'∧w.grownBy w' (bc.map (·.1))∧(∀ ρ',BR E w' Z ρ' (.lst tg (xs++ys)) bc') ∧
   ((v'=.slice none 0 0∧bc'=none∧xs++ys=[])∨∃ b' c',v'=.slice (some ⟨b',0,none⟩) (xs.length+ys.length) c'∧bc'=some (b',c',xs.length+ys.length)∧b' < w'.heap.size∧(w.heap.size≤b'∨bc.map (·.1)=some b')):=by
 obtain ⟨i,z,ht,hi,hs,hb,hz,hzs,hb1⟩:=Adx hk;have hlen:xs.length+ys.length≤140737488355328:=Nat.le_trans (Nat.le_mul_of_pos_right _ hb1) hby;obtain ⟨A,c,rfl,hu⟩:=hu;have hmono:∀ {w':World},w.grownBy w' (bc.map (·.1))→∀ c u,PR E w Z c u→PR E w' Z c u:=fun hg c u h=>h.mono E (fun _ h=>h) fun b hb=>hg.block b (hZ b hb).1 fun e=>by
  cases bc with
  | none=>cases e
  | some p=>obtain ⟨b1,c1⟩:=p; simp at e; subst e; exact (hZ _ hb).2 c1 rfl
 have hmax:xs.length+ys.length≤maxLen:=by simp only [maxLen]; omega
 have fin:∀ {w':World} {g cap:Nat} {cur:Array Value} {cells news:List Value},w.grownBy w' (bc.map (·.1))→LR E w Z tg xs cells→LR E w Z tg ys news→w'.heap[g]? = some (.cells cur (E.ty tg) (0,0))→xs.length+ys.length≤cap→cap≤maxLen →
   cur.size=cap * E.sz tg→cur.toList.take ((xs.length+ys.length) * E.sz tg)=cells++news→∀ ρ',BR E w' Z ρ' (.lst tg (xs++ys)) (some (g,cap,xs.length+ys.length)):=by
  intro w' g cap cur cells news hg h1 h2 hheap hc hm hsz htake ρ';have hl:=LR.append h1 h2;refine ⟨by simp,cur,hheap,by simpa using hc,hm,hsz,fun i x j c u hx hcc hu=>hmono hg _ _ (hl.2 i x j c u hx hcc ?_)⟩;have hj:j < E.sz tg:=by rw [← E.klen tg x]; exact (List.getElem?_eq_some_iff.1 hcc).1
  have hi:i < xs.length+ys.length:=by have:=(List.getElem?_eq_some_iff.1 hx).1; simpa using this
  have:(i+1) * E.sz tg≤(xs.length+ys.length) * E.sz tg:=Nat.mul_le_mul_right _ hi
  rw [Nat.add_mul,Nat.one_mul] at this;rw [← htake,List.getElem?_take,if_pos (by omega)];simpa using hu
 rcases hu with rfl |⟨ad,news,rfl,hnews,hcells,hone⟩
 ·-- nothing is appended
  have hsrc:Src P i.size t (.slice A 0 c) 0 [] w:=?_
  ·rcases hv with ⟨rfl,rfl,rfl⟩ |⟨b,cap,arr,rfl,rfl,hlt,hheap,hcap,hcm,hsz,hrel⟩
   ·exact ⟨_,w,none,run_append_nothing (P:=P) w t t ty _ i ht hi none 0 0 (Nat.le_refl _) _ hsrc,⟨rfl,rfl,rfl,Nat.le_refl _,fun _ _ _=>rfl⟩,fun _=>rfl,.inl ⟨rfl,rfl,rfl⟩⟩
   ·refine ⟨_,w,some (b,cap,xs.length),run_append_nothing (P:=P) w t t ty _ i ht hi _ _ cap hcap _ hsrc,⟨rfl,rfl,rfl,Nat.le_refl _,fun _ _ _=>rfl⟩,fun ρ'=>?_,.inr ⟨b,cap,rfl,rfl,hlt,.inr rfl⟩⟩;rw [List.append_nil];exact ⟨rfl,arr,hheap,hcap,hcm,hsz,hrel⟩
  ·exact ⟨.inl ⟨_,ht⟩,fun w'=>by simp [Builtin.lenOf],by cases A <;> simp [Builtin.firstCells,loadCells,loadCellsFrom],by cases A <;> simp [Builtin.firstCells,loadCells,loadCellsFrom],by simp,fun u hu=>by simp at hu⟩
 ·rcases hv with ⟨rfl,rfl,rfl⟩ |⟨b,cap,arr,rfl,rfl,hlt,hheap,hcap,hcm,hsz,hrel⟩
  ·-- onto nil
   obtain ⟨v',w',e1,e2,e3,e4⟩:=run_append_own (P:=P) w w.heap.size t ty (E.ty tg) i z (E.sz tg) bytes ht hi hz hs hb hzs (E.szpos tg) (.slice none 0 0) 0 [] (World.ownsRow_nil _ _ _ _) ad ys.length c news hnews.1 hcells hone (by simpa using hmax) (by simpa using hby) (Nat.le_refl _);rcases e2.2 with ⟨h1,h2⟩ |⟨g,cap',cur,h1,h2,h3,h4,h5,h6,h7⟩
   ·exact ⟨v',w',none,e1,e3,fun ρ'=>by simp at h2; simp [h2,BR],.inl ⟨h1,rfl,by simp at h2; simp [h2]⟩⟩
   ·have hlr0:LR E w Z tg [] []:=⟨by simp,fun i x j c u hx=>by simp at hx⟩
    refine ⟨v',w',some (g,cap',0+ys.length),e1,e3,fin e3 hlr0 hnews h3 (by simpa using h4) h5 h6 (by simpa using h7),.inr ⟨g,cap',by simpa using h1,by simp,?_,.inl h2⟩⟩;rcases Nat.lt_or_ge g w'.heap.size with h | h
    ·exact h
    ·rw [Array.getElem?_eq_none h] at h3; cases h3
  ·have hlr:LR E w Z tg xs (arr.toList.take (xs.length * E.sz tg)):=by
    refine ⟨?_,fun i x j c u hx hc hu=>?_⟩
    ·rw [List.length_take,show arr.toList.length=cap * E.sz tg from by simp [hsz]]; exact Nat.min_eq_left (Nat.mul_le_mul_right _ hcap)
    ·rw [List.getElem?_take] at hu;split at hu
     ·exact hrel i x j c u hx hc (by simpa using hu)
     ·cases hu
   by_cases hroom:xs.length+ys.length≤cap
   ·have hle:=Nat.mul_le_mul_right (E.sz tg) hroom;rw [Nat.add_mul] at hle;have hfit:xs.length * i.size+news.length≤arr.size:=by rw [hs,hnews.1,hsz]; omega
    have hr:=run_append_room (P:=P) w t ty (E.ty tg) i ht hi b xs.length cap arr hheap ad ys.length c news (by rw [hs]; exact hnews.1) hcells hone hroom hfit;generalize hcur:(arr.toList.take (xs.length * i.size)++news++arr.toList.drop (xs.length * i.size+news.length)).toArray=cur at hr;have hg:=Wc w b cur;have hrow:=setRow_heap w b arr cur _ (0,0) hheap;rw [hs] at hcur;refine ⟨_,_,some (b,cap,xs.length+ys.length),hr,hg,fin (w':=w.setRow b cur) hg hlr hnews hrow hroom hcm ?_ ?_,.inr ⟨b,cap,rfl,rfl,by rw [size_setRow]; exact hlt,.inr rfl⟩⟩
    ·rw [← hcur];simp only [List.size_toArray,List.length_append,List.length_take,List.length_drop,Array.length_toList,hnews.1,hsz];omega
    ·rw [← hcur];simp only [List.toList_toArray];have h1:=hlr.1;rw [List.append_assoc,List.take_append,List.take_of_length_le (by rw [h1,Nat.add_mul]; omega),h1]
     congr 1
     rw [List.take_append,List.take_of_length_le (by rw [hnews.1,Nat.add_mul]; omega)];rw [show (xs.length+ys.length) * E.sz tg - xs.length * E.sz tg - news.length=0 from by rw [hnews.1,Nat.add_mul]; omega];simp
   ·obtain ⟨v',w',e1,e2,e3⟩:=run_append_arg_grows (P:=P) w t ty (E.ty tg) i z (E.sz tg) bytes ht hi hz hs hb hzs (E.szpos tg) ⟨b,0,none⟩ xs.length cap (arr.toList.take (xs.length * E.sz tg)) hlr.1
     (fun j u hu=>by
      rw [List.getElem?_take] at hu;split at hu
      ·rw [Uo,Nat.zero_add,Ux hheap]; simpa using hu
      ·cases hu) ad ys.length c news hnews.1 hcells (by omega) hmax hby
    have e3':w.grownBy w' (some b):=⟨e3.os,e3.tape,e3.output,e3.size,fun k hk _=>e3.block k hk (by simp)⟩
    rcases e2.2 with ⟨h1,h2⟩ |⟨g,cap',cur,h1,h2,h3,h4,h5,h6,h7⟩
    ·have:xs.length=0∧ys.length=0:=by omega
     refine ⟨v',w',none,e1,e3',fun ρ'=>?_,.inl ⟨h1,rfl,?_⟩⟩
     ·simp [BR,List.eq_nil_of_length_eq_zero this.1,List.eq_nil_of_length_eq_zero this.2]
     ·simp [List.eq_nil_of_length_eq_zero this.1,List.eq_nil_of_length_eq_zero this.2]
    ·refine ⟨v',w',some (g,cap',xs.length+ys.length),e1,e3',fin e3' hlr hnews h3 h4 h5 h6 h7,.inr ⟨g,cap',h1,rfl,?_,.inl h2⟩⟩;rcases Nat.lt_or_ge g w'.heap.size with h | h
     ·exact h
     ·rw [Array.getElem?_eq_none h] at h3; cases h3
theorem Zk {E:Uv T} {t:Tag} {id:Nat} {v:Value} (h:RC E w Z ρ (.own t id) v):(ρ id=none∧v=.slice none 0 0)∨∃ b cap k,ρ id=some (b,cap,k)∧v=.slice (some ⟨b,0,none⟩) k cap:=by
 cases h with
 | pure h=>cases h
 | ownv h=>exact .inl ⟨h,rfl⟩
 | own h=>exact .inr ⟨_,_,_,h,rfl⟩
theorem Ach {t ty:TypeId} {nid:Nat} {s x r:AV T} {cs:List Prop} {S':St T} {us ux:Value} (h:Ae0 V P m S nid t s x=some (cs,r,S')) (hcs:Us cs) (ha:Ul V n m Γ S Z ρ a w)
  (hs:RA V.E w Z ρ s us) (hx:RA V.E w Z ρ x ux):∃ v' w' ρ',(Builtin.append_ #[t,t] ty #[us,ux]).run P w=.ok v' w'∧Ul V n m Γ S' Z ρ' a w'∧RA V.E w' Z ρ' r v':=by
 unfold Ae0 at h;split at h
 ·rename_i tg id;split at h
  ·rename_i tg' xs hlk;split at h
   ·rename_i htg _;subst htg;split at h
    ·rename_i bytes cs0 ys hk hsrc;cases hm:Nat.ble m id with
     | false=>rw [hm] at h; cases h
     | true =>
      rw [hm] at h;cases h;obtain ⟨h3,hcs⟩:=hcs;replace hcs:Us cs0:=hcs;have hB:=ha.blk id _ hlk;have hu:=Aaz hsrc hcs hx ha.blk;cases hs with | cv hs =>
      have hown:∃ bc,ρ id=bc∧((us=.slice none 0 0∧xs=[]∧bc=none)∨∃ b cap arr,us=.slice (some ⟨b,0,none⟩) xs.length cap∧bc=some (b,cap,xs.length)∧b < w.heap.size∧w.heap[b]? = some (.cells arr (V.E.ty tg) (0,0))∧xs.length≤cap∧cap≤maxLen∧arr.size=cap * V.E.sz tg ∧
        ∀ (i:Nat) x (j:Nat) c u,xs[i]? = some x→(V.E.k tg x)[j]? = some c→arr[i * V.E.sz tg+j]? = some u→PR V.E w Z c u):=by
       rcases Zk hs with ⟨hr,rfl⟩ |⟨b,cap,k,hr,rfl⟩
       ·rw [hr] at hB;exact ⟨none,hr,.inl ⟨rfl,hB,rfl⟩⟩
       ·rw [hr] at hB;obtain ⟨g0,arr,g1,g2,g3,g4,g5⟩:=hB;subst g0;exact ⟨some (b,cap,xs.length),hr,.inr ⟨b,cap,arr,rfl,rfl,(ha.own id _ b _ hlk hr).1,g1,g2,g3,g4,g5⟩⟩
      obtain ⟨bc,hbc,hown⟩:=hown;obtain ⟨v',w',bc',e1,e2,e3,e4⟩:=Acj (P:=P) (ty:=ty) hk hown hu (fun b hb=>⟨ha.Zlt b hb,fun c hc=>(ha.own id _ b c hlk (hbc.trans hc)).2.1 hb⟩) h3;refine ⟨v',w',Uy ρ id bc',e1,?_,?_⟩
      ·have hkill:=ha.kill id;have hlk':look id (S.kill id).heap=some (.lst tg xs):=by simp only [St.kill]; rw [Vc,hlk]; rfl
       refine hkill.rebase (.inr ⟨Nat.le_of_ble_eq_true hm,St.kill_named id S⟩) (old:=bc.map (·.1)) (fun k hk=>?_) e2 (fun b c hb=>?_) (e3 _)
       ·rw [Option.map_eq_some_iff] at hk;obtain ⟨p,hp,rfl⟩:=hk;exact ⟨_,p.2,hlk',by rw [hbc,hp]⟩
       ·rcases e4 with ⟨_,g,_⟩ |⟨b',c',_,g,g1,g2⟩
        ·rw [g] at hb; cases hb
        ·rw [g] at hb; cases hb; exact ⟨g1,g2⟩
      ·rcases e4 with ⟨g1,g2,g3⟩ |⟨b',c',g1,g2,g3,g4⟩
       ·rw [g1];exact .cv (.ownv (by unfold Uy; rw [if_pos rfl]; exact g2))
       ·rw [g1];exact .cv (.own (by unfold Uy; rw [if_pos rfl]; exact g2))
    ·cases h
   ·cases h
  ·cases h
 ·split at h
  ·rename_i e hu';split at h
   ·rename_i tg htg;split at h
    ·rename_i bytes cs0 ys hk hsrc;cases hm:(Nat.ble m nid && !S.named nid) with
     | false=>rw [hm] at h; cases h
     | true =>
      rw [hm] at h;cases h;simp only [Bool.and_eq_true,Bool.not_eq_true'] at hm;obtain ⟨h3,hcs⟩:=hcs;replace hcs:Us cs0:=hcs;have hu:=Aaz hsrc hcs hx ha.blk;have e:=Ua V.E hs;subst e;obtain ⟨v',w',bc',e1,e2,e3,e4⟩:=Acj (P:=P) (ty:=ty) hk (xs:=[]) (bc:=none) (.inl ⟨rfl,rfl,rfl⟩) hu (fun b hb=>⟨ha.Zlt b hb,fun c hc=>by cases hc⟩) (by simpa using h3);simp only [List.nil_append,List.length_nil,Nat.zero_add] at e3 e4;refine ⟨v',w',Uy ρ nid bc',e1,?_,?_⟩
      ·refine ha.rebase (.inr ⟨Nat.le_of_ble_eq_true hm.1,hm.2⟩) (old:=none) (fun k hk=>by cases hk) e2 (fun b c hb=>?_) (e3 _);rcases e4 with ⟨_,g,_⟩ |⟨b',c',_,g,g1,g2⟩
       ·rw [g] at hb; cases hb
       ·rw [g] at hb; cases hb; exact ⟨g1,g2⟩
      ·rcases e4 with ⟨g1,g2,g3⟩ |⟨b',c',g1,g2,g3,g4⟩
       ·rw [g1];exact .cv (.ownv (by unfold Uy; rw [if_pos rfl]; exact g2))
       ·rw [g1];exact .cv (.own (by unfold Uy; rw [if_pos rfl]; exact g2))
    ·cases h
   ·cases h
  ·cases h
 ·cases h
def X4 (E:Uv T) (P:Program) (t t':TypeId) (tg:Tag):Bool :=
 bif U5 E P t tg && Nat.beq (E.sz tg) 1 then (match P.underlying t',P.info? (E.ty tg) with
  | some .string,some i=>match i.zero with
   | some (.int .u8 0)=>Nat.beq i.bytes 1
   | _=>false
  | _,_=>false) else false
def Adm (P:Program) (m:Nat) (S:St T) (nid:Nat) (t t':TypeId) (s:AV T) (l:List UInt8):Option (List Prop×AV T×St T) :=
 match s with
 | .cv (.own tg id)=>match look id S.heap with
  | some (.lst tg' xs)=>match V.E.dec tg tg' with
   | .isTrue _=>bif X4 V.E P t t' tg' && Nat.ble m id then
         some ([xs.length+l.length≤140737488355328,∀ b,V.E.k tg' (V.ofB tg' b)=[.lit (.int .u8 b.toNat)]],.cv (.own tg' id),(S.kill id).new id (.lst tg' (xs++l.map (V.ofB tg')))) else none
   | .isFalse _=>none
  | _=>none
 | .cv (.lit (.slice none 0 0))=>match P.underlying t with
  | some (.slice e)=>match V.E.ofTy e with
   | some tg=>bif X4 V.E P t t' tg && (Nat.ble m nid && !S.named nid) then
         some ([l.length≤140737488355328,∀ b,V.E.k tg (V.ofB tg b)=[.lit (.int .u8 b.toNat)]],.cv (.own tg nid),S.new nid (.lst tg (l.map (V.ofB tg)))) else none
   | none=>none
  | _=>none
 | _=>none
theorem Ac2 {E:Uv T} {t t':TypeId} {tg:Tag} (h:X4 E P t t' tg=true):E.sz tg=1∧∃ i,P.underlying t=some (.slice (E.ty tg))∧P.underlying t'=some .string∧P.info? (E.ty tg)=some i∧i.size=1∧i.bytes=1∧i.zero=some (.int .u8 0):=by
 unfold X4 at h;cases hk:(U5 E P t tg && Nat.beq (E.sz tg) 1) with
 | false=>rw [hk] at h; cases h
 | true =>
  rw [hk] at h;rw [Bool.and_eq_true] at hk;obtain ⟨i0,h1,h2,h3⟩:=Va E hk.1;have h4:=Nat.eq_of_beq_eq_true hk.2;simp only [cond_true,h2] at h;split at h
  ·rename_i i hu hi;cases hi;split at h
   ·rename_i hz;exact ⟨h4,i0,h1,hu,h2,by rw [h3,h4],Nat.eq_of_beq_eq_true h,hz⟩
   ·cases h
  ·cases h
theorem Aa6 {E:Uv T} {t t' ty:TypeId} {tg:Tag} {f:UInt8→T tg} (hk:X4 E P t t' tg=true) (hf:∀ b,E.k tg (f b)=[.lit (.int .u8 b.toNat)]) {xs:List (T tg)} {l:List UInt8} {v:Value} {bc:Option (Nat×Nat×Nat)}
  (hv:(v=.slice none 0 0∧xs=[]∧bc=none)∨∃ b cap arr,v=.slice (some ⟨b,0,none⟩) xs.length cap∧bc=some (b,cap,xs.length)∧b < w.heap.size∧w.heap[b]? = some (.cells arr (E.ty tg) (0,0))∧xs.length≤cap∧cap≤maxLen∧arr.size=cap * E.sz tg ∧
   ∀ (i:Nat) x (j:Nat) c u,xs[i]? = some x→(E.k tg x)[j]? = some c→arr[i * E.sz tg+j]? = some u→PR E w Z c u)
  (hZ:∀ b,Z b→b < w.heap.size∧∀ c,bc≠some (b,c)) (hby:xs.length+l.length≤140737488355328) :
  ∃ v' w' bc',(Builtin.append_ #[t,t'] ty #[v,.string ⟨l.toArray⟩]).run P w=.ok v' w'∧w.grownBy w' (bc.map (·.1))∧(∀ ρ',BR E w' Z ρ' (.lst tg (xs++l.map f)) bc') ∧
   ((v'=.slice none 0 0∧bc'=none∧xs++l.map f=[])∨∃ b' c',v'=.slice (some ⟨b',0,none⟩) (xs.length+l.length) c'∧bc'=some (b',c',xs.length+l.length)∧b' < w'.heap.size∧(w.heap.size≤b'∨bc.map (·.1)=some b')):=by
 obtain ⟨hsz,i,ht,hu,hi,hs,hb,hz⟩:=Ac2 hk;have hsl:(ByteArray.mk l.toArray).size=l.length:=by show l.toArray.size=_; simp
 have hown:∃ vs:List Value,w.ownsRow (match bc with | none=>w.heap.size | some _=>0) (E.ty tg) 1 v xs.length vs∧(∀ (i:Nat) x c u,xs[i]? = some x→(E.k tg x)[0]? = some c→vs[i]? = some u→PR E w Z c u)∧v.ownBlock=bc.map (·.1):=by
  rcases hv with ⟨rfl,rfl,rfl⟩ |⟨b,cap,arr,rfl,rfl,hlt,hheap,hcap,hcm,hasz,hrel⟩
  ·exact ⟨[],World.ownsRow_nil _ _ _ _,fun i x c u hx=>by simp at hx,rfl⟩
  ·refine ⟨arr.toList.take xs.length,⟨?_,.inr ⟨b,cap,arr,rfl,Nat.zero_le _,hheap,hcap,hcm,by rw [hasz,hsz],by simp⟩⟩,fun i x c u hx hc hu'=>?_,rfl⟩
   ·rw [List.length_take,show arr.toList.length=cap from by simp [hasz,hsz]]; omega
   ·rw [List.getElem?_take] at hu';split at hu'
    ·exact hrel i x 0 c u hx hc (by rw [hsz]; simpa using hu')
    ·cases hu'
 obtain ⟨vs,hown,hrel,hob⟩:=hown;obtain ⟨v',w',e1,e2,e3,e4⟩:=Lib.run_append_own_string (P:=P) w _ t t' ty (E.ty tg) i ht hu hi hz hs hb v xs.length vs hown ⟨l.toArray⟩ (by rw [hsl]; unfold maxLen; omega) (by rw [hsl]; exact hby) (by cases bc <;> simp);rw [hsl] at e2;rw [hob] at e3;have hmono:∀ c u,PR E w Z c u→PR E w' Z c u:=fun c u h=>h.mono E (fun _ h=>h) fun b hb=>e3.block b (hZ b hb).1 fun e=>by
  cases bc with
  | none=>cases e
  | some p=>obtain ⟨b1,c1⟩:=p; simp at e; subst e; exact (hZ _ hb).2 c1 rfl
 have hvl:vs.length=xs.length:=by simpa using hown.1
 have hall:∀ (i:Nat) x c u,(xs++l.map f)[i]? = some x→(E.k tg x)[0]? = some c→(vs++Lib.strCells ⟨l.toArray⟩)[i]? = some u→PR E w' Z c u:=fun i x c u hx hc hu'=>by
  by_cases hlt:i < xs.length
  ·rw [List.getElem?_append_left hlt] at hx;rw [List.getElem?_append_left (by omega)] at hu';exact hmono _ _ (hrel i x c u hx hc hu')
  ·rw [List.getElem?_append_right (by omega)] at hx;rw [List.getElem?_append_right (by omega),hvl] at hu';simp only [List.getElem?_map,Option.map_eq_some_iff] at hx;obtain ⟨b,hb',rfl⟩:=hx;rw [hf b] at hc;simp at hc;subst hc;simp only [Lib.strCells,List.getElem?_map,Option.map_eq_some_iff] at hu';obtain ⟨b2,hb2,rfl⟩:=hu'
   have:b2=b:=by rw [hb'] at hb2; exact (Option.some.inj hb2).symm
   subst this;exact .lit rfl
 rcases e2.2 with ⟨h1,h2⟩ |⟨g,cap',cur,h1,h2,h3,h4,h5,h6,h7⟩
 ·have hx0:xs=[]:=List.eq_nil_of_length_eq_zero (by omega);have hl0:l=[]:=List.eq_nil_of_length_eq_zero (by omega);exact ⟨v',w',none,e1,e3,fun ρ'=>by simp [hx0,hl0,BR],.inl ⟨h1,rfl,by simp [hx0,hl0]⟩⟩
 ·refine ⟨v',w',some (g,cap',xs.length+l.length),e1,e3,fun ρ'=>⟨by simp,cur,h3,by simpa using h4,h5,by rw [h6,hsz],fun i x j c u hx hc hu'=>?_⟩,.inr ⟨g,cap',h1,rfl,?_,?_⟩⟩
  ·have hj:j < E.sz tg:=by rw [← E.klen tg x]; exact (List.getElem?_eq_some_iff.1 hc).1
   rw [hsz] at hj hu';obtain rfl:j=0:=by omega
   have hi':i < xs.length+l.length:=by have:=(List.getElem?_eq_some_iff.1 hx).1; simpa using this
   refine hall i x c u hx hc ?_;rw [← h7,List.getElem?_take,if_pos (by omega)];simpa using hu'
  ·rcases Nat.lt_or_ge g w'.heap.size with h | h
   ·exact h
   ·rw [Array.getElem?_eq_none h] at h3; cases h3
  ·rcases hv with ⟨rfl,rfl,rfl⟩ |⟨b,cap,arr,rfl,rfl,hlt,hheap,hcap,hcm,hasz,hrel0⟩
   ·exact .inl h2
   ·by_cases hroom:xs.length+l.length≤cap
    ·have hr:=Lib.run_append_room_string (P:=P) w t t' ty (E.ty tg) i ht hu hi hs b xs.length cap arr hheap ⟨l.toArray⟩ (by rw [hsl]; exact hroom) (by rw [hsl,hasz,hsz]; omega);rw [hr,h1] at e1;simp only [Result.ok.injEq,Value.slice.injEq,Option.some.injEq,Addr.mk.injEq] at e1;exact .inr (by simp [e1.1.1.1])
    ·have holds:∀ j u,vs[j]? = some u→w.cell? ((⟨b,0,none⟩:Addr).add j)=some u:=hown.cells (g:=b) rfl;have hr:=Lib.run_append_grow_string (P:=P) w t t' ty (E.ty tg) i (.int .u8 0) ht hu hi hz ⟨b,0,none⟩ xs.length cap vs (by rw [hs]; simpa using hvl) holds ⟨l.toArray⟩ (by rw [hsl]; omega) (by rw [hsl]; omega) (by rw [hb,hsl]; exact growslice_fits (by omega) (by omega));rw [hr,h1] at e1;simp only [Result.ok.injEq,Value.slice.injEq,Option.some.injEq,Addr.mk.injEq] at e1;exact .inl (by rw [← e1.1.1.1]; exact Nat.le_refl _)
theorem Ab0 {t t' ty:TypeId} {nid:Nat} {s r:AV T} {l:List UInt8} {cs:List Prop} {S':St T} {us:Value} (h:Adm V P m S nid t t' s l=some (cs,r,S')) (hcs:Us cs) (ha:Ul V n m Γ S Z ρ a w)
  (hs:RA V.E w Z ρ s us):∃ v' w' ρ',(Builtin.append_ #[t,t'] ty #[us,.string ⟨l.toArray⟩]).run P w=.ok v' w'∧Ul V n m Γ S' Z ρ' a w'∧RA V.E w' Z ρ' r v':=by
 unfold Adm at h;split at h
 ·rename_i tg id;split at h
  ·rename_i tg' xs hlk;split at h
   ·rename_i htg _;subst htg;cases hm:(X4 V.E P t t' tg && Nat.ble m id) with
    | false=>rw [hm] at h; cases h
    | true =>
     rw [hm] at h;cases h;rw [Bool.and_eq_true] at hm;obtain ⟨h3,hf⟩:=hcs;have hB:=ha.blk id _ hlk;cases hs with | cv hs =>
     have hown:∃ bc,ρ id=bc∧((us=.slice none 0 0∧xs=[]∧bc=none)∨∃ b cap arr,us=.slice (some ⟨b,0,none⟩) xs.length cap∧bc=some (b,cap,xs.length)∧b < w.heap.size∧w.heap[b]? = some (.cells arr (V.E.ty tg) (0,0))∧xs.length≤cap∧cap≤maxLen∧arr.size=cap * V.E.sz tg ∧
       ∀ (i:Nat) x (j:Nat) c u,xs[i]? = some x→(V.E.k tg x)[j]? = some c→arr[i * V.E.sz tg+j]? = some u→PR V.E w Z c u):=by
      rcases Zk hs with ⟨hr,rfl⟩ |⟨b,cap,k,hr,rfl⟩
      ·rw [hr] at hB;exact ⟨none,hr,.inl ⟨rfl,hB,rfl⟩⟩
      ·rw [hr] at hB;obtain ⟨g0,arr,g1,g2,g3,g4,g5⟩:=hB;subst g0;exact ⟨some (b,cap,xs.length),hr,.inr ⟨b,cap,arr,rfl,rfl,(ha.own id _ b _ hlk hr).1,g1,g2,g3,g4,g5⟩⟩
     obtain ⟨bc,hbc,hown⟩:=hown;obtain ⟨v',w',bc',e1,e2,e3,e4⟩:=Aa6 (P:=P) (ty:=ty) hm.1 hf hown (fun b hb=>⟨ha.Zlt b hb,fun c hc=>(ha.own id _ b c hlk (hbc.trans hc)).2.1 hb⟩) h3;refine ⟨v',w',Uy ρ id bc',e1,?_,?_⟩
     ·have hkill:=ha.kill id;have hlk':look id (S.kill id).heap=some (.lst tg xs):=by simp only [St.kill]; rw [Vc,hlk]; rfl
      refine hkill.rebase (.inr ⟨Nat.le_of_ble_eq_true hm.2,St.kill_named id S⟩) (old:=bc.map (·.1)) (fun k hk=>?_) e2 (fun b c hb=>?_) (e3 _)
      ·rw [Option.map_eq_some_iff] at hk;obtain ⟨p,hp,rfl⟩:=hk;exact ⟨_,p.2,hlk',by rw [hbc,hp]⟩
      ·rcases e4 with ⟨_,g,_⟩ |⟨b',c',_,g,g1,g2⟩
       ·rw [g] at hb; cases hb
       ·rw [g] at hb; cases hb; exact ⟨g1,g2⟩
     ·rcases e4 with ⟨g1,g2,g3⟩ |⟨b',c',g1,g2,g3,g4⟩
      ·rw [g1];exact .cv (.ownv (by unfold Uy; rw [if_pos rfl]; exact g2))
      ·rw [g1];exact .cv (.own (by unfold Uy; rw [if_pos rfl]; exact g2))
   ·cases h
  ·cases h
 ·split at h
  ·rename_i e hu';split at h
   ·rename_i tg htg;cases hm:(X4 V.E P t t' tg && (Nat.ble m nid && !S.named nid)) with
    | false=>rw [hm] at h; cases h
    | true =>
     rw [hm] at h;cases h;simp only [Bool.and_eq_true,Bool.not_eq_true'] at hm;obtain ⟨h3,hf⟩:=hcs;have e:=Ua V.E hs;subst e;obtain ⟨v',w',bc',e1,e2,e3,e4⟩:=Aa6 (P:=P) (ty:=ty) hm.1 hf (xs:=[]) (bc:=none) (.inl ⟨rfl,rfl,rfl⟩) (fun b hb=>⟨ha.Zlt b hb,fun c hc=>by cases hc⟩) (by simpa using h3);simp only [List.nil_append,List.length_nil,Nat.zero_add] at e3 e4;refine ⟨v',w',Uy ρ nid bc',e1,?_,?_⟩
     ·refine ha.rebase (.inr ⟨Nat.le_of_ble_eq_true hm.2.1,hm.2.2⟩) (old:=none) (fun k hk=>by cases hk) e2 (fun b c hb=>?_) (e3 _);rcases e4 with ⟨_,g,_⟩ |⟨b',c',_,g,g1,g2⟩
      ·rw [g] at hb; cases hb
      ·rw [g] at hb; cases hb; exact ⟨g1,g2⟩
     ·rcases e4 with ⟨g1,g2,g3⟩ |⟨b',c',g1,g2,g3,g4⟩
      ·rw [g1];exact .cv (.ownv (by unfold Uy; rw [if_pos rfl]; exact g2))
      ·rw [g1];exact .cv (.own (by unfold Uy; rw [if_pos rfl]; exact g2))
   ·cases h
  ·cases h
 ·cases h
def evFz (E:Uv T) (P:Program) (H:List (Nat×T9 T)) (s d:TypeId) (x:AV T):Option (List Prop×Nat×T9 T×AV T) :=
 match x,P.underlying s with
 | .cv (.own tg id),some (.slice e)=>match P.underlying e,look id H with
  | some (.int .u8),some (.lst tg' xs)=>match E.dec tg tg' with
   | .isTrue _=>bif Nat.beq s d then some ([0 < xs.length],id,.fz tg' xs,.cv (.own tg' id)) else none
   | .isFalse _=>none
  | _,_=>none
 | _,_=>none
theorem Acy (w:World) (b k:Nat) (arr:Array Value) (e:TypeId) (h:w.heap[b]? = some (.cells arr e (0,0))):(w.freeze ⟨b,k,none⟩ 1).heap[b]? = some (.cells arr e (k,k+1)):=by
 have hlt:b < w.heap.size:=(Array.getElem?_eq_some_iff.1 h).1;have hv:w.heap[b]=.cells arr e (0,0):=(Array.getElem?_eq_some_iff.1 h).2;unfold World.freeze;rw [if_neg (by decide)];simp only;rw [Array.getElem?_eq_getElem (by simpa using hlt),Array.getElem_modify];simp [hv]
theorem V9 (w:World) (b k:Nat):w.grownBy (w.freeze ⟨b,k,none⟩ 1) (some b):=by
 unfold World.freeze;rw [if_neg (by decide)];refine ⟨rfl,rfl,rfl,by simp,fun i hi hne=>?_⟩;simp only;rw [Array.getElem?_modify,if_neg (fun e=>hne (by rw [e]))]
theorem Zz {H:List (Nat×T9 T)} {s d:TypeId} {x r:AV T} {cs:List Prop} {X:Nat} {blk:T9 T} {u:Value} (h:evFz V.E P H s d x=some (cs,X,blk,r)) (hcs:Us cs) (ha:Ul V n m Γ S Z ρ a w)
  (hl:∀ b,look X H=some b→look X S.heap=some b) (hx:RA V.E w Z ρ x u):∃ w',(convert s d u).run P w=.ok u w'∧Ul V n m Γ (S.new X blk) Z ρ a w'∧RA V.E w' Z ρ r u:=by
 unfold evFz at h;split at h
 ·rename_i tg id e hs;split at h
  ·rename_i tg' xs he hlk;split at h
   ·rename_i htg _;subst htg;cases hb:Nat.beq s d with
    | false=>rw [hb] at h; cases h
    | true =>
     rw [hb] at h;cases h
     have:=Nat.eq_of_beq_eq_true hb
     subst this;have hpos:0 < xs.length:=hcs;have hB:=ha.blk _ _ (hl _ hlk);cases hx with | cv hx =>
     rcases Zk hx with ⟨hr,rfl⟩ |⟨b,cap,k,hr,rfl⟩
     ·rw [hr] at hB
      have:xs=[]:=hB
      subst this;cases hpos
     ·rw [hr] at hB;obtain ⟨hk,arr,g1,g2,g3,g4,g5⟩:=hB;have hlt:=(ha.own _ _ b _ (hl _ hlk) hr).1;have hnz:=(ha.own _ _ b _ (hl _ hlk) hr).2.1;have hZ:∀ b',Z b'→(w.freeze ⟨b,arr.size,none⟩ 1).heap[b']? = w.heap[b']?:=fun b' hb'=>(V9 w b arr.size).block b' (ha.Zlt b' hb') (fun e=>hnz (by cases e; exact hb'))
      refine ⟨w.freeze ⟨b,arr.size,none⟩ 1,?_,?_,.cv (.own hr)⟩
      ·have hsh:w.shape? b=some (V.E.ty tg,arr.size):=by
        unfold World.shape?;rw [g1]
       simp [convert,run_underlying hs,run_underlying he,markStringish,hsh]
      ·have:=Ul.rebase (id:=X) (bc:=ρ X) ha (.inl rfl) (old:=some b) (fun k hk=>by cases hk; exact ⟨_,_,hl _ hlk,hr⟩) (V9 w b arr.size)
        (fun b' c' hbc=>by rw [hr] at hbc; cases hbc; exact ⟨Nat.lt_of_lt_of_le hlt (V9 w b arr.size).size,.inr rfl⟩) (B:=.fz tg xs) (by
         rw [hr];exact ⟨hk,arr,_,Acy w b arr.size arr _ g1,g2,g3,g4,fun i x j c u hx hc hu=>(g5 i x j c u hx hc hu).mono V.E (fun _ h=>h) hZ⟩)
       rw [Wt] at this;exact this
   ·cases h
  ·cases h
 ·cases h
end
end Go.Proofs.YtdgejpgbppfhmaaGreatDoor.Eng
