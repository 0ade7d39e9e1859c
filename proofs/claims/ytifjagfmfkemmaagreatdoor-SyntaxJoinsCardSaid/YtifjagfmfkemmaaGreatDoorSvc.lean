import Derived.Test.YtifjagfmfkemmaaGreatDoorTy
import Derived.Test.YtifjagfmfkemmaaGreatDoorShf
import Derived.Lib.Bytealg
import Derived.Lib.ItoaNum
import Derived.Lib.Join
import Derived.Lib.Fields
import Derived.Lib.ParseIntB
set_option linter.unusedVariables false
set_option linter.unusedSimpArgs false
set_option maxHeartbeats 2000000
namespace Go.Proofs.YtifjagfmfkemmaaGreatDoor
open Eng Go.RowKit
def Jz (l:List UInt8):Bool:=match Lib.parseIntB 64 l with | .ok _=>true | _=>false
def Io (l:List UInt8):Int:=match Lib.parseIntB 64 l with | .ok v=>v | _=>0
theorem Rq {vs:Array Value} (h:vs.size=1):∃ v,vs = #[v]:=by
 match vs,h with
 |⟨[v]⟩,_=>exact ⟨v,rfl⟩
theorem arr_2 {vs:Array Value} (h:vs.size=2):∃ v u,vs = #[v,u]:=by
 match vs,h with
 |⟨[v,u]⟩,_=>exact ⟨v,u,rfl⟩
theorem Rt {vs:Array Value} (h:vs.size=3):∃ v u x,vs = #[v,u,x]:=by
 match vs,h with
 |⟨[v,u,x]⟩,_=>exact ⟨v,u,x,rfl⟩
theorem Hd {w w':World} {Z:Nat→Prop} (h:Below w.heap.size w w'):Eng.Onto w w' Z Z:=⟨h,fun _ h=>h,fun _ h=>.inl h⟩
theorem strings_IndexByte.ok (l:List UInt8) (c:Int):T1 V P 152 [.cv (.str l),.cv (.lit (.int .u8 c))] (.I (Lib.indexByte l (Int.toNat c).toUInt8)):=by
 refine ⟨by kernel_rfl,fun w Z vs hZ hsz hargs=>?_⟩;obtain ⟨v0,v1,rfl⟩:=arr_2 hsz;have e0:=U1 V.E (hargs 0 _ v0 rfl rfl);have e1:=Ua V.E (hargs 1 _ v1 rfl rfl);subst e0; subst e1;refine (Tryz.strings_IndexByte ⟨l.toArray⟩ c w).mono fun e w' ⟨h1,h2⟩=>?_
 subst h2;exact ⟨_,Z,h1,Eng.Onto.refl _ Z,Va V.E⟩
theorem Mc (w:World) (k:Nat) (os:Array Obj):Below w.heap.size w (Go.Sort.grow (w.drewN k) os) :=
 ⟨rfl,rfl,rfl,by simp [Go.Sort.grow],fun b hb=>by simp [Go.Sort.grow,Array.getElem?_append,hb]⟩
theorem strconv_Itoa.ok (n:Int) (h1:(-9223372036854775808:Int)≤n) (h2:(n:Int)≤9223372036854775807):T1 V P 161 [.I n] (.cv (.str (Lib.itoa n))):=by
 refine ⟨by kernel_rfl,fun w Z vs hZ hsz hargs=>?_⟩;obtain ⟨v0,rfl⟩:=Rq hsz;have e0:=Ua V.E (hargs 0 _ v0 rfl rfl);subst e0;obtain ⟨hz,cs,t,fz,hh,hcs⟩:=hZ.glb (5,fun cs=>cs=(Lib.pow10Tab.map fun z=>Value.int .u64 z).toArray) (by simp [V])
 have htab:Lib.TabIs P w "internal/strconv.uint64pow10" .u64 Lib.pow10Tab:=by
  show w.var? P _=_;unfold World.var?
  rw [show P.globalNamed "internal/strconv.uint64pow10" = some 5 from by kernel_rfl,← hcs]
  simp [hh]
 refine (Tryz.strconv_Itoa n h1 h2 w htab).mono fun e w' ⟨h1,k,os,h2⟩=>?_
 subst h2;exact ⟨_,Z,h1,Hd (Mc _ _ _),.cv (.pure (.str _))⟩
theorem Gj.ok (l:List UInt8) (h1:l.length≤281474976710656) (h:Jz l=true):T1 V P 126 [.cv (.str l),.I 10,.I 64] (.tup [.I (Io l),.cv (.lit .nilIface)]):=by
 refine ⟨by kernel_rfl,fun w Z vs hZ hsz hargs=>?_⟩;obtain ⟨v0,v1,v2,rfl⟩:=Rt hsz;have e0:=U1 V.E (hargs 0 _ v0 rfl rfl);have e1:=Ua V.E (hargs 1 _ v1 rfl rfl);have e2:=Ua V.E (hargs 2 _ v2 rfl rfl);subst e0; subst e1; subst e2;have hs:(ByteArray.mk l.toArray).size=l.length:=by show l.toArray.size=_; simp
 rcases hp:Lib.parseIntB 64 l with v | _ | _
 ·have hv:Io l=v:=by unfold Io; rw [hp]
  rw [hv];refine (Tryz.strconv_ParseInt_10_at64_ok ⟨l.toArray⟩ (by rw [hs]; omega) v hp w).mono fun e w' ⟨h2,h3⟩=>?_
  refine ⟨_,Z,h2,?_,.tup rfl fun i c u hc hu=>?_⟩
  ·rcases h3 with rfl |⟨t,rfl⟩
   ·exact Eng.Onto.refl _ Z
   ·exact Hd ⟨rfl,rfl,rfl,by rw [Lib.bytesWorld_size]; omega,fun j hj=>Lib.bytesWorld_at_old w _ _ j hj⟩
  ·match i with
   | 0=>simp at hc hu; subst hc; subst hu; exact Va V.E
   | 1=>simp at hc hu; subst hc; subst hu; exact .cv (.pure (.lit rfl))
   | i+2=>simp at hc
 ·unfold Jz at h; rw [hp] at h; cases h
 ·unfold Jz at h; rw [hp] at h; cases h
theorem Gj.no (l:List UInt8) (h1:l.length≤281474976710656) (h:Jz l=false):T1 V P 126 [.cv (.str l),.I 10,.I 64] (.tup [.cv (.any),.cv (.ifc 122 false [.any])]):=by
 refine ⟨by kernel_rfl,fun w Z vs hZ hsz hargs=>?_⟩;obtain ⟨v0,v1,v2,rfl⟩:=Rt hsz;have e0:=U1 V.E (hargs 0 _ v0 rfl rfl);have e1:=Ua V.E (hargs 1 _ v1 rfl rfl);have e2:=Ua V.E (hargs 2 _ v2 rfl rfl);subst e0; subst e1; subst e2;have hs:(ByteArray.mk l.toArray).size=l.length:=by show l.toArray.size=_; simp
 have fin:∀ {w':World} {k:Int} {q:Nat},Below w.heap.size w w'→∃ v Z',Ending.returned (.tuple #[.int .i64 k,.iface 122 (.pointer (some ⟨q,0,none⟩))])=.returned v∧Eng.Onto w w' Z Z'∧RA V.E w' Z' (fun _=>none) (.tup [.cv (.any),.cv (.ifc 122 false [.any])]) v:=fun hb =>
  ⟨_,Z,rfl,Hd hb,.tup rfl fun i c u hc hu=>by
   match i with
   | 0=>simp at hc hu; subst hc; subst hu; exact .cv (.pure (.any rfl))
   | 1=>simp at hc hu; subst hc; subst hu; exact .cv (.ifc1 (.pure (.any rfl)) rfl)
   | i+2=>simp at hc⟩
 rcases hp:Lib.parseIntB 64 l with v | _ | _
 ·unfold Jz at h; rw [hp] at h; cases h
 ·obtain ⟨hz,cs,t,fz,hh,te,pe,rfl⟩:=hZ.glb (2,fun cs=>∃ te pe,cs = #[.iface te pe]) (by simp [V]);refine (Any.strconv_ParseInt_10_at64_syntax Tryz.laysC174 ⟨l.toArray⟩ (by rw [hs]; omega) hp (.iface te pe) w (by show w.cell? ⟨2,0,none⟩=_; simp [World.cell?,hh]) (.inr ⟨te,pe,rfl⟩)).mono fun e w' ⟨q,h2,_,_,h3⟩=>?_
  rw [h2];exact fin h3
 ·obtain ⟨hz,cs,t,fz,hh,te,pe,rfl⟩:=hZ.glb (3,fun cs=>∃ te pe,cs = #[.iface te pe]) (by simp [V]);refine (Tryz.strconv_ParseInt_10_at64_range ⟨l.toArray⟩ (by rw [hs]; omega) hp (.iface te pe) w (by simp [World.cell?,hh]) (.inr ⟨te,pe,rfl⟩)).mono fun e w' ⟨q,h2,_,_,h3⟩=>?_
  rw [h2];exact fin h3
theorem M7:∀ (b:Bool) (l:List UInt8),Lib.cntF b l≤l.length
 | _,[]=>by simp [Lib.cntF]
 | b,c :: l=>by
  have:=M7 (Lib.isSp c) l
  simp only [Lib.cntF,List.length_cons];split <;> omega
theorem Me (l:List UInt8):(Lib.fields l).length≤l.length+1:=by
 have h1:=Lib.fieldsGo_length l [];have h2:=M7 true l;unfold Lib.fields;rw [h1];simp;omega
theorem Jp.okF (l:List UInt8) (h1:l.length < 4294967281) (h2:(l.all fun b=>decide (b.toNat < 128))=true):Wm V P 118 [.cv (.str l)] Tag.Dk (Lib.fields l):=by
 refine ⟨by kernel_rfl,fun w Z vs hZ hsz hargs=>?_⟩;obtain ⟨v0,rfl⟩:=Rq hsz;have e0:=U1 V.E (hargs 0 _ v0 rfl rfl);subst e0;have hs:(ByteArray.mk l.toArray).size=l.length:=by show l.toArray.size=_; simp
 obtain ⟨hz,cs,t,fz,hh,hcs⟩:=hZ.glb (0,fun cs=>cs=(Lib.asciiSpaceTab.map fun z=>Value.int .u8 z).toArray) (by simp [V])
 have htab:Lib.TabIs P w "strings.asciiSpace" .u8 Lib.asciiSpaceTab:=by
  show w.var? P _=_;unfold World.var?
  rw [show P.globalNamed "strings.asciiSpace" = some 0 from by kernel_rfl,← hcs]
  simp [hh]
 have hle:(Lib.fields l).length≤l.length+1:=Me l;refine (Tryz.strings_Fields_laid ⟨l.toArray⟩ w (by rw [hs]; exact h1) (fun j b hb=>by
  have:=List.all_eq_true.1 h2 b (List.mem_of_getElem? hb)
  simpa using this) htab).mono fun e w' ⟨g1,g2⟩=>?_
 subst g2;refine ⟨_,Z,g1,Hd (Below.alloc (Below.refl _ _) (Nat.le_refl _) _),.inr ⟨w.heap.size,(Lib.fields l).length,Nat.le_refl _,by simp only [World.alloc,Array.size_push]; exact Nat.lt_succ_self _,fun hz=>absurd (hZ.lt _ hz) (Nat.lt_irrefl _),rfl,rfl,((Lib.fields l).map fun l=>Value.string ⟨l.toArray⟩).toArray,?_,Nat.le_refl _,by unfold maxLen; omega,?_,fun i x j c u hx hc hu=>?_⟩⟩
 ·exact heap_alloc_new w _
 ·show (List.map _ _).toArray.size=(Lib.fields l).length * 1;rw [List.size_toArray,List.length_map,Nat.mul_one]
 ·have hj:j=0:=by
   have:=(List.getElem?_eq_some_iff.1 hc).1
   have:j < 1:=this
   omega
  subst hj;rw [show i * V.E.sz Tag.Dk+0=i from Nat.mul_one i] at hu;simp only [List.getElem?_toArray,List.getElem?_map,Option.map_eq_some_iff] at hu;obtain ⟨y,hy,rfl⟩:=hu;have hy':y=x:=by rw [hx] at hy; exact (Option.some.inj hy).symm
  subst hy';have hc':c=.str y:=by have:some (CV.str y)=some c:=hc; exact (Option.some.inj this).symm
  subst hc';exact .str y
end Go.Proofs.YtifjagfmfkemmaaGreatDoor
