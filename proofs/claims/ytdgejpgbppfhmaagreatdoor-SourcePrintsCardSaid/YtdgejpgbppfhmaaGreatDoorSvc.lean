import Derived.Test.YtdgejpgbppfhmaaGreatDoorTy
import Derived.Test.YtdgejpgbppfhmaaGreatDoorShf
import Derived.Lib.Bytealg
import Derived.Lib.ItoaNum
import Derived.Lib.Join
import Derived.Lib.Fields
import Derived.Lib.ParseIntB
set_option linter.unusedVariables false
set_option linter.unusedSimpArgs false
set_option maxHeartbeats 2000000
namespace Go.Proofs.YtdgejpgbppfhmaaGreatDoor
open Eng Go.RowKit
def Pv (l:List UInt8):Bool:=match Lib.parseIntB 64 l with | .ok _=>true | _=>false
def Lg (l:List UInt8):Int:=match Lib.parseIntB 64 l with | .ok v=>v | _=>0
theorem My {vs:Array Value} (h:vs.size=1):∃ v,vs = #[v]:=by
 match vs,h with
 |⟨[v]⟩,_=>exact ⟨v,rfl⟩
theorem Qs {vs:Array Value} (h:vs.size=2):∃ v u,vs = #[v,u]:=by
 match vs,h with
 |⟨[v,u]⟩,_=>exact ⟨v,u,rfl⟩
theorem R8 {vs:Array Value} (h:vs.size=3):∃ v u x,vs = #[v,u,x]:=by
 match vs,h with
 |⟨[v,u,x]⟩,_=>exact ⟨v,u,x,rfl⟩
theorem Is {w w':World} {Z:Nat→Prop} (h:Below w.heap.size w w'):Eng.Onto w w' Z Z:=⟨h,fun _ h=>h,fun _ h=>.inl h⟩
theorem strings_IndexByte.ok (l:List UInt8) (c:Int):Tz V P 205 [.cv (.str l),.cv (.lit (.int .u8 c))] (.I (Lib.indexByte l (Int.toNat c).toUInt8)):=by
 refine ⟨by kernel_rfl,fun w Z vs hZ hsz hargs=>?_⟩;obtain ⟨v0,v1,rfl⟩:=Qs hsz;have e0:=Uu V.E (hargs 0 _ v0 rfl rfl);have e1:=Ua V.E (hargs 1 _ v1 rfl rfl);subst e0; subst e1;refine (Tryz.strings_IndexByte ⟨l.toArray⟩ c w).mono fun e w' ⟨h1,h2⟩=>?_
 subst h2;exact ⟨_,Z,h1,Eng.Onto.refl _ Z,Vb V.E⟩
theorem N3 (w:World) (k:Nat) (os:Array Obj):Below w.heap.size w (Go.Sort.grow (w.drewN k) os) :=
 ⟨rfl,rfl,rfl,by simp [Go.Sort.grow],fun b hb=>by simp [Go.Sort.grow,Array.getElem?_append,hb]⟩
theorem strconv_Itoa.ok (n:Int) (h1:(-9223372036854775808:Int)≤n) (h2:(n:Int)≤9223372036854775807):Tz V P 47 [.I n] (.cv (.str (Lib.itoa n))):=by
 refine ⟨by kernel_rfl,fun w Z vs hZ hsz hargs=>?_⟩;obtain ⟨v0,rfl⟩:=My hsz;have e0:=Ua V.E (hargs 0 _ v0 rfl rfl);subst e0;obtain ⟨hz,cs,t,fz,hh,hcs⟩:=hZ.glb (1,fun cs=>cs=(Lib.pow10Tab.map fun z=>Value.int .u64 z).toArray) (by simp [V])
 have htab:Lib.TabIs P w "internal/strconv.uint64pow10" .u64 Lib.pow10Tab:=by
  show w.var? P _=_;unfold World.var?
  rw [show P.globalNamed "internal/strconv.uint64pow10" = some 1 from by kernel_rfl,← hcs]
  simp [hh]
 refine (Tryz.strconv_Itoa n h1 h2 w htab).mono fun e w' ⟨h1,k,os,h2⟩=>?_
 subst h2;exact ⟨_,Z,h1,Is (N3 _ _ _),.cv (.pure (.str _))⟩
theorem Ie.ok (l:List UInt8) (h1:l.length≤281474976710656) (h:Pv l=true):Tz V P 171 [.cv (.str l),.I 10,.I 64] (.tup [.I (Lg l),.cv (.lit .nilIface)]):=by
 refine ⟨by kernel_rfl,fun w Z vs hZ hsz hargs=>?_⟩;obtain ⟨v0,v1,v2,rfl⟩:=R8 hsz;have e0:=Uu V.E (hargs 0 _ v0 rfl rfl);have e1:=Ua V.E (hargs 1 _ v1 rfl rfl);have e2:=Ua V.E (hargs 2 _ v2 rfl rfl);subst e0; subst e1; subst e2;have hs:(ByteArray.mk l.toArray).size=l.length:=by show l.toArray.size=_; simp
 rcases hp:Lib.parseIntB 64 l with v | _ | _
 ·have hv:Lg l=v:=by unfold Lg; rw [hp]
  rw [hv];refine (Tryz.strconv_ParseInt_10_at64_ok ⟨l.toArray⟩ (by rw [hs]; omega) v hp w).mono fun e w' ⟨h2,h3⟩=>?_
  refine ⟨_,Z,h2,?_,.tup rfl fun i c u hc hu=>?_⟩
  ·rcases h3 with rfl |⟨t,rfl⟩
   ·exact Eng.Onto.refl _ Z
   ·exact Is ⟨rfl,rfl,rfl,by rw [Lib.bytesWorld_size]; omega,fun j hj=>Lib.bytesWorld_at_old w _ _ j hj⟩
  ·match i with
   | 0=>simp at hc hu; subst hc; subst hu; exact Vb V.E
   | 1=>simp at hc hu; subst hc; subst hu; exact .cv (.pure (.lit rfl))
   | i+2=>simp at hc
 ·unfold Pv at h; rw [hp] at h; cases h
 ·unfold Pv at h; rw [hp] at h; cases h
theorem Ie.no (l:List UInt8) (h1:l.length≤281474976710656) (h:Pv l=false):Tz V P 171 [.cv (.str l),.I 10,.I 64] (.tup [.cv (.any),.cv (.ifc 156 false [.any])]):=by
 refine ⟨by kernel_rfl,fun w Z vs hZ hsz hargs=>?_⟩;obtain ⟨v0,v1,v2,rfl⟩:=R8 hsz;have e0:=Uu V.E (hargs 0 _ v0 rfl rfl);have e1:=Ua V.E (hargs 1 _ v1 rfl rfl);have e2:=Ua V.E (hargs 2 _ v2 rfl rfl);subst e0; subst e1; subst e2;have hs:(ByteArray.mk l.toArray).size=l.length:=by show l.toArray.size=_; simp
 have fin:∀ {w':World} {k:Int} {q:Nat},Below w.heap.size w w'→∃ v Z',Ending.returned (.tuple #[.int .i64 k,.iface 156 (.pointer (some ⟨q,0,none⟩))])=.returned v∧Eng.Onto w w' Z Z'∧RA V.E w' Z' (fun _=>none) (.tup [.cv (.any),.cv (.ifc 156 false [.any])]) v:=fun hb =>
  ⟨_,Z,rfl,Is hb,.tup rfl fun i c u hc hu=>by
   match i with
   | 0=>simp at hc hu; subst hc; subst hu; exact .cv (.pure (.any rfl))
   | 1=>simp at hc hu; subst hc; subst hu; exact .cv (.ifc1 (.pure (.any rfl)) rfl)
   | i+2=>simp at hc⟩
 rcases hp:Lib.parseIntB 64 l with v | _ | _
 ·unfold Pv at h; rw [hp] at h; cases h
 ·obtain ⟨hz,cs,t,fz,hh,te,pe,rfl⟩:=hZ.glb (6,fun cs=>∃ te pe,cs = #[.iface te pe]) (by simp [V]);refine (Any.strconv_ParseInt_10_at64_syntax Tryz.laysC174 ⟨l.toArray⟩ (by rw [hs]; omega) hp (.iface te pe) w (by show w.cell? ⟨6,0,none⟩=_; simp [World.cell?,hh]) (.inr ⟨te,pe,rfl⟩)).mono fun e w' ⟨q,h2,_,_,h3⟩=>?_
  rw [h2];exact fin h3
 ·obtain ⟨hz,cs,t,fz,hh,te,pe,rfl⟩:=hZ.glb (7,fun cs=>∃ te pe,cs = #[.iface te pe]) (by simp [V]);refine (Tryz.strconv_ParseInt_10_at64_range ⟨l.toArray⟩ (by rw [hs]; omega) hp (.iface te pe) w (by simp [World.cell?,hh]) (.inr ⟨te,pe,rfl⟩)).mono fun e w' ⟨q,h2,_,_,h3⟩=>?_
  rw [h2];exact fin h3
theorem strings_Join.ok (xs:List (List UInt8)) (sep:List UInt8) (h1:xs.length≤140737488355328) (h2:(Lib.join xs sep).length≤140737488355328):Tz V P 79 [.cv (.ro Tag.Dr xs),.cv (.str sep)] (.cv (.str (Lib.join xs sep))):=by
 refine ⟨by kernel_rfl,fun w Z vs hZ hsz hargs=>?_⟩;obtain ⟨v0,v1,rfl⟩:=Qs hsz;have e1:=Uu V.E (hargs 1 _ v1 rfl rfl);subst e1;have h0:=hargs 0 _ v0 rfl rfl;cases h0 with | cv h0 =>
 cases h0 with | pure h0 =>
 cases h0 with
 | ronil _ A cap =>
  refine (Tryz.strings_Join_none A cap ⟨sep.toArray⟩ w).mono fun e w' ⟨g1,g2⟩=>?_
  subst g2;exact ⟨_,Z,g1,Eng.Onto.refl _ Z,.cv (.pure (.str []))⟩
 | ro _ _ a cap u hz hcap hcell hrel =>
  have hu:∀ (i:Nat) x,xs[i]? = some x→w.cell? (a.add i)=some (.string ⟨x.toArray⟩):=fun i x hx=>by
   have e:=hcell i x 0 (.str x) hx rfl;have r:=hrel i x 0 (.str x) hx rfl;rw [show i * V.E.sz Tag.Dr+0=i from Nat.mul_one i] at e;generalize u i 0=z at e r;cases r with
   | str=>exact e
  by_cases hn:xs=[]
  ·subst hn;refine (Tryz.strings_Join_none (some a) cap ⟨sep.toArray⟩ w).mono fun e w' ⟨g1,g2⟩=>?_
   subst g2;exact ⟨_,Z,g1,Eng.Onto.refl _ Z,.cv (.pure (.str []))⟩
  ·have hpos:0 < xs.length:=List.length_pos_iff.2 hn;have hc0:=hu 0 xs[0] (by simp [hpos]);have hsp:a.spot=none:=by
    simp only [Addr.add,if_pos] at hc0;cases hs:a.spot with
    | none=>rfl
    | some q=>unfold World.cell? at hc0; simp [hs] at hc0; split at hc0 <;> cases hc0
   obtain ⟨bk,o,sp⟩:=a;simp only at hsp;subst hsp;have e1:(xs.map fun x=>(⟨x.toArray⟩:ByteArray)).map (·.data.toList)=xs:=by simp [Function.comp_def]
   have hJ:=Tryz.strings_Join bk o cap (xs.map fun x=>(⟨x.toArray⟩:ByteArray)) ⟨sep.toArray⟩ w (fun j x hx=>by
    simp only [List.getElem?_map,Option.map_eq_some_iff] at hx;obtain ⟨y,hy,rfl⟩:=hx
    have:=hu j y hy
    rwa [Uo] at this) (hZ.lt _ hz) (by simpa using h1) (by simpa using hcap) (by rw [e1]; exact h2)
   rw [e1,List.length_map] at hJ;refine hJ.mono fun e w' ⟨g1,g2⟩=>?_
   exact ⟨_,Z,g1,Is g2,.cv (.pure (.str _))⟩
theorem Ov:∀ (b:Bool) (l:List UInt8),Lib.cntF b l≤l.length
 | _,[]=>by simp [Lib.cntF]
 | b,c :: l=>by
  have:=Ov (Lib.isSp c) l
  simp only [Lib.cntF,List.length_cons];split <;> omega
theorem Nz (l:List UInt8):(Lib.fields l).length≤l.length+1:=by
 have h1:=Lib.fieldsGo_length l [];have h2:=Ov true l;unfold Lib.fields;rw [h1];simp;omega
theorem La.okF (l:List UInt8) (h1:l.length < 4294967281) (h2:(l.all fun b=>decide (b.toNat < 128))=true):Yz V P 149 [.cv (.str l)] Tag.Dr (Lib.fields l):=by
 refine ⟨by kernel_rfl,fun w Z vs hZ hsz hargs=>?_⟩;obtain ⟨v0,rfl⟩:=My hsz;have e0:=Uu V.E (hargs 0 _ v0 rfl rfl);subst e0;have hs:(ByteArray.mk l.toArray).size=l.length:=by show l.toArray.size=_; simp
 obtain ⟨hz,cs,t,fz,hh,hcs⟩:=hZ.glb (0,fun cs=>cs=(Lib.asciiSpaceTab.map fun z=>Value.int .u8 z).toArray) (by simp [V])
 have htab:Lib.TabIs P w "strings.asciiSpace" .u8 Lib.asciiSpaceTab:=by
  show w.var? P _=_;unfold World.var?
  rw [show P.globalNamed "strings.asciiSpace" = some 0 from by kernel_rfl,← hcs]
  simp [hh]
 have hle:(Lib.fields l).length≤l.length+1:=Nz l;refine (Tryz.strings_Fields_laid ⟨l.toArray⟩ w (by rw [hs]; exact h1) (fun j b hb=>by
  have:=List.all_eq_true.1 h2 b (List.mem_of_getElem? hb)
  simpa using this) htab).mono fun e w' ⟨g1,g2⟩=>?_
 subst g2;refine ⟨_,Z,g1,Is (Below.alloc (Below.refl _ _) (Nat.le_refl _) _),.inr ⟨w.heap.size,(Lib.fields l).length,Nat.le_refl _,by simp only [World.alloc,Array.size_push]; exact Nat.lt_succ_self _,fun hz=>absurd (hZ.lt _ hz) (Nat.lt_irrefl _),rfl,rfl,((Lib.fields l).map fun l=>Value.string ⟨l.toArray⟩).toArray,?_,Nat.le_refl _,by unfold maxLen; omega,?_,fun i x j c u hx hc hu=>?_⟩⟩
 ·exact heap_alloc_new w _
 ·show (List.map _ _).toArray.size=(Lib.fields l).length * 1;rw [List.size_toArray,List.length_map,Nat.mul_one]
 ·have hj:j=0:=by
   have:=(List.getElem?_eq_some_iff.1 hc).1
   have:j < 1:=this
   omega
  subst hj;rw [show i * V.E.sz Tag.Dr+0=i from Nat.mul_one i] at hu;simp only [List.getElem?_toArray,List.getElem?_map,Option.map_eq_some_iff] at hu;obtain ⟨y,hy,rfl⟩:=hu;have hy':y=x:=by rw [hx] at hy; exact (Option.some.inj hy).symm
  subst hy';have hc':c=.str y:=by have:some (CV.str y)=some c:=hc; exact (Option.some.inj this).symm
  subst hc';exact .str y
theorem H0.okE {c1:CV T} (R:List (Nat×T9 T)) (hR:Eng.look 0 R=none) (fx:List Nat):T1 V P 124 [.P 0] ((0,.raw [.ptr 0 0,c1]) :: R) fx (.tup []) ((0,.raw [.ptr 0 0,c1]) :: R):=by
 refine ⟨by kernel_rfl,fun w Z ρ vs hZ hsz hargs hH=>?_⟩;obtain ⟨v0,rfl⟩:=My hsz;have h0:=hargs 0 _ v0 rfl rfl;cases h0 with | cv h0 =>
 cases h0 with
 | pure h0=>cases h0
 | @ptr _ _ b n hr =>
  have hb:=hH.blk 0 (.raw [.ptr 0 0,c1]) rfl;rw [hr] at hb;obtain ⟨arr,e,ha,hs,hrel⟩:=hb;have hlt:0 < arr.size:=by rw [hs]; simp
  have hp:arr[0]=.pointer (some ⟨b,0,none⟩):=by
   have:=hrel 0 (.ptr 0 0) arr[0] rfl (by simp [hlt])
   generalize arr[0]=z at this ⊢;cases this with
   | pure h=>cases h
   | ptr h=>rw [hr] at h; cases h; rfl
  refine (Any.Builder_copyCheck_used { Tryz.lays156 with } Tryz.Builder_Extra_156.toX72 b w (by simp [World.cell?,ha,hlt,hp])).mono fun e w' ⟨h1,h2⟩=>?_
  subst h2;refine ⟨_,Z,ρ,h1,⟨⟨rfl,rfl,rfl,Nat.le_refl _,fun _ _ _=>rfl,fun _ h=>h,fun _ h=>.inl h⟩,fun _ _=>rfl,hH,fun id blk b c hl hr=>.inr ⟨blk,c,hl,hr⟩⟩,.tup rfl fun i c u hc=>by simp at hc⟩
theorem H0.okZ:T1 V P 124 [.P 0] [(0,.zr 79 [.pointer none,.slice none 0 0])] [0] (.tup []) [(0,.raw [.P 0,.N])]:=by
 refine ⟨by kernel_rfl,fun w Z ρ vs hZ hsz hargs hH=>?_⟩;obtain ⟨v0,rfl⟩:=My hsz;have h0:=hargs 0 _ v0 rfl rfl;cases h0 with | cv h0 =>
 cases h0 with
 | pure h0=>cases h0
 | @ptr _ _ b n hr =>
  have hb:=hH.blk 0 (.zr 79 [.pointer none,.slice none 0 0]) rfl;rw [hr] at hb;have hheap:w.heap[b]? = some (.cells #[.pointer none,.slice none 0 0] 79 (0,0)):=hb;obtain ⟨g1,g2⟩:=hH.own 0 _ b n rfl hr;refine (Any.Builder_copyCheck_fresh { Tryz.lays156 with } Tryz.Builder_Extra_156.toX72 b w (by simp [World.cell?,hheap]) (by simp [World.shape?,hheap]; rfl) (by simp [World.frozen?,hheap])).mono fun e w' ⟨h1,h2⟩=>?_
  subst h2;have hset:(w.setCell ⟨b,0,none⟩ (.pointer (some ⟨b,0,none⟩))).heap[b]? = some (.cells #[.pointer (some ⟨b,0,none⟩),.slice none 0 0] 79 (0,0)):=by
   unfold World.setCell;show (w.heap.modify b _)[b]? = _;rw [Array.getElem?_modify,if_pos rfl,hheap];rfl
  have hoth:∀ k,k≠b→(w.setCell ⟨b,0,none⟩ (.pointer (some ⟨b,0,none⟩))).heap[k]? = w.heap[k]?:=fun k hk=>by
   simp [World.setCell,Array.getElem?_modify,Ne.symm hk]
  have hsize:(w.setCell ⟨b,0,none⟩ (.pointer (some ⟨b,0,none⟩))).heap.size=w.heap.size:=by simp [World.setCell]
  have hone:∀ id blk,Eng.look id ([(0,.raw [.P 0,.N])]:List (Nat×T9 T))=some blk→id=0∧blk=.raw [.P 0,.N]:=fun id blk hl=>by
   rw [T6] at hl;by_cases hi:id=0
   ·rw [if_pos hi] at hl; cases hl; exact ⟨hi,rfl⟩
   ·rw [if_neg hi] at hl; cases hl
  refine ⟨_,Z,ρ,h1,⟨⟨rfl,rfl,rfl,by rw [hsize]; exact Nat.le_refl _,fun k hk hn=>hoth k fun e=>hn ⟨0,_,n,rfl,e ▸ hr⟩,fun _ h=>h,fun _ h=>.inl h⟩,fun _ _=>rfl,⟨fun id blk b' c hl hr'=>?_,fun id id' blk blk' b' c c' hl hl' _ _=>?_,fun id blk hl=>?_⟩,fun id blk b' c hl hr'=>?_⟩,.tup rfl fun i c u hc=>by simp at hc⟩
  ·obtain ⟨rfl,rfl⟩:=hone id blk hl;rw [hr] at hr'; cases hr';exact ⟨by rw [hsize]; exact g1,g2⟩
  ·rw [(hone id blk hl).1,(hone id' blk' hl').1]
  ·obtain ⟨rfl,rfl⟩:=hone id blk hl;rw [hr];refine ⟨_,_,hset,rfl,fun i c u hc hu=>?_⟩
   match i with
   | 0=>simp at hc hu; subst hc; subst hu; exact .ptr hr
   | 1=>simp at hc hu; subst hc; subst hu; exact .pure (.lit rfl)
   | i+2=>simp at hc
  ·obtain ⟨rfl,rfl⟩:=hone id blk hl;exact .inr ⟨_,c,rfl,hr'⟩
theorem Kz (b g cap:Nat) (p:Value) (cur:Array Value) (l:List UInt8) (w:World) (h0:l≠[]) (hbk:w.heap[b]? = some (.cells #[p,.slice (some ⟨g,0,none⟩) l.length cap] 79 (0,0))∨∃ T,w.heap[b]? = some (.cells #[p,.slice (some ⟨g,0,none⟩) l.length cap] T (0,0)))
  (hg:w.heap[g]? = some (.cells cur 5 (0,0))) (hnc:l.length≤cap) (hcm:cap≤maxLen) (hcs:cur.size=cap) (htake:∀ (j:Nat) x,l[j]? = some x→cur[j]? = some (.int .u8 x.toNat)) :
  Calls P 94 #[.pointer (some ⟨b,0,none⟩)] w fun e w'=>e=.returned (.string ⟨l.toArray⟩)∧w'=w.drew.freeze ⟨g,0,none⟩ l.length:=by
 have hl0:l.length≠0:=by simpa using h0
 have c1:w.drew.cell? ⟨b,1,none⟩=some (.slice (some ⟨g,0,none⟩) l.length cap):=by
  rcases hbk with h |⟨T,h⟩
  ·have:w.drew.heap[b]? = _:=h
   simp [World.cell?,this]
  ·have:w.drew.heap[b]? = _:=h
   simp [World.cell?,this]
 have hSD:(Builtin.unsafeSliceData_ #[77] 107 #[.slice (some ⟨g,0,none⟩) l.length cap]).run P w.drew=.ok (.pointer (some ⟨g,0,none⟩)) w.drew :=
  Lib.run_unsafeSliceData_row _ _ _ _ _ _ (by omega)
 have hUS:(Builtin.unsafeString_ #[107,3] 9 #[.pointer (some ⟨g,0,none⟩),.int .i64 l.length]).run P w.drew=.ok (.string ⟨l.toArray⟩) (w.drew.freeze ⟨g,0,none⟩ l.length):=by
  refine Lib.run_unsafeString_row w.drew 107 3 9 5 Tryz.underlying107 Tryz.Builder_Extra_169.cellsByte g cur.size (by have hg':w.drew.heap[g]? = some (.cells cur 5 (0,0)):=hg; simp [World.shape?,hg']) l h0 (by omega) (by unfold maxLen at hcm; omega) ?_;intro j x hx;have hg':w.drew.heap[g]? = some (.cells cur 5 (0,0)):=hg;rw [Uo,Nat.zero_add];simp [World.cell?,hg',htake j x hx]
 have L:=Tryz.lays169;have mixed:=L.mixed;have u37:=run_underlying (P:=P) Tryz.underlying77
 go_enter Tryz.func94,Tryz.ntmps94
 go_wp2
 go_region_o
 all_goals (go_wp2; go_ret; exact ⟨rfl,rfl⟩)
theorem Builder_String.okE {l:List UInt8} (h:0 < l.length):T1 V P 94 [.P 0] [(0,.raw [.ptr 0 0,.own Tag.Cf 1]),(1,.lst Tag.Cf l)] [] (.cv (.str l)) []:=by
 refine ⟨by kernel_rfl,fun w Z ρ vs hZ hsz hargs hH=>?_⟩;obtain ⟨v0,rfl⟩:=My hsz;have h0:=hargs 0 _ v0 rfl rfl;cases h0 with | cv h0 =>
 cases h0 with
 | pure h0=>cases h0
 | @ptr _ _ b n hr =>
  have hb:=hH.blk 0 (.raw [.ptr 0 0,.own Tag.Cf 1]) rfl;rw [hr] at hb;obtain ⟨arr,e,ha,hs,hrel⟩:=hb;obtain ⟨x0,x1,rfl⟩:=Qs hs;have h2:=hrel 1 (.own Tag.Cf 1) x1 rfl rfl;have hb1:=hH.blk 1 (.lst Tag.Cf l) rfl;cases h2 with
  | pure h2=>cases h2
  | ownv hr1 =>
   rw [hr1] at hb1
   have:l=[]:=hb1
   subst this;cases h
  | @own _ _ len g cap hr1 =>
   rw [hr1] at hb1;obtain ⟨rfl,cur,k1,k2,k3,k4,k5⟩:=hb1;have k4':cur.size=cap:=k4.trans (Nat.mul_one cap);have htake:∀ (j:Nat) x,l[j]? = some x→cur[j]? = some (.int .u8 x.toNat):=fun j x hx=>by
    have hj:j < l.length:=(List.getElem?_eq_some_iff.1 hx).1;have hj2:j < cur.size:=by omega
    have r:=k5 j x 0 (.lit (.int .u8 x.toNat)) cur[j] hx rfl (by rw [show j * V.E.sz Tag.Cf+0=j from Nat.mul_one j]; simp [hj2]);have r1:=Ua V.E (.cv (.pure (ρ:=ρ) r));rw [Array.getElem?_eq_getElem hj2,r1]
   refine (Kz b g cap x0 cur l w (by intro e; subst e; cases h) (.inr ⟨e,ha⟩) k1 k2 k3 k4' htake).mono fun e' w' ⟨h1,h2⟩=>?_
   subst h2;have hf:∀ k,k≠g→(w.drew.freeze ⟨g,0,none⟩ l.length).heap[k]? = w.heap[k]?:=fun k hk=>by
    unfold World.freeze;split
    ·rfl
    ·show (w.heap.modify g _)[k]? = _;rw [Array.getElem?_modify,if_neg (Ne.symm hk)]
   have hz2:(w.drew.freeze ⟨g,0,none⟩ l.length).heap.size=w.heap.size:=by
    unfold World.freeze;split
    ·rfl
    ·show (w.heap.modify g _).size=_;simp
   refine ⟨_,Z,ρ,h1,⟨⟨?_,?_,?_,by rw [hz2]; exact Nat.le_refl _,fun k hk hn=>hf k fun e=>hn ⟨1,.lst Tag.Cf l,_,rfl,e ▸ hr1⟩,fun _ h=>h,fun _ h=>.inl h⟩,fun _ hi=>(by cases hi),⟨fun id blk b' c hl=>(by cases hl),fun id id' blk blk' b' c c' hl=>(by cases hl),fun id blk hl=>(by cases hl)⟩,fun id blk b' c hl=>(by cases hl)⟩,.cv (.pure (.str l))⟩
   all_goals (unfold World.freeze; split <;> rfl)
end Go.Proofs.YtdgejpgbppfhmaaGreatDoor
