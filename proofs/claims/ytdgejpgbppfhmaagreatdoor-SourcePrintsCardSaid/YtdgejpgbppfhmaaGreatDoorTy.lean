import Derived.Test.YtdgejpgbppfhmaaGreatDoorEngD
import Derived.Test.YtdgejpgbppfhmaaGreatDoorProg
import Derived.Lib.Space
import Derived.Lib.ItoaNum
set_option linter.unusedVariables false
set_option maxHeartbeats 0
namespace Go.Proofs.YtdgejpgbppfhmaaGreatDoor
open Eng
structure Aa where
 Op:Int
 Name:List UInt8
 Int:Int
 Text:List UInt8
 Kids:List Aa
abbrev Ah:Aa:=(⟨(0:Int),([]:List UInt8),(0:Int),([]:List UInt8),([]:List Aa)⟩:Aa)
structure Ho where
 at_:Int
abbrev Po:Ho:=(⟨(0:Int)⟩:Ho)
structure Av where
 Kind:Int
 At:Int
 Text:List UInt8
 Int:Int
abbrev Et:Av:=(⟨(0:Int),(0:Int),([]:List UInt8),(0:Int)⟩:Av)
structure Ab where
 l:List Av
 i:Int
abbrev Pw:Ab:=(⟨([]:List Av),(0:Int)⟩:Ab)
structure Ad where
 l:List Av
 at_:Int
 bad:Bool
abbrev Me:Ad:=(⟨([]:List Av),(0:Int),false⟩:Ad)
structure A4 where
 src:List UInt8
 at_:Int
abbrev Px:A4:=(⟨([]:List UInt8),(0:Int)⟩:A4)
structure Hr where
 start:Int
 end_ : Int
abbrev Lc:Hr:=(⟨(0:Int),(0:Int)⟩:Hr)
structure Gv where
 Lo:Int
 Hi:Int
 Stride:Int
abbrev Ju:Gv:=(⟨(0:Int),(0:Int),(0:Int)⟩:Gv)
structure Gu where
 Lo:Int
 Hi:Int
 Stride:Int
abbrev J5:Gu:=(⟨(0:Int),(0:Int),(0:Int)⟩:Gu)
structure G7 where
 R16:List Gv
 R32:List Gu
 LatinOffset:Int
abbrev Mo:G7:=(⟨([]:List Gv),([]:List Gu),(0:Int)⟩:G7)
structure G6 where
 s:List UInt8
abbrev Nh:G6:=(⟨([]:List UInt8)⟩:G6)
inductive Tag where
 | Af
 | Ap
 | Dr
 | Gz
 | Cf
 | Hd
 | Ga
 | Gb
 deriving DecidableEq
@[reducible] def T:Tag→Type
 | .Af=>Aa
 | .Ap=>Av
 | .Dr=>List UInt8
 | .Gz=>Int
 | .Cf=>UInt8
 | .Hd=>Hr
 | .Ga=>Gv
 | .Gb=>Gu
def I5:T5 T Aa:=T5.iso (T5.pair (T5.int (T:=T) .i64) (T5.pair (T5.str (T:=T)) (T5.pair (T5.int (T:=T) .i64) (T5.pair (T5.str (T:=T)) (T5.sl (T:=T) Tag.Af))))) (fun (x:Aa)=>(x.Op,(x.Name,(x.Int,(x.Text,x.Kids))))) (fun y=>⟨y.1,y.2.1,y.2.2.1,y.2.2.2.1,y.2.2.2.2⟩) (fun _=>rfl)
abbrev Tl (x:Aa):List (CV T):=I5.k x
def Kb:T5 T Ho:=T5.iso (T5.int (T:=T) .i64) (fun (x:Ho)=>x.at_) (fun y=>⟨y⟩) (fun _=>rfl)
abbrev Pt (x:Ho):List (CV T):=Kb.k x
def Ko:T5 T Av:=T5.iso (T5.pair (T5.int (T:=T) .i64) (T5.pair (T5.int (T:=T) .i64) (T5.pair (T5.str (T:=T)) (T5.int (T:=T) .i64)))) (fun (x:Av)=>(x.Kind,(x.At,(x.Text,x.Int)))) (fun y=>⟨y.1,y.2.1,y.2.2.1,y.2.2.2⟩) (fun _=>rfl)
abbrev R7 (x:Av):List (CV T):=Ko.k x
def Ks:T5 T Ab:=T5.iso (T5.pair (T5.sl (T:=T) Tag.Ap) (T5.int (T:=T) .i64)) (fun (x:Ab)=>(x.l,x.i)) (fun y=>⟨y.1,y.2⟩) (fun _=>rfl)
abbrev Pz (x:Ab):List (CV T):=Ks.k x
def I4:T5 T Ad:=T5.iso (T5.pair (T5.sl (T:=T) Tag.Ap) (T5.pair (T5.int (T:=T) .i64) (T5.bool (T:=T)))) (fun (x:Ad)=>(x.l,(x.at_,x.bad))) (fun y=>⟨y.1,y.2.1,y.2.2⟩) (fun _=>rfl)
abbrev Lv (x:Ad):List (CV T):=I4.k x
def Ku:T5 T A4:=T5.iso (T5.pair (T5.str (T:=T)) (T5.int (T:=T) .i64)) (fun (x:A4)=>(x.src,x.at_)) (fun y=>⟨y.1,y.2⟩) (fun _=>rfl)
abbrev Py (x:A4):List (CV T):=Ku.k x
def Jc:T5 T Hr:=T5.iso (T5.pair (T5.int (T:=T) .i64) (T5.int (T:=T) .i64)) (fun (x:Hr)=>(x.start,x.end_)) (fun y=>⟨y.1,y.2⟩) (fun _=>rfl)
abbrev Rc (x:Hr):List (CV T):=Jc.k x
def Iu:T5 T Gv:=T5.iso (T5.pair (T5.int (T:=T) .u16) (T5.pair (T5.int (T:=T) .u16) (T5.int (T:=T) .u16))) (fun (x:Gv)=>(x.Lo,(x.Hi,x.Stride))) (fun y=>⟨y.1,y.2.1,y.2.2⟩) (fun _=>rfl)
abbrev Oo (x:Gv):List (CV T):=Iu.k x
def Iw:T5 T Gu:=T5.iso (T5.pair (T5.int (T:=T) .u32) (T5.pair (T5.int (T:=T) .u32) (T5.int (T:=T) .u32))) (fun (x:Gu)=>(x.Lo,(x.Hi,x.Stride))) (fun y=>⟨y.1,y.2.1,y.2.2⟩) (fun _=>rfl)
abbrev Pd (x:Gu):List (CV T):=Iw.k x
def Ja:T5 T G7:=T5.iso (T5.pair (T5.sl (T:=T) Tag.Ga) (T5.pair (T5.sl (T:=T) Tag.Gb) (T5.int (T:=T) .i64))) (fun (x:G7)=>(x.R16,(x.R32,x.LatinOffset))) (fun y=>⟨y.1,y.2.1,y.2.2⟩) (fun _=>rfl)
abbrev Na (x:G7):List (CV T):=Ja.k x
def Je:T5 T G6:=T5.iso (T5.str (T:=T)) (fun (x:G6)=>x.s) (fun y=>⟨y⟩) (fun _=>rfl)
abbrev Mj (x:G6):List (CV T):=Je.k x
abbrev Ag (x:Aa):List (CV T):=[.I x.Op,.str x.Name,.I x.Int,.str x.Text,.ro Tag.Af x.Kids]
abbrev Pq (x:Ho):List (CV T):=[.I x.at_]
abbrev E6 (x:Av):List (CV T):=[.I x.Kind,.I x.At,.str x.Text,.I x.Int]
abbrev Ae (x:Ab):List (CV T):=[.ro Tag.Ap x.l,.I x.i]
abbrev Ac (x:Ad):List (CV T):=[.ro Tag.Ap x.l,.I x.at_,.B x.bad]
abbrev Be (x:A4):List (CV T):=[.str x.src,.I x.at_]
abbrev Qw (x:Hr):List (CV T):=[.I x.start,.I x.end_]
abbrev Ox (x:Gv):List (CV T):=[.lit (.int .u16 x.Lo),.lit (.int .u16 x.Hi),.lit (.int .u16 x.Stride)]
abbrev Oj (x:Gu):List (CV T):=[.lit (.int .u32 x.Lo),.lit (.int .u32 x.Hi),.lit (.int .u32 x.Stride)]
abbrev Ml (x:G7):List (CV T):=[.ro Tag.Ga x.R16,.ro Tag.Gb x.R32,.I x.LatinOffset]
abbrev Mw (x:G6):List (CV T):=[.str x.s]
def cod:(t:Tag)→T5 T (T t)
 | .Af=>I5
 | .Ap=>Ko
 | .Dr=>(T5.str (T:=T))
 | .Gz=>(T5.int (T:=T) .i64)
 | .Cf=>(T5.byte (T:=T))
 | .Hd=>Jc
 | .Ga=>Iu
 | .Gb=>Iw
def dflt:(t:Tag)→T t
 | .Af=>Ah
 | .Ap=>Et
 | .Dr=>([]:List UInt8)
 | .Gz=>(0:Int)
 | .Cf=>(0:UInt8)
 | .Hd=>Lc
 | .Ga=>Ju
 | .Gb=>J5
def E:Uv T where
 dec:=inferInstance
 sz t:=(cod t).sz
 szpos:=by intro t; cases t <;> decide
 isAgg:=fun | .Af=>true | .Ap=>true | .Dr=>false | .Gz=>false | .Cf=>false | .Hd=>true | .Ga=>true | .Gb=>true
 ty:=fun | .Af=>24 | .Ap=>64 | .Dr=>9 | .Gz=>3 | .Cf=>5 | .Hd=>149 | .Ga=>166 | .Gb=>169
 k t x:=(cod t).k x
 klen t x:=(cod t).klen x
 un t cs:=(cod t).un cs
 dflt:=dflt
 ofTy:=fun | 24=>some .Af | 64=>some .Ap | 9=>some .Dr | 3=>some .Gz | 5=>some .Cf | 149=>some .Hd | 166=>some .Ga | 169=>some .Gb | _=>none
def V:V6 T:={ E:=E,isB:=fun | .Cf=>true | _=>false,toB:=fun | .Cf=>fun b=>b | _=>fun _=>0,ofB:=fun | .Cf=>fun b=>b | t=>fun _=>dflt t,glb:=[(0,fun cs=>cs=(Lib.asciiSpaceTab.map fun z=>Value.int .u8 z).toArray),(1,fun cs=>cs=(Lib.pow10Tab.map fun z=>Value.int .u64 z).toArray),(6,fun cs=>∃ te pe,cs = #[.iface te pe]),(7,fun cs=>∃ te pe,cs = #[.iface te pe])],typd:=fun t=>Nat.beq t 79 }
theorem Mk:∀ b,V.E.k Tag.Cf (V.ofB Tag.Cf b)=[.lit (.int .u8 b.toNat)]:=fun _=>rfl
theorem Pl:∀ x,∀ c∈V.E.k Tag.Ap x,c.flat=true:=by
 intro x c hc;have hc:c∈([.I x.Kind,.I x.At,.str x.Text,.I x.Int]:List (CV T)):=hc;simp only [List.mem_cons,List.not_mem_nil,or_false] at hc;rcases hc with rfl | rfl | rfl | rfl <;> rfl
theorem Rd:∀ x,∀ c∈V.E.k Tag.Dr x,c.flat=true:=by
 intro x c hc;have hc:c∈([.str x]:List (CV T)):=hc;simp only [List.mem_cons,List.not_mem_nil,or_false] at hc;rcases hc with rfl <;> rfl
theorem Ta:∀ x,∀ c∈V.E.k Tag.Gz x,c.flat=true:=by
 intro x c hc;have hc:c∈([.I x]:List (CV T)):=hc;simp only [List.mem_cons,List.not_mem_nil,or_false] at hc;rcases hc with rfl <;> rfl
theorem Rw:∀ x,∀ c∈V.E.k Tag.Cf x,c.flat=true:=by
 intro x c hc;have hc:c∈([.lit (.int .u8 (x.toNat:Int))]:List (CV T)):=hc;simp only [List.mem_cons,List.not_mem_nil,or_false] at hc;rcases hc with rfl <;> rfl
theorem Nl:∀ x,∀ c∈V.E.k Tag.Hd x,c.flat=true:=by
 intro x c hc;have hc:c∈([.I x.start,.I x.end_]:List (CV T)):=hc;simp only [List.mem_cons,List.not_mem_nil,or_false] at hc;rcases hc with rfl | rfl <;> rfl
theorem L8:∀ x,∀ c∈V.E.k Tag.Ga x,c.flat=true:=by
 intro x c hc;have hc:c∈([.lit (.int .u16 x.Lo),.lit (.int .u16 x.Hi),.lit (.int .u16 x.Stride)]:List (CV T)):=hc;simp only [List.mem_cons,List.not_mem_nil,or_false] at hc;rcases hc with rfl | rfl | rfl <;> rfl
theorem L6:∀ x,∀ c∈V.E.k Tag.Gb x,c.flat=true:=by
 intro x c hc;have hc:c∈([.lit (.int .u32 x.Lo),.lit (.int .u32 x.Hi),.lit (.int .u32 x.Stride)]:List (CV T)):=hc;simp only [List.mem_cons,List.not_mem_nil,or_false] at hc;rcases hc with rfl | rfl | rfl <;> rfl
theorem L:V.E.Law V.isB V.toB where
 un t _ _ _ h hp j c hc:=by
  obtain ⟨d,h1,h2⟩:=(cod t).un_ok h hp j c hc;exact ⟨d,h1,fun w Z ρ v h=>h2 _ w Z ρ v h⟩
 byte t x h:=by cases t <;> first | rfl | cases h
noncomputable abbrev P:Program:=Tryz.prog
theorem mixed:P.follows .mixedOrders=true:=by kernel_rfl
end Go.Proofs.YtdgejpgbppfhmaaGreatDoor
