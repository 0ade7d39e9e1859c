import Derived.Test.YtifjagfmfkemmaaGreatDoorEngD
import Derived.Test.YtifjagfmfkemmaaGreatDoorProg
import Derived.Lib.Space
import Derived.Lib.ItoaNum
set_option linter.unusedVariables false
set_option maxHeartbeats 0
namespace Go.Proofs.YtifjagfmfkemmaaGreatDoor
open Eng
structure Aa where
 Op:Int
 Name:List UInt8
 Int:Int
 Text:List UInt8
 Kids:List Aa
abbrev Ca:Aa:=(⟨(0:Int),([]:List UInt8),(0:Int),([]:List UInt8),([]:List Aa)⟩:Aa)
structure Ft where
 at_:Int
abbrev L2:Ft:=(⟨(0:Int)⟩:Ft)
structure Ap where
 Kind:Int
 At:Int
 Text:List UInt8
 Int:Int
abbrev Du:Ap:=(⟨(0:Int),(0:Int),([]:List UInt8),(0:Int)⟩:Ap)
structure Ab where
 l:List Ap
 i:Int
abbrev Mi:Ab:=(⟨([]:List Ap),(0:Int)⟩:Ab)
structure Ad where
 l:List Ap
 at_:Int
 bad:Bool
abbrev Js:Ad:=(⟨([]:List Ap),(0:Int),false⟩:Ad)
structure Aw where
 src:List UInt8
 at_:Int
abbrev Mg:Aw:=(⟨([]:List UInt8),(0:Int)⟩:Aw)
structure Fv where
 start:Int
 end_ : Int
abbrev Is:Fv:=(⟨(0:Int),(0:Int)⟩:Fv)
structure E6 where
 Lo:Int
 Hi:Int
 Stride:Int
abbrev Hv:E6:=(⟨(0:Int),(0:Int),(0:Int)⟩:E6)
structure E5 where
 Lo:Int
 Hi:Int
 Stride:Int
abbrev Hp:E5:=(⟨(0:Int),(0:Int),(0:Int)⟩:E5)
structure Fd where
 R16:List E6
 R32:List E5
 LatinOffset:Int
abbrev Kf:Fd:=(⟨([]:List E6),([]:List E5),(0:Int)⟩:Fd)
structure Fb where
 s:List UInt8
abbrev Ka:Fb:=(⟨([]:List UInt8)⟩:Fb)
inductive Tag where
 | Af
 | Am
 | C4
 | E8
 | Dk
 | Fk
 | Ew
 | Ev
 deriving DecidableEq
@[reducible] def T:Tag→Type
 | .Af=>Aa
 | .Am=>Ap
 | .C4=>List UInt8
 | .E8=>Int
 | .Dk=>UInt8
 | .Fk=>Fv
 | .Ew=>E6
 | .Ev=>E5
def I4:Py T Aa:=Py.iso (Py.pair (Py.int (T:=T) .i64) (Py.pair (Py.str (T:=T)) (Py.pair (Py.int (T:=T) .i64) (Py.pair (Py.str (T:=T)) (Py.sl (T:=T) Tag.Af))))) (fun (x:Aa)=>(x.Op,(x.Name,(x.Int,(x.Text,x.Kids))))) (fun y=>⟨y.1,y.2.1,y.2.2.1,y.2.2.2.1,y.2.2.2.2⟩) (fun _=>rfl)
abbrev O6 (x:Aa):List (CV T):=I4.k x
def H7:Py T Ft:=Py.iso (Py.int (T:=T) .i64) (fun (x:Ft)=>x.at_) (fun y=>⟨y⟩) (fun _=>rfl)
abbrev Mc (x:Ft):List (CV T):=H7.k x
def Ia:Py T Ap:=Py.iso (Py.pair (Py.int (T:=T) .i64) (Py.pair (Py.int (T:=T) .i64) (Py.pair (Py.str (T:=T)) (Py.int (T:=T) .i64)))) (fun (x:Ap)=>(x.Kind,(x.At,(x.Text,x.Int)))) (fun y=>⟨y.1,y.2.1,y.2.2.1,y.2.2.2⟩) (fun _=>rfl)
abbrev Of (x:Ap):List (CV T):=Ia.k x
def Ih:Py T Ab:=Py.iso (Py.pair (Py.sl (T:=T) Tag.Am) (Py.int (T:=T) .i64)) (fun (x:Ab)=>(x.l,x.i)) (fun y=>⟨y.1,y.2⟩) (fun _=>rfl)
abbrev Mf (x:Ab):List (CV T):=Ih.k x
def Gs:Py T Ad:=Py.iso (Py.pair (Py.sl (T:=T) Tag.Am) (Py.pair (Py.int (T:=T) .i64) (Py.bool (T:=T)))) (fun (x:Ad)=>(x.l,(x.at_,x.bad))) (fun y=>⟨y.1,y.2.1,y.2.2⟩) (fun _=>rfl)
abbrev Jt (x:Ad):List (CV T):=Gs.k x
def Ig:Py T Aw:=Py.iso (Py.pair (Py.str (T:=T)) (Py.int (T:=T) .i64)) (fun (x:Aw)=>(x.src,x.at_)) (fun y=>⟨y.1,y.2⟩) (fun _=>rfl)
abbrev Mh (x:Aw):List (CV T):=Ig.k x
def G6:Py T Fv:=Py.iso (Py.pair (Py.int (T:=T) .i64) (Py.int (T:=T) .i64)) (fun (x:Fv)=>(x.start,x.end_)) (fun y=>⟨y.1,y.2⟩) (fun _=>rfl)
abbrev Mq (x:Fv):List (CV T):=G6.k x
def Gf:Py T E6:=Py.iso (Py.pair (Py.int (T:=T) .u16) (Py.pair (Py.int (T:=T) .u16) (Py.int (T:=T) .u16))) (fun (x:E6)=>(x.Lo,(x.Hi,x.Stride))) (fun y=>⟨y.1,y.2.1,y.2.2⟩) (fun _=>rfl)
abbrev K9 (x:E6):List (CV T):=Gf.k x
def Gh:Py T E5:=Py.iso (Py.pair (Py.int (T:=T) .u32) (Py.pair (Py.int (T:=T) .u32) (Py.int (T:=T) .u32))) (fun (x:E5)=>(x.Lo,(x.Hi,x.Stride))) (fun y=>⟨y.1,y.2.1,y.2.2⟩) (fun _=>rfl)
abbrev Li (x:E5):List (CV T):=Gh.k x
def G4:Py T Fd:=Py.iso (Py.pair (Py.sl (T:=T) Tag.Ew) (Py.pair (Py.sl (T:=T) Tag.Ev) (Py.int (T:=T) .i64))) (fun (x:Fd)=>(x.R16,(x.R32,x.LatinOffset))) (fun y=>⟨y.1,y.2.1,y.2.2⟩) (fun _=>rfl)
abbrev Kn (x:Fd):List (CV T):=G4.k x
def G3:Py T Fb:=Py.iso (Py.str (T:=T)) (fun (x:Fb)=>x.s) (fun y=>⟨y⟩) (fun _=>rfl)
abbrev J1 (x:Fb):List (CV T):=G3.k x
abbrev Ah (x:Aa):List (CV T):=[.I x.Op,.str x.Name,.I x.Int,.str x.Text,.ro Tag.Af x.Kids]
abbrev L5 (x:Ft):List (CV T):=[.I x.at_]
abbrev D3 (x:Ap):List (CV T):=[.I x.Kind,.I x.At,.str x.Text,.I x.Int]
abbrev Ae (x:Ab):List (CV T):=[.ro Tag.Am x.l,.I x.i]
abbrev Ac (x:Ad):List (CV T):=[.ro Tag.Am x.l,.I x.at_,.B x.bad]
abbrev A3 (x:Aw):List (CV T):=[.str x.src,.I x.at_]
abbrev Mu (x:Fv):List (CV T):=[.I x.start,.I x.end_]
abbrev Ld (x:E6):List (CV T):=[.lit (.int .u16 x.Lo),.lit (.int .u16 x.Hi),.lit (.int .u16 x.Stride)]
abbrev Lv (x:E5):List (CV T):=[.lit (.int .u32 x.Lo),.lit (.int .u32 x.Hi),.lit (.int .u32 x.Stride)]
abbrev J4 (x:Fd):List (CV T):=[.ro Tag.Ew x.R16,.ro Tag.Ev x.R32,.I x.LatinOffset]
abbrev Jz (x:Fb):List (CV T):=[.str x.s]
def cod:(t:Tag)→Py T (T t)
 | .Af=>I4
 | .Am=>Ia
 | .C4=>(Py.str (T:=T))
 | .E8=>(Py.int (T:=T) .i64)
 | .Dk=>(Py.byte (T:=T))
 | .Fk=>G6
 | .Ew=>Gf
 | .Ev=>Gh
def dflt:(t:Tag)→T t
 | .Af=>Ca
 | .Am=>Du
 | .C4=>([]:List UInt8)
 | .E8=>(0:Int)
 | .Dk=>(0:UInt8)
 | .Fk=>Is
 | .Ew=>Hv
 | .Ev=>Hp
def E:Qm T where
 dec:=inferInstance
 sz t:=(cod t).sz
 szpos:=by intro t; cases t <;> decide
 isAgg:=fun | .Af=>true | .Am=>true | .C4=>false | .E8=>false | .Dk=>false | .Fk=>true | .Ew=>true | .Ev=>true
 ty:=fun | .Af=>25 | .Am=>54 | .C4=>9 | .E8=>3 | .Dk=>5 | .Fk=>113 | .Ew=>132 | .Ev=>135
 k t x:=(cod t).k x
 klen t x:=(cod t).klen x
 un t cs:=(cod t).un cs
 dflt:=dflt
 ofTy:=fun | 25=>some .Af | 54=>some .Am | 9=>some .C4 | 3=>some .E8 | 5=>some .Dk | 113=>some .Fk | 132=>some .Ew | 135=>some .Ev | _=>none
def V:Rz T:={ E:=E,isB:=fun | .Dk=>true | _=>false,toB:=fun | .Dk=>fun b=>b | _=>fun _=>0,ofB:=fun | .Dk=>fun b=>b | t=>fun _=>dflt t,glb:=[(0,fun cs=>cs=(Lib.asciiSpaceTab.map fun z=>Value.int .u8 z).toArray),(2,fun cs=>∃ te pe,cs = #[.iface te pe]),(3,fun cs=>∃ te pe,cs = #[.iface te pe]),(5,fun cs=>cs=(Lib.pow10Tab.map fun z=>Value.int .u64 z).toArray)] }
theorem Oc:∀ b,V.E.k Tag.Dk (V.ofB Tag.Dk b)=[.lit (.int .u8 b.toNat)]:=fun _=>rfl
theorem Lz:∀ x,∀ c∈V.E.k Tag.Am x,c.flat=true:=by
 intro x c hc;have hc:c∈([.I x.Kind,.I x.At,.str x.Text,.I x.Int]:List (CV T)):=hc;simp only [List.mem_cons,List.not_mem_nil,or_false] at hc;rcases hc with rfl | rfl | rfl | rfl <;> rfl
theorem Np:∀ x,∀ c∈V.E.k Tag.C4 x,c.flat=true:=by
 intro x c hc;have hc:c∈([.str x]:List (CV T)):=hc;simp only [List.mem_cons,List.not_mem_nil,or_false] at hc;rcases hc with rfl <;> rfl
theorem On:∀ x,∀ c∈V.E.k Tag.E8 x,c.flat=true:=by
 intro x c hc;have hc:c∈([.I x]:List (CV T)):=hc;simp only [List.mem_cons,List.not_mem_nil,or_false] at hc;rcases hc with rfl <;> rfl
theorem N1:∀ x,∀ c∈V.E.k Tag.Dk x,c.flat=true:=by
 intro x c hc;have hc:c∈([.lit (.int .u8 (x.toNat:Int))]:List (CV T)):=hc;simp only [List.mem_cons,List.not_mem_nil,or_false] at hc;rcases hc with rfl <;> rfl
theorem Kr:∀ x,∀ c∈V.E.k Tag.Fk x,c.flat=true:=by
 intro x c hc;have hc:c∈([.I x.start,.I x.end_]:List (CV T)):=hc;simp only [List.mem_cons,List.not_mem_nil,or_false] at hc;rcases hc with rfl | rfl <;> rfl
theorem Jq:∀ x,∀ c∈V.E.k Tag.Ew x,c.flat=true:=by
 intro x c hc;have hc:c∈([.lit (.int .u16 x.Lo),.lit (.int .u16 x.Hi),.lit (.int .u16 x.Stride)]:List (CV T)):=hc;simp only [List.mem_cons,List.not_mem_nil,or_false] at hc;rcases hc with rfl | rfl | rfl <;> rfl
theorem Jv:∀ x,∀ c∈V.E.k Tag.Ev x,c.flat=true:=by
 intro x c hc;have hc:c∈([.lit (.int .u32 x.Lo),.lit (.int .u32 x.Hi),.lit (.int .u32 x.Stride)]:List (CV T)):=hc;simp only [List.mem_cons,List.not_mem_nil,or_false] at hc;rcases hc with rfl | rfl | rfl <;> rfl
theorem L:V.E.Law V.isB V.toB where
 un t _ _ _ h hp j c hc:=by
  obtain ⟨d,h1,h2⟩:=(cod t).un_ok h hp j c hc;exact ⟨d,h1,fun w Z ρ v h=>h2 _ w Z ρ v h⟩
 byte t x h:=by cases t <;> first | rfl | cases h
noncomputable abbrev P:Program:=Tryz.prog
theorem mixed:P.follows .mixedOrders=true:=by kernel_rfl
end Go.Proofs.YtifjagfmfkemmaaGreatDoor
