import Derived.Test.YtifjagfmfkemmaaGreatDoorEngD
import Derived.Test.YtifjagfmfkemmaaGreatDoorProg
import Derived.Lib.Space
import Derived.Lib.ItoaNum
set_option linter.unusedVariables false
set_option maxHeartbeats 0
namespace Go.Proofs.YtifjagfmfkemmaaGreatDoor
open Eng
structure Aa where
 Op:Int
 Name:List UInt8
 Int:Int
 Text:List UInt8
 Kids:List Aa
abbrev B5:Aa:=(⟨(0:Int),([]:List UInt8),(0:Int),([]:List UInt8),([]:List Aa)⟩:Aa)
structure Ft where
 at_:Int
abbrev Oc:Ft:=(⟨(0:Int)⟩:Ft)
structure Aq where
 Kind:Int
 At:Int
 Text:List UInt8
 Int:Int
abbrev Dh:Aq:=(⟨(0:Int),(0:Int),([]:List UInt8),(0:Int)⟩:Aq)
structure Ab where
 l:List Aq
 i:Int
abbrev Oi:Ab:=(⟨([]:List Aq),(0:Int)⟩:Ab)
structure Ad where
 l:List Aq
 at_:Int
 bad:Bool
abbrev Kv:Ad:=(⟨([]:List Aq),(0:Int),false⟩:Ad)
structure Aw where
 src:List UInt8
 at_:Int
abbrev Ol:Aw:=(⟨([]:List UInt8),(0:Int)⟩:Aw)
structure F0 where
 start:Int
 end_ : Int
abbrev J1:F0:=(⟨(0:Int),(0:Int)⟩:F0)
structure E3 where
 Lo:Int
 Hi:Int
 Stride:Int
abbrev Ip:E3:=(⟨(0:Int),(0:Int),(0:Int)⟩:E3)
structure E2 where
 Lo:Int
 Hi:Int
 Stride:Int
abbrev Ig:E2:=(⟨(0:Int),(0:Int),(0:Int)⟩:E2)
structure Fb where
 R16:List E3
 R32:List E2
 LatinOffset:Int
abbrev Lx:Fb:=(⟨([]:List E3),([]:List E2),(0:Int)⟩:Fb)
structure Fc where
 s:List UInt8
abbrev L7:Fc:=(⟨([]:List UInt8)⟩:Fc)
inductive Tag where
 | Af
 | Ap
 | Dk
 | E5
 | Ey
 | Fm
 | Er
 | Ep
 deriving DecidableEq
@[reducible] def T:Tag→Type
 | .Af=>Aa
 | .Ap=>Aq
 | .Dk=>List UInt8
 | .E5=>Int
 | .Ey=>UInt8
 | .Fm=>F0
 | .Er=>E3
 | .Ep=>E2
def Jt:T6 T Aa:=T6.iso (T6.pair (T6.int (T:=T) .i64) (T6.pair (T6.str (T:=T)) (T6.pair (T6.int (T:=T) .i64) (T6.pair (T6.str (T:=T)) (T6.sl (T:=T) Tag.Af))))) (fun (x:Aa)=>(x.Op,(x.Name,(x.Int,(x.Text,x.Kids))))) (fun y=>⟨y.1,y.2.1,y.2.2.1,y.2.2.2.1,y.2.2.2.2⟩) (fun _=>rfl)
abbrev Tc (x:Aa):List (CV T):=Jt.k x
def Iu:T6 T Ft:=T6.iso (T6.int (T:=T) .i64) (fun (x:Ft)=>x.at_) (fun y=>⟨y⟩) (fun _=>rfl)
abbrev N8 (x:Ft):List (CV T):=Iu.k x
def I5:T6 T Aq:=T6.iso (T6.pair (T6.int (T:=T) .i64) (T6.pair (T6.int (T:=T) .i64) (T6.pair (T6.str (T:=T)) (T6.int (T:=T) .i64)))) (fun (x:Aq)=>(x.Kind,(x.At,(x.Text,x.Int)))) (fun y=>⟨y.1,y.2.1,y.2.2.1,y.2.2.2⟩) (fun _=>rfl)
abbrev Ru (x:Aq):List (CV T):=I5.k x
def Jd:T6 T Ab:=T6.iso (T6.pair (T6.sl (T:=T) Tag.Ap) (T6.int (T:=T) .i64)) (fun (x:Ab)=>(x.l,x.i)) (fun y=>⟨y.1,y.2⟩) (fun _=>rfl)
abbrev Om (x:Ab):List (CV T):=Jd.k x
def Hf:T6 T Ad:=T6.iso (T6.pair (T6.sl (T:=T) Tag.Ap) (T6.pair (T6.int (T:=T) .i64) (T6.bool (T:=T)))) (fun (x:Ad)=>(x.l,(x.at_,x.bad))) (fun y=>⟨y.1,y.2.1,y.2.2⟩) (fun _=>rfl)
abbrev Ku (x:Ad):List (CV T):=Hf.k x
def Jb:T6 T Aw:=T6.iso (T6.pair (T6.str (T:=T)) (T6.int (T:=T) .i64)) (fun (x:Aw)=>(x.src,x.at_)) (fun y=>⟨y.1,y.2⟩) (fun _=>rfl)
abbrev Oj (x:Aw):List (CV T):=Jb.k x
def Hq:T6 T F0:=T6.iso (T6.pair (T6.int (T:=T) .i64) (T6.int (T:=T) .i64)) (fun (x:F0)=>(x.start,x.end_)) (fun y=>⟨y.1,y.2⟩) (fun _=>rfl)
abbrev Px (x:F0):List (CV T):=Hq.k x
def G3:T6 T E3:=T6.iso (T6.pair (T6.int (T:=T) .u16) (T6.pair (T6.int (T:=T) .u16) (T6.int (T:=T) .u16))) (fun (x:E3)=>(x.Lo,(x.Hi,x.Stride))) (fun y=>⟨y.1,y.2.1,y.2.2⟩) (fun _=>rfl)
abbrev Nn (x:E3):List (CV T):=G3.k x
def G4:T6 T E2:=T6.iso (T6.pair (T6.int (T:=T) .u32) (T6.pair (T6.int (T:=T) .u32) (T6.int (T:=T) .u32))) (fun (x:E2)=>(x.Lo,(x.Hi,x.Stride))) (fun y=>⟨y.1,y.2.1,y.2.2⟩) (fun _=>rfl)
abbrev Mz (x:E2):List (CV T):=G4.k x
def Ho:T6 T Fb:=T6.iso (T6.pair (T6.sl (T:=T) Tag.Er) (T6.pair (T6.sl (T:=T) Tag.Ep) (T6.int (T:=T) .i64))) (fun (x:Fb)=>(x.R16,(x.R32,x.LatinOffset))) (fun y=>⟨y.1,y.2.1,y.2.2⟩) (fun _=>rfl)
abbrev L3 (x:Fb):List (CV T):=Ho.k x
def Hm:T6 T Fc:=T6.iso (T6.str (T:=T)) (fun (x:Fc)=>x.s) (fun y=>⟨y⟩) (fun _=>rfl)
abbrev Lq (x:Fc):List (CV T):=Hm.k x
abbrev Ah (x:Aa):List (CV T):=[.I x.Op,.str x.Name,.I x.Int,.str x.Text,.ro Tag.Af x.Kids]
abbrev N7 (x:Ft):List (CV T):=[.I x.at_]
abbrev D1 (x:Aq):List (CV T):=[.I x.Kind,.I x.At,.str x.Text,.I x.Int]
abbrev Ae (x:Ab):List (CV T):=[.ro Tag.Ap x.l,.I x.i]
abbrev Ac (x:Ad):List (CV T):=[.ro Tag.Ap x.l,.I x.at_,.B x.bad]
abbrev A6 (x:Aw):List (CV T):=[.str x.src,.I x.at_]
abbrev Pl (x:F0):List (CV T):=[.I x.start,.I x.end_]
abbrev Ni (x:E3):List (CV T):=[.lit (.int .u16 x.Lo),.lit (.int .u16 x.Hi),.lit (.int .u16 x.Stride)]
abbrev M4 (x:E2):List (CV T):=[.lit (.int .u32 x.Lo),.lit (.int .u32 x.Hi),.lit (.int .u32 x.Stride)]
abbrev Lc (x:Fb):List (CV T):=[.ro Tag.Er x.R16,.ro Tag.Ep x.R32,.I x.LatinOffset]
abbrev L4 (x:Fc):List (CV T):=[.str x.s]
def cod:(t:Tag)→T6 T (T t)
 | .Af=>Jt
 | .Ap=>I5
 | .Dk=>(T6.str (T:=T))
 | .E5=>(T6.int (T:=T) .i64)
 | .Ey=>(T6.byte (T:=T))
 | .Fm=>Hq
 | .Er=>G3
 | .Ep=>G4
def dflt:(t:Tag)→T t
 | .Af=>B5
 | .Ap=>Dh
 | .Dk=>([]:List UInt8)
 | .E5=>(0:Int)
 | .Ey=>(0:UInt8)
 | .Fm=>J1
 | .Er=>Ip
 | .Ep=>Ig
def E:Uv T where
 dec:=inferInstance
 sz t:=(cod t).sz
 szpos:=by intro t; cases t <;> decide
 isAgg:=fun | .Af=>true | .Ap=>true | .Dk=>false | .E5=>false | .Ey=>false | .Fm=>true | .Er=>true | .Ep=>true
 ty:=fun | .Af=>25 | .Ap=>54 | .Dk=>9 | .E5=>3 | .Ey=>5 | .Fm=>113 | .Er=>132 | .Ep=>135
 k t x:=(cod t).k x
 klen t x:=(cod t).klen x
 un t cs:=(cod t).un cs
 dflt:=dflt
 ofTy:=fun | 25=>some .Af | 54=>some .Ap | 9=>some .Dk | 3=>some .E5 | 5=>some .Ey | 113=>some .Fm | 132=>some .Er | 135=>some .Ep | _=>none
def V:Wb T:={ E:=E,isB:=fun | .Ey=>true | _=>false,toB:=fun | .Ey=>fun b=>b | _=>fun _=>0,ofB:=fun | .Ey=>fun b=>b | t=>fun _=>dflt t,glb:=[(0,fun cs=>cs=(Lib.asciiSpaceTab.map fun z=>Value.int .u8 z).toArray),(2,fun cs=>∃ te pe,cs = #[.iface te pe]),(3,fun cs=>∃ te pe,cs = #[.iface te pe]),(5,fun cs=>cs=(Lib.pow10Tab.map fun z=>Value.int .u64 z).toArray)] }
theorem Rr:∀ b,V.E.k Tag.Ey (V.ofB Tag.Ey b)=[.lit (.int .u8 b.toNat)]:=fun _=>rfl
theorem N1:∀ x,∀ c∈V.E.k Tag.Ap x,c.flat=true:=by
 intro x c hc;have hc:c∈([.I x.Kind,.I x.At,.str x.Text,.I x.Int]:List (CV T)):=hc;simp only [List.mem_cons,List.not_mem_nil,or_false] at hc;rcases hc with rfl | rfl | rfl | rfl <;> rfl
theorem Ql:∀ x,∀ c∈V.E.k Tag.Dk x,c.flat=true:=by
 intro x c hc;have hc:c∈([.str x]:List (CV T)):=hc;simp only [List.mem_cons,List.not_mem_nil,or_false] at hc;rcases hc with rfl <;> rfl
theorem Tf:∀ x,∀ c∈V.E.k Tag.E5 x,c.flat=true:=by
 intro x c hc;have hc:c∈([.I x]:List (CV T)):=hc;simp only [List.mem_cons,List.not_mem_nil,or_false] at hc;rcases hc with rfl <;> rfl
theorem Rn:∀ x,∀ c∈V.E.k Tag.Ey x,c.flat=true:=by
 intro x c hc;have hc:c∈([.lit (.int .u8 (x.toNat:Int))]:List (CV T)):=hc;simp only [List.mem_cons,List.not_mem_nil,or_false] at hc;rcases hc with rfl <;> rfl
theorem Ma:∀ x,∀ c∈V.E.k Tag.Fm x,c.flat=true:=by
 intro x c hc;have hc:c∈([.I x.start,.I x.end_]:List (CV T)):=hc;simp only [List.mem_cons,List.not_mem_nil,or_false] at hc;rcases hc with rfl | rfl <;> rfl
theorem K6:∀ x,∀ c∈V.E.k Tag.Er x,c.flat=true:=by
 intro x c hc;have hc:c∈([.lit (.int .u16 x.Lo),.lit (.int .u16 x.Hi),.lit (.int .u16 x.Stride)]:List (CV T)):=hc;simp only [List.mem_cons,List.not_mem_nil,or_false] at hc;rcases hc with rfl | rfl | rfl <;> rfl
theorem Kx:∀ x,∀ c∈V.E.k Tag.Ep x,c.flat=true:=by
 intro x c hc;have hc:c∈([.lit (.int .u32 x.Lo),.lit (.int .u32 x.Hi),.lit (.int .u32 x.Stride)]:List (CV T)):=hc;simp only [List.mem_cons,List.not_mem_nil,or_false] at hc;rcases hc with rfl | rfl | rfl <;> rfl
theorem L:V.E.Law V.isB V.toB where
 un t _ _ _ h hp j c hc:=by
  obtain ⟨d,h1,h2⟩:=(cod t).un_ok h hp j c hc;exact ⟨d,h1,fun w Z ρ v h=>h2 _ w Z ρ v h⟩
 byte t x h:=by cases t <;> first | rfl | cases h
noncomputable abbrev P:Program:=Tryz.prog
theorem mixed:P.follows .mixedOrders=true:=by kernel_rfl
end Go.Proofs.YtifjagfmfkemmaaGreatDoor
