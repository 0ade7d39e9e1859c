import Derived.Test.YtifjagfmfkemmaaGreatDoorEngD
import Derived.Test.YtifjagfmfkemmaaGreatDoorProg
import Derived.Lib.Space
import Derived.Lib.ItoaNum
set_option linter.unusedVariables false
set_option maxHeartbeats 0
namespace Go.Proofs.YtifjagfmfkemmaaGreatDoor
open Eng
structure Aa where
 Op:Int
 Name:List UInt8
 Int:Int
 Text:List UInt8
 Kids:List Aa
abbrev A9:Aa:=(⟨(0:Int),([]:List UInt8),(0:Int),([]:List UInt8),([]:List Aa)⟩:Aa)
structure Gp where
 at_:Int
abbrev Qn:Gp:=(⟨(0:Int)⟩:Gp)
structure Ar where
 Kind:Int
 At:Int
 Text:List UInt8
 Int:Int
abbrev Dp:Ar:=(⟨(0:Int),(0:Int),([]:List UInt8),(0:Int)⟩:Ar)
structure Ab where
 l:List Ar
 i:Int
abbrev Q4:Ab:=(⟨([]:List Ar),(0:Int)⟩:Ab)
structure Ad where
 l:List Ar
 at_:Int
 bad:Bool
abbrev M6:Ad:=(⟨([]:List Ar),(0:Int),false⟩:Ad)
structure A0 where
 src:List UInt8
 at_:Int
abbrev Q7:A0:=(⟨([]:List UInt8),(0:Int)⟩:A0)
structure Gx where
 start:Int
 end_ : Int
abbrev Lu:Gx:=(⟨(0:Int),(0:Int)⟩:Gx)
structure Fq where
 Lo:Int
 Hi:Int
 Stride:Int
abbrev J9:Fq:=(⟨(0:Int),(0:Int),(0:Int)⟩:Fq)
structure Fr where
 Lo:Int
 Hi:Int
 Stride:Int
abbrev J7:Fr:=(⟨(0:Int),(0:Int),(0:Int)⟩:Fr)
structure F3 where
 R16:List Fq
 R32:List Fr
 LatinOffset:Int
abbrev Od:F3:=(⟨([]:List Fq),([]:List Fr),(0:Int)⟩:F3)
structure F5 where
 s:List UInt8
abbrev Nz:F5:=(⟨([]:List UInt8)⟩:F5)
inductive Tag where
 | Ae
 | Ao
 | Dd
 | Fz
 | D3
 | Gj
 | Fh
 | Fg
 deriving DecidableEq
@[reducible] def T:Tag→Type
 | .Ae=>Aa
 | .Ao=>Ar
 | .Dd=>List UInt8
 | .Fz=>Int
 | .D3=>UInt8
 | .Gj=>Gx
 | .Fh=>Fq
 | .Fg=>Fr
def L1:Ya T Aa:=Ya.iso (Ya.pair (Ya.int (T:=T) .i64) (Ya.pair (Ya.str (T:=T)) (Ya.pair (Ya.int (T:=T) .i64) (Ya.pair (Ya.str (T:=T)) (Ya.sl (T:=T) Tag.Ae))))) (fun (x:Aa)=>(x.Op,(x.Name,(x.Int,(x.Text,x.Kids))))) (fun y=>⟨y.1,y.2.1,y.2.2.1,y.2.2.2.1,y.2.2.2.2⟩) (fun _=>rfl)
abbrev Xh (x:Aa):List (CV T):=L1.k x
def Km:Ya T Gp:=Ya.iso (Ya.int (T:=T) .i64) (fun (x:Gp)=>x.at_) (fun y=>⟨y⟩) (fun _=>rfl)
abbrev Qv (x:Gp):List (CV T):=Km.k x
def Kt:Ya T Ar:=Ya.iso (Ya.pair (Ya.int (T:=T) .i64) (Ya.pair (Ya.int (T:=T) .i64) (Ya.pair (Ya.str (T:=T)) (Ya.int (T:=T) .i64)))) (fun (x:Ar)=>(x.Kind,(x.At,(x.Text,x.Int)))) (fun y=>⟨y.1,y.2.1,y.2.2.1,y.2.2.2⟩) (fun _=>rfl)
abbrev Vr (x:Ar):List (CV T):=Kt.k x
def Kw:Ya T Ab:=Ya.iso (Ya.pair (Ya.sl (T:=T) Tag.Ao) (Ya.int (T:=T) .i64)) (fun (x:Ab)=>(x.l,x.i)) (fun y=>⟨y.1,y.2⟩) (fun _=>rfl)
abbrev Q5 (x:Ab):List (CV T):=Kw.k x
def Ja:Ya T Ad:=Ya.iso (Ya.pair (Ya.sl (T:=T) Tag.Ao) (Ya.pair (Ya.int (T:=T) .i64) (Ya.bool (T:=T)))) (fun (x:Ad)=>(x.l,(x.at_,x.bad))) (fun y=>⟨y.1,y.2.1,y.2.2⟩) (fun _=>rfl)
abbrev Mr (x:Ad):List (CV T):=Ja.k x
def Ky:Ya T A0:=Ya.iso (Ya.pair (Ya.str (T:=T)) (Ya.int (T:=T) .i64)) (fun (x:A0)=>(x.src,x.at_)) (fun y=>⟨y.1,y.2⟩) (fun _=>rfl)
abbrev Q6 (x:A0):List (CV T):=Ky.k x
def Je:Ya T Gx:=Ya.iso (Ya.pair (Ya.int (T:=T) .i64) (Ya.int (T:=T) .i64)) (fun (x:Gx)=>(x.start,x.end_)) (fun y=>⟨y.1,y.2⟩) (fun _=>rfl)
abbrev Rj (x:Gx):List (CV T):=Je.k x
def Ie:Ya T Fq:=Ya.iso (Ya.pair (Ya.int (T:=T) .u16) (Ya.pair (Ya.int (T:=T) .u16) (Ya.int (T:=T) .u16))) (fun (x:Fq)=>(x.Lo,(x.Hi,x.Stride))) (fun y=>⟨y.1,y.2.1,y.2.2⟩) (fun _=>rfl)
abbrev Pf (x:Fq):List (CV T):=Ie.k x
def Ih:Ya T Fr:=Ya.iso (Ya.pair (Ya.int (T:=T) .u32) (Ya.pair (Ya.int (T:=T) .u32) (Ya.int (T:=T) .u32))) (fun (x:Fr)=>(x.Lo,(x.Hi,x.Stride))) (fun y=>⟨y.1,y.2.1,y.2.2⟩) (fun _=>rfl)
abbrev P0 (x:Fr):List (CV T):=Ih.k x
def Jd:Ya T F3:=Ya.iso (Ya.pair (Ya.sl (T:=T) Tag.Fh) (Ya.pair (Ya.sl (T:=T) Tag.Fg) (Ya.int (T:=T) .i64))) (fun (x:F3)=>(x.R16,(x.R32,x.LatinOffset))) (fun y=>⟨y.1,y.2.1,y.2.2⟩) (fun _=>rfl)
abbrev N3 (x:F3):List (CV T):=Jd.k x
def Jc:Ya T F5:=Ya.iso (Ya.str (T:=T)) (fun (x:F5)=>x.s) (fun y=>⟨y⟩) (fun _=>rfl)
abbrev Nl (x:F5):List (CV T):=Jc.k x
abbrev Aj (x:Aa):List (CV T):=[.I x.Op,.str x.Name,.I x.Int,.str x.Text,.ro Tag.Ae x.Kids]
abbrev Q0 (x:Gp):List (CV T):=[.I x.at_]
abbrev Eg (x:Ar):List (CV T):=[.I x.Kind,.I x.At,.str x.Text,.I x.Int]
abbrev Af (x:Ab):List (CV T):=[.ro Tag.Ao x.l,.I x.i]
abbrev Ac (x:Ad):List (CV T):=[.ro Tag.Ao x.l,.I x.at_,.B x.bad]
abbrev Bh (x:A0):List (CV T):=[.str x.src,.I x.at_]
abbrev R1 (x:Gx):List (CV T):=[.I x.start,.I x.end_]
abbrev Qd (x:Fq):List (CV T):=[.lit (.int .u16 x.Lo),.lit (.int .u16 x.Hi),.lit (.int .u16 x.Stride)]
abbrev Pv (x:Fr):List (CV T):=[.lit (.int .u32 x.Lo),.lit (.int .u32 x.Hi),.lit (.int .u32 x.Stride)]
abbrev Ni (x:F3):List (CV T):=[.ro Tag.Fh x.R16,.ro Tag.Fg x.R32,.I x.LatinOffset]
abbrev N0 (x:F5):List (CV T):=[.str x.s]
def cod:(t:Tag)→Ya T (T t)
 | .Ae=>L1
 | .Ao=>Kt
 | .Dd=>(Ya.str (T:=T))
 | .Fz=>(Ya.int (T:=T) .i64)
 | .D3=>(Ya.byte (T:=T))
 | .Gj=>Je
 | .Fh=>Ie
 | .Fg=>Ih
def dflt:(t:Tag)→T t
 | .Ae=>A9
 | .Ao=>Dp
 | .Dd=>([]:List UInt8)
 | .Fz=>(0:Int)
 | .D3=>(0:UInt8)
 | .Gj=>Lu
 | .Fh=>J9
 | .Fg=>J7
def E:Yz T where
 dec:=inferInstance
 sz t:=(cod t).sz
 szpos:=by intro t; cases t <;> decide
 isAgg:=fun | .Ae=>true | .Ao=>true | .Dd=>false | .Fz=>false | .D3=>false | .Gj=>true | .Fh=>true | .Fg=>true
 ty:=fun | .Ae=>25 | .Ao=>54 | .Dd=>9 | .Fz=>3 | .D3=>5 | .Gj=>113 | .Fh=>132 | .Fg=>135
 k t x:=(cod t).k x
 klen t x:=(cod t).klen x
 un t cs:=(cod t).un cs
 dflt:=dflt
 ofTy:=fun | 25=>some .Ae | 54=>some .Ao | 9=>some .Dd | 3=>some .Fz | 5=>some .D3 | 113=>some .Gj | 132=>some .Fh | 135=>some .Fg | _=>none
def V:Env T:={ E:=E,isB:=fun | .D3=>true | _=>false,toB:=fun | .D3=>fun b=>b | _=>fun _=>0,ofB:=fun | .D3=>fun b=>b | t=>fun _=>dflt t,glb:=[(0,fun cs=>cs=(Lib.asciiSpaceTab.map fun z=>Value.int .u8 z).toArray),(2,fun cs=>∃ te pe,cs = #[.iface te pe]),(3,fun cs=>∃ te pe,cs = #[.iface te pe]),(5,fun cs=>cs=(Lib.pow10Tab.map fun z=>Value.int .u64 z).toArray)] }
theorem Vo:∀ b,V.E.k Tag.D3 (V.ofB Tag.D3 b)=[.lit (.int .u8 b.toNat)]:=fun _=>rfl
theorem Qr:∀ x,∀ c∈V.E.k Tag.Ao x,c.flat=true:=by
 intro x c hc;have hc:c∈([.I x.Kind,.I x.At,.str x.Text,.I x.Int]:List (CV T)):=hc;simp only [List.mem_cons,List.not_mem_nil,or_false] at hc;rcases hc with rfl | rfl | rfl | rfl <;> rfl
theorem To:∀ x,∀ c∈V.E.k Tag.Dd x,c.flat=true:=by
 intro x c hc;have hc:c∈([.str x]:List (CV T)):=hc;simp only [List.mem_cons,List.not_mem_nil,or_false] at hc;rcases hc with rfl <;> rfl
theorem W4:∀ x,∀ c∈V.E.k Tag.Fz x,c.flat=true:=by
 intro x c hc;have hc:c∈([.I x]:List (CV T)):=hc;simp only [List.mem_cons,List.not_mem_nil,or_false] at hc;rcases hc with rfl <;> rfl
theorem U2:∀ x,∀ c∈V.E.k Tag.D3 x,c.flat=true:=by
 intro x c hc;have hc:c∈([.lit (.int .u8 (x.toNat:Int))]:List (CV T)):=hc;simp only [List.mem_cons,List.not_mem_nil,or_false] at hc;rcases hc with rfl <;> rfl
theorem Of:∀ x,∀ c∈V.E.k Tag.Gj x,c.flat=true:=by
 intro x c hc;have hc:c∈([.I x.start,.I x.end_]:List (CV T)):=hc;simp only [List.mem_cons,List.not_mem_nil,or_false] at hc;rcases hc with rfl | rfl <;> rfl
theorem M1:∀ x,∀ c∈V.E.k Tag.Fh x,c.flat=true:=by
 intro x c hc;have hc:c∈([.lit (.int .u16 x.Lo),.lit (.int .u16 x.Hi),.lit (.int .u16 x.Stride)]:List (CV T)):=hc;simp only [List.mem_cons,List.not_mem_nil,or_false] at hc;rcases hc with rfl | rfl | rfl <;> rfl
theorem Mt:∀ x,∀ c∈V.E.k Tag.Fg x,c.flat=true:=by
 intro x c hc;have hc:c∈([.lit (.int .u32 x.Lo),.lit (.int .u32 x.Hi),.lit (.int .u32 x.Stride)]:List (CV T)):=hc;simp only [List.mem_cons,List.not_mem_nil,or_false] at hc;rcases hc with rfl | rfl | rfl <;> rfl
theorem L:V.E.Law V.isB V.toB where
 un t _ _ _ h hp j c hc:=by
  obtain ⟨d,h1,h2⟩:=(cod t).un_ok h hp j c hc;exact ⟨d,h1,fun w Z ρ v h=>h2 _ w Z ρ v h⟩
 byte t x h:=by cases t <;> first | rfl | cases h
noncomputable abbrev P:Program:=Tryz.prog
theorem mixed:P.follows .mixedOrders=true:=by kernel_rfl
end Go.Proofs.YtifjagfmfkemmaaGreatDoor
