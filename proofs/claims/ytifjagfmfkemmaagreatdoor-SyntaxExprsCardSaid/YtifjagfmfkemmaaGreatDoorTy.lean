import Derived.Test.YtifjagfmfkemmaaGreatDoorEngD
import Derived.Test.YtifjagfmfkemmaaGreatDoorProg
import Derived.Lib.Space
import Derived.Lib.ItoaNum
set_option linter.unusedVariables false
set_option maxHeartbeats 0
namespace Go.Proofs.YtifjagfmfkemmaaGreatDoor
open Eng
structure Aa where
 Op:Int
 Name:List UInt8
 Int:Int
 Text:List UInt8
 Kids:List Aa
abbrev B3:Aa:=(⟨(0:Int),([]:List UInt8),(0:Int),([]:List UInt8),([]:List Aa)⟩:Aa)
structure Fv where
 at_:Int
abbrev M3:Fv:=(⟨(0:Int)⟩:Fv)
structure Al where
 Kind:Int
 At:Int
 Text:List UInt8
 Int:Int
abbrev Dr:Al:=(⟨(0:Int),(0:Int),([]:List UInt8),(0:Int)⟩:Al)
structure Ab where
 l:List Al
 i:Int
abbrev Na:Ab:=(⟨([]:List Al),(0:Int)⟩:Ab)
structure Ad where
 l:List Al
 at_:Int
 bad:Bool
abbrev Kd:Ad:=(⟨([]:List Al),(0:Int),false⟩:Ad)
structure A0 where
 src:List UInt8
 at_:Int
abbrev Nf:A0:=(⟨([]:List UInt8),(0:Int)⟩:A0)
structure Fx where
 start:Int
 end_ : Int
abbrev Je:Fx:=(⟨(0:Int),(0:Int)⟩:Fx)
structure Fe where
 Lo:Int
 Hi:Int
 Stride:Int
abbrev Ia:Fe:=(⟨(0:Int),(0:Int),(0:Int)⟩:Fe)
structure Fd where
 Lo:Int
 Hi:Int
 Stride:Int
abbrev Ib:Fd:=(⟨(0:Int),(0:Int),(0:Int)⟩:Fd)
structure Fj where
 R16:List Fe
 R32:List Fd
 LatinOffset:Int
abbrev Ky:Fj:=(⟨([]:List Fe),([]:List Fd),(0:Int)⟩:Fj)
structure Fk where
 s:List UInt8
abbrev K7:Fk:=(⟨([]:List UInt8)⟩:Fk)
inductive Tag where
 | Ae
 | Ak
 | C8
 | Fg
 | Ds
 | Fp
 | E4
 | E3
 deriving DecidableEq
@[reducible] def T:Tag→Type
 | .Ae=>Aa
 | .Ak=>Al
 | .C8=>List UInt8
 | .Fg=>Int
 | .Ds=>UInt8
 | .Fp=>Fx
 | .E4=>Fe
 | .E3=>Fd
def Jf:Rg T Aa:=Rg.iso (Rg.pair (Rg.int (T:=T) .i64) (Rg.pair (Rg.str (T:=T)) (Rg.pair (Rg.int (T:=T) .i64) (Rg.pair (Rg.str (T:=T)) (Rg.sl (T:=T) Tag.Ae))))) (fun (x:Aa)=>(x.Op,(x.Name,(x.Int,(x.Text,x.Kids))))) (fun y=>⟨y.1,y.2.1,y.2.2.1,y.2.2.2.1,y.2.2.2.2⟩) (fun _=>rfl)
abbrev P1 (x:Aa):List (CV T):=Jf.k x
def Im:Rg T Fv:=Rg.iso (Rg.int (T:=T) .i64) (fun (x:Fv)=>x.at_) (fun y=>⟨y⟩) (fun _=>rfl)
abbrev M6 (x:Fv):List (CV T):=Im.k x
def Iw:Rg T Al:=Rg.iso (Rg.pair (Rg.int (T:=T) .i64) (Rg.pair (Rg.int (T:=T) .i64) (Rg.pair (Rg.str (T:=T)) (Rg.int (T:=T) .i64)))) (fun (x:Al)=>(x.Kind,(x.At,(x.Text,x.Int)))) (fun y=>⟨y.1,y.2.1,y.2.2.1,y.2.2.2⟩) (fun _=>rfl)
abbrev Po (x:Al):List (CV T):=Iw.k x
def Iy:Rg T Ab:=Rg.iso (Rg.pair (Rg.sl (T:=T) Tag.Ak) (Rg.int (T:=T) .i64)) (fun (x:Ab)=>(x.l,x.i)) (fun y=>⟨y.1,y.2⟩) (fun _=>rfl)
abbrev Nb (x:Ab):List (CV T):=Iy.k x
def Hc:Rg T Ad:=Rg.iso (Rg.pair (Rg.sl (T:=T) Tag.Ak) (Rg.pair (Rg.int (T:=T) .i64) (Rg.bool (T:=T)))) (fun (x:Ad)=>(x.l,(x.at_,x.bad))) (fun y=>⟨y.1,y.2.1,y.2.2⟩) (fun _=>rfl)
abbrev Kh (x:Ad):List (CV T):=Hc.k x
def Ix:Rg T A0:=Rg.iso (Rg.pair (Rg.str (T:=T)) (Rg.int (T:=T) .i64)) (fun (x:A0)=>(x.src,x.at_)) (fun y=>⟨y.1,y.2⟩) (fun _=>rfl)
abbrev Nc (x:A0):List (CV T):=Ix.k x
def Hl:Rg T Fx:=Rg.iso (Rg.pair (Rg.int (T:=T) .i64) (Rg.int (T:=T) .i64)) (fun (x:Fx)=>(x.start,x.end_)) (fun y=>⟨y.1,y.2⟩) (fun _=>rfl)
abbrev Ov (x:Fx):List (CV T):=Hl.k x
def Gv:Rg T Fe:=Rg.iso (Rg.pair (Rg.int (T:=T) .u16) (Rg.pair (Rg.int (T:=T) .u16) (Rg.int (T:=T) .u16))) (fun (x:Fe)=>(x.Lo,(x.Hi,x.Stride))) (fun y=>⟨y.1,y.2.1,y.2.2⟩) (fun _=>rfl)
abbrev Mn (x:Fe):List (CV T):=Gv.k x
def Gy:Rg T Fd:=Rg.iso (Rg.pair (Rg.int (T:=T) .u32) (Rg.pair (Rg.int (T:=T) .u32) (Rg.int (T:=T) .u32))) (fun (x:Fd)=>(x.Lo,(x.Hi,x.Stride))) (fun y=>⟨y.1,y.2.1,y.2.2⟩) (fun _=>rfl)
abbrev Mf (x:Fd):List (CV T):=Gy.k x
def Hk:Rg T Fj:=Rg.iso (Rg.pair (Rg.sl (T:=T) Tag.E4) (Rg.pair (Rg.sl (T:=T) Tag.E3) (Rg.int (T:=T) .i64))) (fun (x:Fj)=>(x.R16,(x.R32,x.LatinOffset))) (fun y=>⟨y.1,y.2.1,y.2.2⟩) (fun _=>rfl)
abbrev Ko (x:Fj):List (CV T):=Hk.k x
def Hj:Rg T Fk:=Rg.iso (Rg.str (T:=T)) (fun (x:Fk)=>x.s) (fun y=>⟨y⟩) (fun _=>rfl)
abbrev Lf (x:Fk):List (CV T):=Hj.k x
abbrev Aj (x:Aa):List (CV T):=[.I x.Op,.str x.Name,.I x.Int,.str x.Text,.ro Tag.Ae x.Kids]
abbrev M9 (x:Fv):List (CV T):=[.I x.at_]
abbrev D8 (x:Al):List (CV T):=[.I x.Kind,.I x.At,.str x.Text,.I x.Int]
abbrev Af (x:Ab):List (CV T):=[.ro Tag.Ak x.l,.I x.i]
abbrev Ac (x:Ad):List (CV T):=[.ro Tag.Ak x.l,.I x.at_,.B x.bad]
abbrev A9 (x:A0):List (CV T):=[.str x.src,.I x.at_]
abbrev Nn (x:Fx):List (CV T):=[.I x.start,.I x.end_]
abbrev Md (x:Fe):List (CV T):=[.lit (.int .u16 x.Lo),.lit (.int .u16 x.Hi),.lit (.int .u16 x.Stride)]
abbrev Mc (x:Fd):List (CV T):=[.lit (.int .u32 x.Lo),.lit (.int .u32 x.Hi),.lit (.int .u32 x.Stride)]
abbrev Lh (x:Fj):List (CV T):=[.ro Tag.E4 x.R16,.ro Tag.E3 x.R32,.I x.LatinOffset]
abbrev K4 (x:Fk):List (CV T):=[.str x.s]
def cod:(t:Tag)→Rg T (T t)
 | .Ae=>Jf
 | .Ak=>Iw
 | .C8=>(Rg.str (T:=T))
 | .Fg=>(Rg.int (T:=T) .i64)
 | .Ds=>(Rg.byte (T:=T))
 | .Fp=>Hl
 | .E4=>Gv
 | .E3=>Gy
def dflt:(t:Tag)→T t
 | .Ae=>B3
 | .Ak=>Dr
 | .C8=>([]:List UInt8)
 | .Fg=>(0:Int)
 | .Ds=>(0:UInt8)
 | .Fp=>Je
 | .E4=>Ia
 | .E3=>Ib
def E:R4 T where
 dec:=inferInstance
 sz t:=(cod t).sz
 szpos:=by intro t; cases t <;> decide
 isAgg:=fun | .Ae=>true | .Ak=>true | .C8=>false | .Fg=>false | .Ds=>false | .Fp=>true | .E4=>true | .E3=>true
 ty:=fun | .Ae=>25 | .Ak=>54 | .C8=>9 | .Fg=>3 | .Ds=>5 | .Fp=>113 | .E4=>132 | .E3=>135
 k t x:=(cod t).k x
 klen t x:=(cod t).klen x
 un t cs:=(cod t).un cs
 dflt:=dflt
 ofTy:=fun | 25=>some .Ae | 54=>some .Ak | 9=>some .C8 | 3=>some .Fg | 5=>some .Ds | 113=>some .Fp | 132=>some .E4 | 135=>some .E3 | _=>none
def V:Tp T:={ E:=E,isB:=fun | .Ds=>true | _=>false,toB:=fun | .Ds=>fun b=>b | _=>fun _=>0,ofB:=fun | .Ds=>fun b=>b | t=>fun _=>dflt t,glb:=[(0,fun cs=>cs=(Lib.asciiSpaceTab.map fun z=>Value.int .u8 z).toArray),(2,fun cs=>∃ te pe,cs = #[.iface te pe]),(3,fun cs=>∃ te pe,cs = #[.iface te pe]),(5,fun cs=>cs=(Lib.pow10Tab.map fun z=>Value.int .u64 z).toArray)] }
theorem Pp:∀ b,V.E.k Tag.Ds (V.ofB Tag.Ds b)=[.lit (.int .u8 b.toNat)]:=fun _=>rfl
theorem M5:∀ x,∀ c∈V.E.k Tag.Ak x,c.flat=true:=by
 intro x c hc
 have hc:c∈([.I x.Kind,.I x.At,.str x.Text,.I x.Int]:List (CV T)):=hc
 simp only [List.mem_cons,List.not_mem_nil,or_false] at hc
 rcases hc with rfl | rfl | rfl | rfl <;> rfl
theorem Ox:∀ x,∀ c∈V.E.k Tag.C8 x,c.flat=true:=by
 intro x c hc
 have hc:c∈([.str x]:List (CV T)):=hc
 simp only [List.mem_cons,List.not_mem_nil,or_false] at hc
 rcases hc with rfl <;> rfl
theorem Qt:∀ x,∀ c∈V.E.k Tag.Fg x,c.flat=true:=by
 intro x c hc
 have hc:c∈([.I x]:List (CV T)):=hc
 simp only [List.mem_cons,List.not_mem_nil,or_false] at hc
 rcases hc with rfl <;> rfl
theorem Oy:∀ x,∀ c∈V.E.k Tag.Ds x,c.flat=true:=by
 intro x c hc
 have hc:c∈([.lit (.int .u8 (x.toNat:Int))]:List (CV T)):=hc
 simp only [List.mem_cons,List.not_mem_nil,or_false] at hc
 rcases hc with rfl <;> rfl
theorem Lj:∀ x,∀ c∈V.E.k Tag.Fp x,c.flat=true:=by
 intro x c hc
 have hc:c∈([.I x.start,.I x.end_]:List (CV T)):=hc
 simp only [List.mem_cons,List.not_mem_nil,or_false] at hc
 rcases hc with rfl | rfl <;> rfl
theorem Kf:∀ x,∀ c∈V.E.k Tag.E4 x,c.flat=true:=by
 intro x c hc
 have hc:c∈([.lit (.int .u16 x.Lo),.lit (.int .u16 x.Hi),.lit (.int .u16 x.Stride)]:List (CV T)):=hc
 simp only [List.mem_cons,List.not_mem_nil,or_false] at hc
 rcases hc with rfl | rfl | rfl <;> rfl
theorem Kc:∀ x,∀ c∈V.E.k Tag.E3 x,c.flat=true:=by
 intro x c hc
 have hc:c∈([.lit (.int .u32 x.Lo),.lit (.int .u32 x.Hi),.lit (.int .u32 x.Stride)]:List (CV T)):=hc
 simp only [List.mem_cons,List.not_mem_nil,or_false] at hc
 rcases hc with rfl | rfl | rfl <;> rfl
theorem L:V.E.Law V.isB V.toB where
 un t _ _ _ h hp j c hc:=by
  obtain ⟨d,h1,h2⟩:=(cod t).un_ok h hp j c hc
  exact ⟨d,h1,fun w Z ρ v h=>h2 _ w Z ρ v h⟩
 byte t x h:=by cases t <;> first | rfl | cases h
noncomputable abbrev P:Program:=Tryz.prog
theorem mixed:P.follows .mixedOrders=true:=by kernel_rfl
end Go.Proofs.YtifjagfmfkemmaaGreatDoor
