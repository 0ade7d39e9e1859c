/- The types of the program as Lean types. -/
import Derived.Test.YtifjagfmfkemmaaGreatDoorEngD
import Derived.Test.YtifjagfmfkemmaaGreatDoorProg
import Derived.Lib.Space
import Derived.Lib.ItoaNum
set_option linter.unusedVariables false
set_option maxHeartbeats 0
namespace Go.Proofs.YtifjagfmfkemmaaGreatDoor
open Eng
structure Aa where
 Op : Int
 Name : List UInt8
 Int : Int
 Text : List UInt8
 Kids : List Aa
abbrev Ai : Aa := (⟨(0 : Int), ([] : List UInt8), (0 : Int), ([] : List UInt8), ([] : List Aa)⟩ : Aa)
structure Fc where
 at_ : Int
abbrev I5 : Fc := (⟨(0 : Int)⟩ : Fc)
structure Aw where
 Kind : Int
 At : Int
 Text : List UInt8
 Int : Int
abbrev Fd : Aw := (⟨(0 : Int), (0 : Int), ([] : List UInt8), (0 : Int)⟩ : Aw)
structure Ab where
 l : List Aw
 i : Int
abbrev I8 : Ab := (⟨([] : List Aw), (0 : Int)⟩ : Ab)
structure Ev where
 l : List Aw
 at_ : Int
 bad : Bool
abbrev Gt : Ev := (⟨([] : List Aw), (0 : Int), false⟩ : Ev)
structure As where
 src : List UInt8
 at_ : Int
abbrev I9 : As := (⟨([] : List UInt8), (0 : Int)⟩ : As)
structure Fe where
 start : Int
 end_ : Int
abbrev Gp : Fe := (⟨(0 : Int), (0 : Int)⟩ : Fe)
structure Eu where
 Lo : Int
 Hi : Int
 Stride : Int
abbrev F6 : Eu := (⟨(0 : Int), (0 : Int), (0 : Int)⟩ : Eu)
structure Er where
 Lo : Int
 Hi : Int
 Stride : Int
abbrev F5 : Er := (⟨(0 : Int), (0 : Int), (0 : Int)⟩ : Er)
structure Ez where
 R16 : List Eu
 R32 : List Er
 LatinOffset : Int
abbrev G7 : Ez := (⟨([] : List Eu), ([] : List Er), (0 : Int)⟩ : Ez)
structure Ey where
 s : List UInt8
abbrev G2 : Ey := (⟨([] : List UInt8)⟩ : Ey)
inductive Tag where
 | Ad
 | Ax
 | C4
 | E1
 | Eo
 | E7
 | Em
 | El
 deriving DecidableEq
@[reducible] def T : Tag → Type
 | .Ad => Aa
 | .Ax => Aw
 | .C4 => List UInt8
 | .E1 => Int
 | .Eo => UInt8
 | .E7 => Fe
 | .Em => Eu
 | .El => Er
def Fu : Codec T Aa := Codec.iso (Codec.pair (Codec.int (T := T) .i64) (Codec.pair (Codec.str (T := T)) (Codec.pair (Codec.int (T := T) .i64) (Codec.pair (Codec.str (T := T)) (Codec.sl (T := T) Tag.Ad))))) (fun (x : Aa) => (x.Op, (x.Name, (x.Int, (x.Text, x.Kids))))) (fun y => ⟨y.1, y.2.1, y.2.2.1, y.2.2.2.1, y.2.2.2.2⟩) (fun _ => rfl)
abbrev K2 (x : Aa) : List (CV T) := Fu.k x
def F9 : Codec T Fc := Codec.iso (Codec.int (T := T) .i64) (fun (x : Fc) => x.at_) (fun y => ⟨y⟩) (fun _ => rfl)
abbrev Iu (x : Fc) : List (CV T) := F9.k x
def Gd : Codec T Aw := Codec.iso (Codec.pair (Codec.int (T := T) .i64) (Codec.pair (Codec.int (T := T) .i64) (Codec.pair (Codec.str (T := T)) (Codec.int (T := T) .i64)))) (fun (x : Aw) => (x.Kind, (x.At, (x.Text, x.Int)))) (fun y => ⟨y.1, y.2.1, y.2.2.1, y.2.2.2⟩) (fun _ => rfl)
abbrev Kh (x : Aw) : List (CV T) := Gd.k x
def Gf : Codec T Ab := Codec.iso (Codec.pair (Codec.sl (T := T) Tag.Ax) (Codec.int (T := T) .i64)) (fun (x : Ab) => (x.l, x.i)) (fun y => ⟨y.1, y.2⟩) (fun _ => rfl)
abbrev I7 (x : Ab) : List (CV T) := Gf.k x
def Fw : Codec T Ev := Codec.iso (Codec.pair (Codec.sl (T := T) Tag.Ax) (Codec.pair (Codec.int (T := T) .i64) (Codec.bool (T := T)))) (fun (x : Ev) => (x.l, (x.at_, x.bad))) (fun y => ⟨y.1, y.2.1, y.2.2⟩) (fun _ => rfl)
abbrev Gz (x : Ev) : List (CV T) := Fw.k x
def Gg : Codec T As := Codec.iso (Codec.pair (Codec.str (T := T)) (Codec.int (T := T) .i64)) (fun (x : As) => (x.src, x.at_)) (fun y => ⟨y.1, y.2⟩) (fun _ => rfl)
abbrev Ja (x : As) : List (CV T) := Gg.k x
def Fz : Codec T Fe := Codec.iso (Codec.pair (Codec.int (T := T) .i64) (Codec.int (T := T) .i64)) (fun (x : Fe) => (x.start, x.end_)) (fun y => ⟨y.1, y.2⟩) (fun _ => rfl)
abbrev Jh (x : Fe) : List (CV T) := Fz.k x
def Fq : Codec T Eu := Codec.iso (Codec.pair (Codec.int (T := T) .u16) (Codec.pair (Codec.int (T := T) .u16) (Codec.int (T := T) .u16))) (fun (x : Eu) => (x.Lo, (x.Hi, x.Stride))) (fun y => ⟨y.1, y.2.1, y.2.2⟩) (fun _ => rfl)
abbrev Is (x : Eu) : List (CV T) := Fq.k x
def Fo : Codec T Er := Codec.iso (Codec.pair (Codec.int (T := T) .u32) (Codec.pair (Codec.int (T := T) .u32) (Codec.int (T := T) .u32))) (fun (x : Er) => (x.Lo, (x.Hi, x.Stride))) (fun y => ⟨y.1, y.2.1, y.2.2⟩) (fun _ => rfl)
abbrev Ip (x : Er) : List (CV T) := Fo.k x
def F1 : Codec T Ez := Codec.iso (Codec.pair (Codec.sl (T := T) Tag.Em) (Codec.pair (Codec.sl (T := T) Tag.El) (Codec.int (T := T) .i64))) (fun (x : Ez) => (x.R16, (x.R32, x.LatinOffset))) (fun y => ⟨y.1, y.2.1, y.2.2⟩) (fun _ => rfl)
abbrev G6 (x : Ez) : List (CV T) := F1.k x
def Fy : Codec T Ey := Codec.iso (Codec.str (T := T)) (fun (x : Ey) => x.s) (fun y => ⟨y⟩) (fun _ => rfl)
abbrev G4 (x : Ey) : List (CV T) := Fy.k x
abbrev Ae (x : Aa) : List (CV T) := [.I x.Op, .str x.Name, .I x.Int, .str x.Text, .ro Tag.Ad x.Kids]
abbrev I4 (x : Fc) : List (CV T) := [.I x.at_]
abbrev Dp (x : Aw) : List (CV T) := [.I x.Kind, .I x.At, .str x.Text, .I x.Int]
abbrev Ac (x : Ab) : List (CV T) := [.ro Tag.Ax x.l, .I x.i]
abbrev Gx (x : Ev) : List (CV T) := [.ro Tag.Ax x.l, .I x.at_, .B x.bad]
abbrev Az (x : As) : List (CV T) := [.str x.src, .I x.at_]
abbrev Jr (x : Fe) : List (CV T) := [.I x.start, .I x.end_]
abbrev Ie (x : Eu) : List (CV T) := [.lit (.int .u16 x.Lo), .lit (.int .u16 x.Hi), .lit (.int .u16 x.Stride)]
abbrev Iq (x : Er) : List (CV T) := [.lit (.int .u32 x.Lo), .lit (.int .u32 x.Hi), .lit (.int .u32 x.Stride)]
abbrev G1 (x : Ez) : List (CV T) := [.ro Tag.Em x.R16, .ro Tag.El x.R32, .I x.LatinOffset]
abbrev G5 (x : Ey) : List (CV T) := [.str x.s]
def cod : (t : Tag) → Codec T (T t)
 | .Ad => Fu
 | .Ax => Gd
 | .C4 => (Codec.str (T := T))
 | .E1 => (Codec.int (T := T) .i64)
 | .Eo => (Codec.byte (T := T))
 | .E7 => Fz
 | .Em => Fq
 | .El => Fo
def dflt : (t : Tag) → T t
 | .Ad => Ai
 | .Ax => Fd
 | .C4 => ([] : List UInt8)
 | .E1 => (0 : Int)
 | .Eo => (0 : UInt8)
 | .E7 => Gp
 | .Em => F6
 | .El => F5
def E : Enc T where
 dec := inferInstance
 sz t := (cod t).sz
 szpos := by intro t; cases t <;> decide
 isAgg := fun | .Ad => true | .Ax => true | .C4 => false | .E1 => false | .Eo => false | .E7 => true | .Em => true | .El => true
 ty := fun | .Ad => 25 | .Ax => 54 | .C4 => 9 | .E1 => 3 | .Eo => 5 | .E7 => 113 | .Em => 132 | .El => 135
 k t x := (cod t).k x
 klen t x := (cod t).klen x
 un t cs := (cod t).un cs
 dflt := dflt
 ofTy := fun | 25 => some .Ad | 54 => some .Ax | 9 => some .C4 | 3 => some .E1 | 5 => some .Eo | 113 => some .E7 | 132 => some .Em | 135 => some .El | _ => none
def V : Env T := { E := E, isB := fun | .Eo => true | _ => false, toB := fun | .Eo => fun b => b | _ => fun _ => 0, ofB := fun | .Eo => fun b => b | t => fun _ => dflt t, glb := [(0, fun cs => cs = (Lib.asciiSpaceTab.map fun z => Value.int .u8 z).toArray), (2, fun cs => ∃ te pe, cs = #[.iface te pe]), (3, fun cs => ∃ te pe, cs = #[.iface te pe]), (5, fun cs => cs = (Lib.pow10Tab.map fun z => Value.int .u64 z).toArray)] }
theorem Kk : ∀ b, V.E.k Tag.Eo (V.ofB Tag.Eo b) = [.lit (.int .u8 b.toNat)] := fun _ => rfl
theorem I0 : ∀ x, ∀ c ∈ V.E.k Tag.Ax x, c.flat = true := by
 intro x c hc
 have hc : c ∈ ([.I x.Kind, .I x.At, .str x.Text, .I x.Int] : List (CV T)) := hc
 simp only [List.mem_cons, List.not_mem_nil, or_false] at hc
 rcases hc with rfl | rfl | rfl | rfl <;> rfl
theorem J3 : ∀ x, ∀ c ∈ V.E.k Tag.C4 x, c.flat = true := by
 intro x c hc
 have hc : c ∈ ([.str x] : List (CV T)) := hc
 simp only [List.mem_cons, List.not_mem_nil, or_false] at hc
 rcases hc with rfl <;> rfl
theorem Kx : ∀ x, ∀ c ∈ V.E.k Tag.E1 x, c.flat = true := by
 intro x c hc
 have hc : c ∈ ([.I x] : List (CV T)) := hc
 simp only [List.mem_cons, List.not_mem_nil, or_false] at hc
 rcases hc with rfl <;> rfl
theorem J5 : ∀ x, ∀ c ∈ V.E.k Tag.Eo x, c.flat = true := by
 intro x c hc
 have hc : c ∈ ([.lit (.int .u8 (x.toNat : Int))] : List (CV T)) := hc
 simp only [List.mem_cons, List.not_mem_nil, or_false] at hc
 rcases hc with rfl <;> rfl
theorem Hl : ∀ x, ∀ c ∈ V.E.k Tag.E7 x, c.flat = true := by
 intro x c hc
 have hc : c ∈ ([.I x.start, .I x.end_] : List (CV T)) := hc
 simp only [List.mem_cons, List.not_mem_nil, or_false] at hc
 rcases hc with rfl | rfl <;> rfl
theorem Gw : ∀ x, ∀ c ∈ V.E.k Tag.Em x, c.flat = true := by
 intro x c hc
 have hc : c ∈ ([.lit (.int .u16 x.Lo), .lit (.int .u16 x.Hi), .lit (.int .u16 x.Stride)] : List (CV T)) := hc
 simp only [List.mem_cons, List.not_mem_nil, or_false] at hc
 rcases hc with rfl | rfl | rfl <;> rfl
theorem G0 : ∀ x, ∀ c ∈ V.E.k Tag.El x, c.flat = true := by
 intro x c hc
 have hc : c ∈ ([.lit (.int .u32 x.Lo), .lit (.int .u32 x.Hi), .lit (.int .u32 x.Stride)] : List (CV T)) := hc
 simp only [List.mem_cons, List.not_mem_nil, or_false] at hc
 rcases hc with rfl | rfl | rfl <;> rfl
theorem L : V.E.Law V.isB V.toB where
 un t _ _ _ h hp j c hc := by
  obtain ⟨d, h1, h2⟩ := (cod t).un_ok h hp j c hc
  exact ⟨d, h1, fun w Z ρ v h => h2 _ w Z ρ v h⟩
 byte t x h := by cases t <;> first | rfl | cases h
noncomputable abbrev P : Program := Tryz.prog
theorem mixed : P.follows .mixedOrders = true := by kernel_rfl
end Go.Proofs.YtifjagfmfkemmaaGreatDoor
