/- The types of the program as Lean types. -/
import Derived.Test.YtifjagfmfkemmaaGreatDoorEngD
import Derived.Test.YtifjagfmfkemmaaGreatDoorProg
import Derived.Lib.Space
import Derived.Lib.ItoaNum
set_option linter.unusedVariables false
set_option maxHeartbeats 0
namespace Go.Proofs.YtifjagfmfkemmaaGreatDoor
open Eng
structure Aa where
 Op : Int
 Name : List UInt8
 Int : Int
 Text : List UInt8
 Kids : List Aa
abbrev Ay : Aa := (⟨(0 : Int), ([] : List UInt8), (0 : Int), ([] : List UInt8), ([] : List Aa)⟩ : Aa)
structure Fl where
 at_ : Int
abbrev Hn : Fl := (⟨(0 : Int)⟩ : Fl)
structure As where
 Kind : Int
 At : Int
 Text : List UInt8
 Int : Int
abbrev D2 : As := (⟨(0 : Int), (0 : Int), ([] : List UInt8), (0 : Int)⟩ : As)
structure Ab where
 l : List As
 i : Int
abbrev Hp : Ab := (⟨([] : List As), (0 : Int)⟩ : Ab)
structure Ad where
 l : List As
 at_ : Int
 bad : Bool
abbrev Gm : Ad := (⟨([] : List As), (0 : Int), false⟩ : Ad)
structure Ax where
 src : List UInt8
 at_ : Int
abbrev Hr : Ax := (⟨([] : List UInt8), (0 : Int)⟩ : Ax)
structure Fm where
 start : Int
 end_ : Int
abbrev Ge : Fm := (⟨(0 : Int), (0 : Int)⟩ : Fm)
structure E5 where
 Lo : Int
 Hi : Int
 Stride : Int
abbrev F4 : E5 := (⟨(0 : Int), (0 : Int), (0 : Int)⟩ : E5)
structure E6 where
 Lo : Int
 Hi : Int
 Stride : Int
abbrev F6 : E6 := (⟨(0 : Int), (0 : Int), (0 : Int)⟩ : E6)
structure Fc where
 R16 : List E5
 R32 : List E6
 LatinOffset : Int
abbrev Gs : Fc := (⟨([] : List E5), ([] : List E6), (0 : Int)⟩ : Fc)
structure Fd where
 s : List UInt8
abbrev G0 : Fd := (⟨([] : List UInt8)⟩ : Fd)
inductive Tag where
 | Ae
 | Am
 | Dg
 | E7
 | E3
 | Fi
 | Ez
 | Ey
 deriving DecidableEq
@[reducible] def T : Tag → Type
 | .Ae => Aa
 | .Am => As
 | .Dg => List UInt8
 | .E7 => Int
 | .E3 => UInt8
 | .Fi => Fm
 | .Ez => E5
 | .Ey => E6
def Fx : Codec T Aa := Codec.iso (Codec.pair (Codec.int (T := T) .i64) (Codec.pair (Codec.str (T := T)) (Codec.pair (Codec.int (T := T) .i64) (Codec.pair (Codec.str (T := T)) (Codec.sl (T := T) Tag.Ae))))) (fun (x : Aa) => (x.Op, (x.Name, (x.Int, (x.Text, x.Kids))))) (fun y => ⟨y.1, y.2.1, y.2.2.1, y.2.2.2.1, y.2.2.2.2⟩) (fun _ => rfl)
abbrev Il (x : Aa) : List (CV T) := Fx.k x
def F7 : Codec T Fl := Codec.iso (Codec.int (T := T) .i64) (fun (x : Fl) => x.at_) (fun y => ⟨y⟩) (fun _ => rfl)
abbrev Hk (x : Fl) : List (CV T) := F7.k x
def F9 : Codec T As := Codec.iso (Codec.pair (Codec.int (T := T) .i64) (Codec.pair (Codec.int (T := T) .i64) (Codec.pair (Codec.str (T := T)) (Codec.int (T := T) .i64)))) (fun (x : As) => (x.Kind, (x.At, (x.Text, x.Int)))) (fun y => ⟨y.1, y.2.1, y.2.2.1, y.2.2.2⟩) (fun _ => rfl)
abbrev Id (x : As) : List (CV T) := F9.k x
def Gb : Codec T Ab := Codec.iso (Codec.pair (Codec.sl (T := T) Tag.Am) (Codec.int (T := T) .i64)) (fun (x : Ab) => (x.l, x.i)) (fun y => ⟨y.1, y.2⟩) (fun _ => rfl)
abbrev Ht (x : Ab) : List (CV T) := Gb.k x
def Fw : Codec T Ad := Codec.iso (Codec.pair (Codec.sl (T := T) Tag.Am) (Codec.pair (Codec.int (T := T) .i64) (Codec.bool (T := T)))) (fun (x : Ad) => (x.l, (x.at_, x.bad))) (fun y => ⟨y.1, y.2.1, y.2.2⟩) (fun _ => rfl)
abbrev Gl (x : Ad) : List (CV T) := Fw.k x
def Gc : Codec T Ax := Codec.iso (Codec.pair (Codec.str (T := T)) (Codec.int (T := T) .i64)) (fun (x : Ax) => (x.src, x.at_)) (fun y => ⟨y.1, y.2⟩) (fun _ => rfl)
abbrev Hq (x : Ax) : List (CV T) := Gc.k x
def F0 : Codec T Fm := Codec.iso (Codec.pair (Codec.int (T := T) .i64) (Codec.int (T := T) .i64)) (fun (x : Fm) => (x.start, x.end_)) (fun y => ⟨y.1, y.2⟩) (fun _ => rfl)
abbrev H2 (x : Fm) : List (CV T) := F0.k x
def Fu : Codec T E5 := Codec.iso (Codec.pair (Codec.int (T := T) .u16) (Codec.pair (Codec.int (T := T) .u16) (Codec.int (T := T) .u16))) (fun (x : E5) => (x.Lo, (x.Hi, x.Stride))) (fun y => ⟨y.1, y.2.1, y.2.2⟩) (fun _ => rfl)
abbrev Hb (x : E5) : List (CV T) := Fu.k x
def Ft : Codec T E6 := Codec.iso (Codec.pair (Codec.int (T := T) .u32) (Codec.pair (Codec.int (T := T) .u32) (Codec.int (T := T) .u32))) (fun (x : E6) => (x.Lo, (x.Hi, x.Stride))) (fun y => ⟨y.1, y.2.1, y.2.2⟩) (fun _ => rfl)
abbrev Hd (x : E6) : List (CV T) := Ft.k x
def Fz : Codec T Fc := Codec.iso (Codec.pair (Codec.sl (T := T) Tag.Ez) (Codec.pair (Codec.sl (T := T) Tag.Ey) (Codec.int (T := T) .i64))) (fun (x : Fc) => (x.R16, (x.R32, x.LatinOffset))) (fun y => ⟨y.1, y.2.1, y.2.2⟩) (fun _ => rfl)
abbrev Gq (x : Fc) : List (CV T) := Fz.k x
def Fy : Codec T Fd := Codec.iso (Codec.str (T := T)) (fun (x : Fd) => x.s) (fun y => ⟨y⟩) (fun _ => rfl)
abbrev Gx (x : Fd) : List (CV T) := Fy.k x
abbrev Ag (x : Aa) : List (CV T) := [.I x.Op, .str x.Name, .I x.Int, .str x.Text, .ro Tag.Ae x.Kids]
abbrev Hl (x : Fl) : List (CV T) := [.I x.at_]
abbrev Ea (x : As) : List (CV T) := [.I x.Kind, .I x.At, .str x.Text, .I x.Int]
abbrev Af (x : Ab) : List (CV T) := [.ro Tag.Am x.l, .I x.i]
abbrev Ac (x : Ad) : List (CV T) := [.ro Tag.Am x.l, .I x.at_, .B x.bad]
abbrev A6 (x : Ax) : List (CV T) := [.str x.src, .I x.at_]
abbrev Hz (x : Fm) : List (CV T) := [.I x.start, .I x.end_]
abbrev Hc (x : E5) : List (CV T) := [.lit (.int .u16 x.Lo), .lit (.int .u16 x.Hi), .lit (.int .u16 x.Stride)]
abbrev He (x : E6) : List (CV T) := [.lit (.int .u32 x.Lo), .lit (.int .u32 x.Hi), .lit (.int .u32 x.Stride)]
abbrev Gz (x : Fc) : List (CV T) := [.ro Tag.Ez x.R16, .ro Tag.Ey x.R32, .I x.LatinOffset]
abbrev G1 (x : Fd) : List (CV T) := [.str x.s]
def cod : (t : Tag) → Codec T (T t)
 | .Ae => Fx
 | .Am => F9
 | .Dg => (Codec.str (T := T))
 | .E7 => (Codec.int (T := T) .i64)
 | .E3 => (Codec.byte (T := T))
 | .Fi => F0
 | .Ez => Fu
 | .Ey => Ft
def dflt : (t : Tag) → T t
 | .Ae => Ay
 | .Am => D2
 | .Dg => ([] : List UInt8)
 | .E7 => (0 : Int)
 | .E3 => (0 : UInt8)
 | .Fi => Ge
 | .Ez => F4
 | .Ey => F6
def E : Enc T where
 dec := inferInstance
 sz t := (cod t).sz
 szpos := by intro t; cases t <;> decide
 isAgg := fun | .Ae => true | .Am => true | .Dg => false | .E7 => false | .E3 => false | .Fi => true | .Ez => true | .Ey => true
 ty := fun | .Ae => 25 | .Am => 54 | .Dg => 9 | .E7 => 3 | .E3 => 5 | .Fi => 113 | .Ez => 132 | .Ey => 135
 k t x := (cod t).k x
 klen t x := (cod t).klen x
 un t cs := (cod t).un cs
 dflt := dflt
 ofTy := fun | 25 => some .Ae | 54 => some .Am | 9 => some .Dg | 3 => some .E7 | 5 => some .E3 | 113 => some .Fi | 132 => some .Ez | 135 => some .Ey | _ => none
def V : Env T := { E := E, isB := fun | .E3 => true | _ => false, toB := fun | .E3 => fun b => b | _ => fun _ => 0, ofB := fun | .E3 => fun b => b | t => fun _ => dflt t, glb := [(0, fun cs => cs = (Lib.asciiSpaceTab.map fun z => Value.int .u8 z).toArray), (2, fun cs => ∃ te pe, cs = #[.iface te pe]), (3, fun cs => ∃ te pe, cs = #[.iface te pe]), (5, fun cs => cs = (Lib.pow10Tab.map fun z => Value.int .u64 z).toArray)] }
theorem Ic : ∀ b, V.E.k Tag.E3 (V.ofB Tag.E3 b) = [.lit (.int .u8 b.toNat)] := fun _ => rfl
theorem Ho : ∀ x, ∀ c ∈ V.E.k Tag.Am x, c.flat = true := by
 intro x c hc
 have hc : c ∈ ([.I x.Kind, .I x.At, .str x.Text, .I x.Int] : List (CV T)) := hc
 simp only [List.mem_cons, List.not_mem_nil, or_false] at hc
 rcases hc with rfl | rfl | rfl | rfl <;> rfl
theorem H9 : ∀ x, ∀ c ∈ V.E.k Tag.Dg x, c.flat = true := by
 intro x c hc
 have hc : c ∈ ([.str x] : List (CV T)) := hc
 simp only [List.mem_cons, List.not_mem_nil, or_false] at hc
 rcases hc with rfl <;> rfl
theorem Im : ∀ x, ∀ c ∈ V.E.k Tag.E7 x, c.flat = true := by
 intro x c hc
 have hc : c ∈ ([.I x] : List (CV T)) := hc
 simp only [List.mem_cons, List.not_mem_nil, or_false] at hc
 rcases hc with rfl <;> rfl
theorem Ia : ∀ x, ∀ c ∈ V.E.k Tag.E3 x, c.flat = true := by
 intro x c hc
 have hc : c ∈ ([.lit (.int .u8 (x.toNat : Int))] : List (CV T)) := hc
 simp only [List.mem_cons, List.not_mem_nil, or_false] at hc
 rcases hc with rfl <;> rfl
theorem G2 : ∀ x, ∀ c ∈ V.E.k Tag.Fi x, c.flat = true := by
 intro x c hc
 have hc : c ∈ ([.I x.start, .I x.end_] : List (CV T)) := hc
 simp only [List.mem_cons, List.not_mem_nil, or_false] at hc
 rcases hc with rfl | rfl <;> rfl
theorem Gk : ∀ x, ∀ c ∈ V.E.k Tag.Ez x, c.flat = true := by
 intro x c hc
 have hc : c ∈ ([.lit (.int .u16 x.Lo), .lit (.int .u16 x.Hi), .lit (.int .u16 x.Stride)] : List (CV T)) := hc
 simp only [List.mem_cons, List.not_mem_nil, or_false] at hc
 rcases hc with rfl | rfl | rfl <;> rfl
theorem Gp : ∀ x, ∀ c ∈ V.E.k Tag.Ey x, c.flat = true := by
 intro x c hc
 have hc : c ∈ ([.lit (.int .u32 x.Lo), .lit (.int .u32 x.Hi), .lit (.int .u32 x.Stride)] : List (CV T)) := hc
 simp only [List.mem_cons, List.not_mem_nil, or_false] at hc
 rcases hc with rfl | rfl | rfl <;> rfl
theorem L : V.E.Law V.isB V.toB where
 un t _ _ _ h hp j c hc := by
  obtain ⟨d, h1, h2⟩ := (cod t).un_ok h hp j c hc
  exact ⟨d, h1, fun w Z ρ v h => h2 _ w Z ρ v h⟩
 byte t x h := by cases t <;> first | rfl | cases h
noncomputable abbrev P : Program := Tryz.prog
theorem mixed : P.follows .mixedOrders = true := by kernel_rfl
end Go.Proofs.YtifjagfmfkemmaaGreatDoor
