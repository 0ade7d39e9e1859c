/- The types of the program as Lean types. -/
import Derived.Test.YtjkfadlomchpjaaEngB
import Derived.Test.YtjkfadlomchpjaaProg
set_option linter.unusedVariables false
namespace Go.Proofs.Ytjkfadlomchpjaa
open Eng

structure api_Entry where
  Epoch : Int
  Data : List UInt8

structure api_Replica where
  Epoch : Int
  Vote : Int
  Commit : Int
  Log : List api_Entry

inductive Tag where
  | t_int
  | t_api_Entry
  | t_uint8
  deriving DecidableEq

@[reducible] def T : Tag → Type
  | .t_int => Int
  | .t_api_Entry => api_Entry
  | .t_uint8 => UInt8

def c_api_Entry : Codec T api_Entry := Codec.iso (Codec.pair (Codec.int (T := T) .i64) (Codec.sl (T := T) Tag.t_uint8)) (fun (x : api_Entry) => (x.Epoch, x.Data)) (fun y => ⟨y.1, y.2⟩) (fun _ => rfl)
abbrev k_api_Entry (x : api_Entry) : List (CV T) := c_api_Entry.k x

def c_api_Replica : Codec T api_Replica := Codec.iso (Codec.pair (Codec.int (T := T) .i64) (Codec.pair (Codec.int (T := T) .i64) (Codec.pair (Codec.int (T := T) .i64) (Codec.sl (T := T) Tag.t_api_Entry)))) (fun (x : api_Replica) => (x.Epoch, (x.Vote, (x.Commit, x.Log)))) (fun y => ⟨y.1, y.2.1, y.2.2.1, y.2.2.2⟩) (fun _ => rfl)
abbrev k_api_Replica (x : api_Replica) : List (CV T) := c_api_Replica.k x

def cod : (t : Tag) → Codec T (T t)
  | .t_int => (Codec.int (T := T) .i64)
  | .t_api_Entry => c_api_Entry
  | .t_uint8 => (Codec.byte (T := T))

def dflt : (t : Tag) → T t
  | .t_int => (0 : Int)
  | .t_api_Entry => (⟨(0 : Int), ([] : List UInt8)⟩ : api_Entry)
  | .t_uint8 => (0 : UInt8)

def E : Enc T where
  dec := inferInstance
  sz t := (cod t).sz
  szpos := by intro t; cases t <;> decide
  isAgg := fun | .t_int => false | .t_api_Entry => true | .t_uint8 => false
  ty := fun | .t_int => 3 | .t_api_Entry => 34 | .t_uint8 => 5
  k t x := (cod t).k x
  klen t x := (cod t).klen x
  un t cs := (cod t).un cs
  dflt := dflt
  ofTy := fun | 3 => some .t_int | 34 => some .t_api_Entry | 5 => some .t_uint8 | _ => none

def V : Env T := { E := E, isB := fun | .t_uint8 => true | _ => false, toB := fun | .t_uint8 => fun b => b | _ => fun _ => 0 }

theorem L : V.E.Law V.isB V.toB where
  un t _ _ _ h hp j c hc := by
    obtain ⟨d, h1, h2⟩ := (cod t).un_ok h hp j c hc
    exact ⟨d, h1, fun w Z ρ v h => h2 _ w Z ρ v h⟩
  byte t x h := by cases t <;> first | rfl | cases h

noncomputable abbrev P : Program := Try.prog
theorem mixed : P.follows .mixedOrders = true := by kernel_rfl

end Go.Proofs.Ytjkfadlomchpjaa
