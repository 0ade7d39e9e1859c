/- The types of the program as Lean types. -/
import Derived.Test.YtkcaccppmenfmaaEngB
import Derived.Test.YtkcaccppmenfmaaProg
set_option linter.unusedVariables false
namespace Go.Proofs.Ytkcaccppmenfmaa
open Eng

structure api_Entry where
  Epoch : Int
  Data : List UInt8

structure api_Replica where
  Epoch : Int
  Vote : Int
  Commit : Int
  Log : List api_Entry

structure workflowlaw52_Append where
  Epoch : Int
  Prev : Int
  PrevEpoch : Int
  Entries : List api_Entry
  Commit : Int

structure workflowlaw54_Plea where
  Epoch : Int
  Candidate : Int
  Index : Int
  Last : Int

inductive Tag where
  | t_api_Entry
  | t_workflowlaw52_Append
  | t_uint8
  | t_sl_uint8
  | t_workflowlaw54_Plea
  | t_int
  | t_sl_api_Entry
  deriving DecidableEq

@[reducible] def T : Tag → Type
  | .t_api_Entry => api_Entry
  | .t_workflowlaw52_Append => workflowlaw52_Append
  | .t_uint8 => UInt8
  | .t_sl_uint8 => List UInt8
  | .t_workflowlaw54_Plea => workflowlaw54_Plea
  | .t_int => Int
  | .t_sl_api_Entry => List api_Entry

def c_api_Entry : Codec T api_Entry := Codec.iso (Codec.pair (Codec.int (T := T) .i64) (Codec.sl (T := T) Tag.t_uint8)) (fun (x : api_Entry) => (x.Epoch, x.Data)) (fun y => ⟨y.1, y.2⟩) (fun _ => rfl)
abbrev k_api_Entry (x : api_Entry) : List (CV T) := c_api_Entry.k x

def c_api_Replica : Codec T api_Replica := Codec.iso (Codec.pair (Codec.int (T := T) .i64) (Codec.pair (Codec.int (T := T) .i64) (Codec.pair (Codec.int (T := T) .i64) (Codec.sl (T := T) Tag.t_api_Entry)))) (fun (x : api_Replica) => (x.Epoch, (x.Vote, (x.Commit, x.Log)))) (fun y => ⟨y.1, y.2.1, y.2.2.1, y.2.2.2⟩) (fun _ => rfl)
abbrev k_api_Replica (x : api_Replica) : List (CV T) := c_api_Replica.k x

def c_workflowlaw52_Append : Codec T workflowlaw52_Append := Codec.iso (Codec.pair (Codec.int (T := T) .i64) (Codec.pair (Codec.int (T := T) .i64) (Codec.pair (Codec.int (T := T) .i64) (Codec.pair (Codec.sl (T := T) Tag.t_api_Entry) (Codec.int (T := T) .i64))))) (fun (x : workflowlaw52_Append) => (x.Epoch, (x.Prev, (x.PrevEpoch, (x.Entries, x.Commit))))) (fun y => ⟨y.1, y.2.1, y.2.2.1, y.2.2.2.1, y.2.2.2.2⟩) (fun _ => rfl)
abbrev k_workflowlaw52_Append (x : workflowlaw52_Append) : List (CV T) := c_workflowlaw52_Append.k x

def c_workflowlaw54_Plea : Codec T workflowlaw54_Plea := Codec.iso (Codec.pair (Codec.int (T := T) .i64) (Codec.pair (Codec.int (T := T) .i64) (Codec.pair (Codec.int (T := T) .i64) (Codec.int (T := T) .i64)))) (fun (x : workflowlaw54_Plea) => (x.Epoch, (x.Candidate, (x.Index, x.Last)))) (fun y => ⟨y.1, y.2.1, y.2.2.1, y.2.2.2⟩) (fun _ => rfl)
abbrev k_workflowlaw54_Plea (x : workflowlaw54_Plea) : List (CV T) := c_workflowlaw54_Plea.k x

def cod : (t : Tag) → Codec T (T t)
  | .t_api_Entry => c_api_Entry
  | .t_workflowlaw52_Append => c_workflowlaw52_Append
  | .t_uint8 => (Codec.byte (T := T))
  | .t_sl_uint8 => (Codec.sl (T := T) Tag.t_uint8)
  | .t_workflowlaw54_Plea => c_workflowlaw54_Plea
  | .t_int => (Codec.int (T := T) .i64)
  | .t_sl_api_Entry => (Codec.sl (T := T) Tag.t_api_Entry)

def dflt : (t : Tag) → T t
  | .t_api_Entry => (⟨(0 : Int), ([] : List UInt8)⟩ : api_Entry)
  | .t_workflowlaw52_Append => (⟨(0 : Int), (0 : Int), (0 : Int), ([] : List api_Entry), (0 : Int)⟩ : workflowlaw52_Append)
  | .t_uint8 => (0 : UInt8)
  | .t_sl_uint8 => ([] : List UInt8)
  | .t_workflowlaw54_Plea => (⟨(0 : Int), (0 : Int), (0 : Int), (0 : Int)⟩ : workflowlaw54_Plea)
  | .t_int => (0 : Int)
  | .t_sl_api_Entry => ([] : List api_Entry)

def E : Enc T where
  dec := inferInstance
  sz t := (cod t).sz
  szpos := by intro t; cases t <;> decide
  isAgg := fun | .t_api_Entry => true | .t_workflowlaw52_Append => true | .t_uint8 => false | .t_sl_uint8 => false | .t_workflowlaw54_Plea => true | .t_int => false | .t_sl_api_Entry => false
  ty := fun | .t_api_Entry => 39 | .t_workflowlaw52_Append => 26 | .t_uint8 => 5 | .t_sl_uint8 => 37 | .t_workflowlaw54_Plea => 59 | .t_int => 3 | .t_sl_api_Entry => 22
  k t x := (cod t).k x
  klen t x := (cod t).klen x
  un t cs := (cod t).un cs
  dflt := dflt
  ofTy := fun | 39 => some .t_api_Entry | 26 => some .t_workflowlaw52_Append | 5 => some .t_uint8 | 37 => some .t_sl_uint8 | 59 => some .t_workflowlaw54_Plea | 3 => some .t_int | 22 => some .t_sl_api_Entry | _ => none

def V : Env T := { E := E, isB := fun | .t_uint8 => true | _ => false, toB := fun | .t_uint8 => fun b => b | _ => fun _ => 0 }

theorem L : V.E.Law V.isB V.toB where
  un t _ _ _ h hp j c hc := by
    obtain ⟨d, h1, h2⟩ := (cod t).un_ok h hp j c hc
    exact ⟨d, h1, fun w Z ρ v h => h2 _ w Z ρ v h⟩
  byte t x h := by cases t <;> first | rfl | cases h

noncomputable abbrev P : Program := Try.prog
theorem mixed : P.follows .mixedOrders = true := by kernel_rfl

end Go.Proofs.Ytkcaccppmenfmaa
