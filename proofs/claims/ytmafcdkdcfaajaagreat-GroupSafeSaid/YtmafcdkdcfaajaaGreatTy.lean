/- The types of the program as Lean types. -/
import Derived.Test.YtmafcdkdcfaajaaGreatEngB
import Derived.Test.YtmafcdkdcfaajaaGreatProg
set_option linter.unusedVariables false
set_option maxHeartbeats 0
namespace Go.Proofs.YtmafcdkdcfaajaaGreat
open Eng
structure api_Entry where
 Epoch : Int
 Data : List UInt8
abbrev z_api_Entry : api_Entry := (⟨(0 : Int), ([] : List UInt8)⟩ : api_Entry)
structure api_Replica where
 Epoch : Int
 Vote : Int
 Commit : Int
 Log : List api_Entry
abbrev z_api_Replica : api_Replica := (⟨(0 : Int), (0 : Int), (0 : Int), ([] : List api_Entry)⟩ : api_Replica)
structure workflowref55_Group where
 Replicas : List api_Replica
 Up : List Bool
 Leader : Int
 Epoch : Int
abbrev z_workflowref55_Group : workflowref55_Group := (⟨([] : List api_Replica), ([] : List Bool), (0 : Int), (0 : Int)⟩ : workflowref55_Group)
structure workflowlaw55_Step where
 Kind : Int
 I : Int
 Epoch : Int
 Data : List UInt8
 Reach : List Int
abbrev z_workflowlaw55_Step : workflowlaw55_Step := (⟨(0 : Int), (0 : Int), (0 : Int), ([] : List UInt8), ([] : List Int)⟩ : workflowlaw55_Step)
structure group_Group where
 Replicas : List api_Replica
 Up : List Bool
 Leader : Int
 Epoch : Int
abbrev z_group_Group : group_Group := (⟨([] : List api_Replica), ([] : List Bool), (0 : Int), (0 : Int)⟩ : group_Group)
inductive Tag where
 | t_api_Replica
 | t_bool
 | t_uint8
 | t_int
 | t_workflowlaw55_Step
 | t_sl_uint8
 | t_api_Entry
 deriving DecidableEq
@[reducible] def T : Tag → Type
 | .t_api_Replica => api_Replica
 | .t_bool => Bool
 | .t_uint8 => UInt8
 | .t_int => Int
 | .t_workflowlaw55_Step => workflowlaw55_Step
 | .t_sl_uint8 => List UInt8
 | .t_api_Entry => api_Entry
def c_api_Entry : Codec T api_Entry := Codec.iso (Codec.pair (Codec.int (T := T) .i64) (Codec.sl (T := T) Tag.t_uint8)) (fun (x : api_Entry) => (x.Epoch, x.Data)) (fun y => ⟨y.1, y.2⟩) (fun _ => rfl)
abbrev k_api_Entry (x : api_Entry) : List (CV T) := c_api_Entry.k x
def c_api_Replica : Codec T api_Replica := Codec.iso (Codec.pair (Codec.int (T := T) .i64) (Codec.pair (Codec.int (T := T) .i64) (Codec.pair (Codec.int (T := T) .i64) (Codec.sl (T := T) Tag.t_api_Entry)))) (fun (x : api_Replica) => (x.Epoch, (x.Vote, (x.Commit, x.Log)))) (fun y => ⟨y.1, y.2.1, y.2.2.1, y.2.2.2⟩) (fun _ => rfl)
abbrev k_api_Replica (x : api_Replica) : List (CV T) := c_api_Replica.k x
def c_workflowref55_Group : Codec T workflowref55_Group := Codec.iso (Codec.pair (Codec.sl (T := T) Tag.t_api_Replica) (Codec.pair (Codec.sl (T := T) Tag.t_bool) (Codec.pair (Codec.int (T := T) .i64) (Codec.int (T := T) .i64)))) (fun (x : workflowref55_Group) => (x.Replicas, (x.Up, (x.Leader, x.Epoch)))) (fun y => ⟨y.1, y.2.1, y.2.2.1, y.2.2.2⟩) (fun _ => rfl)
abbrev k_workflowref55_Group (x : workflowref55_Group) : List (CV T) := c_workflowref55_Group.k x
def c_workflowlaw55_Step : Codec T workflowlaw55_Step := Codec.iso (Codec.pair (Codec.int (T := T) .i64) (Codec.pair (Codec.int (T := T) .i64) (Codec.pair (Codec.int (T := T) .i64) (Codec.pair (Codec.sl (T := T) Tag.t_uint8) (Codec.sl (T := T) Tag.t_int))))) (fun (x : workflowlaw55_Step) => (x.Kind, (x.I, (x.Epoch, (x.Data, x.Reach))))) (fun y => ⟨y.1, y.2.1, y.2.2.1, y.2.2.2.1, y.2.2.2.2⟩) (fun _ => rfl)
abbrev k_workflowlaw55_Step (x : workflowlaw55_Step) : List (CV T) := c_workflowlaw55_Step.k x
def c_group_Group : Codec T group_Group := Codec.iso (Codec.pair (Codec.sl (T := T) Tag.t_api_Replica) (Codec.pair (Codec.sl (T := T) Tag.t_bool) (Codec.pair (Codec.int (T := T) .i64) (Codec.int (T := T) .i64)))) (fun (x : group_Group) => (x.Replicas, (x.Up, (x.Leader, x.Epoch)))) (fun y => ⟨y.1, y.2.1, y.2.2.1, y.2.2.2⟩) (fun _ => rfl)
abbrev k_group_Group (x : group_Group) : List (CV T) := c_group_Group.k x
abbrev d_api_Entry (x : api_Entry) : List (CV T) := [.I x.Epoch, .ro Tag.t_uint8 x.Data]
abbrev d_api_Replica (x : api_Replica) : List (CV T) := [.I x.Epoch, .I x.Vote, .I x.Commit, .ro Tag.t_api_Entry x.Log]
abbrev d_workflowref55_Group (x : workflowref55_Group) : List (CV T) := [.ro Tag.t_api_Replica x.Replicas, .ro Tag.t_bool x.Up, .I x.Leader, .I x.Epoch]
abbrev d_workflowlaw55_Step (x : workflowlaw55_Step) : List (CV T) := [.I x.Kind, .I x.I, .I x.Epoch, .ro Tag.t_uint8 x.Data, .ro Tag.t_int x.Reach]
abbrev d_group_Group (x : group_Group) : List (CV T) := [.ro Tag.t_api_Replica x.Replicas, .ro Tag.t_bool x.Up, .I x.Leader, .I x.Epoch]
def cod : (t : Tag) → Codec T (T t)
 | .t_api_Replica => c_api_Replica
 | .t_bool => (Codec.bool (T := T))
 | .t_uint8 => (Codec.byte (T := T))
 | .t_int => (Codec.int (T := T) .i64)
 | .t_workflowlaw55_Step => c_workflowlaw55_Step
 | .t_sl_uint8 => (Codec.sl (T := T) Tag.t_uint8)
 | .t_api_Entry => c_api_Entry
def dflt : (t : Tag) → T t
 | .t_api_Replica => z_api_Replica
 | .t_bool => false
 | .t_uint8 => (0 : UInt8)
 | .t_int => (0 : Int)
 | .t_workflowlaw55_Step => z_workflowlaw55_Step
 | .t_sl_uint8 => ([] : List UInt8)
 | .t_api_Entry => z_api_Entry
def E : Enc T where
 dec := inferInstance
 sz t := (cod t).sz
 szpos := by intro t; cases t <;> decide
 isAgg := fun | .t_api_Replica => true | .t_bool => false | .t_uint8 => false | .t_int => false | .t_workflowlaw55_Step => true | .t_sl_uint8 => false | .t_api_Entry => true
 ty := fun | .t_api_Replica => 52 | .t_bool => 4 | .t_uint8 => 5 | .t_int => 3 | .t_workflowlaw55_Step => 29 | .t_sl_uint8 => 26 | .t_api_Entry => 74
 k t x := (cod t).k x
 klen t x := (cod t).klen x
 un t cs := (cod t).un cs
 dflt := dflt
 ofTy := fun | 52 => some .t_api_Replica | 4 => some .t_bool | 5 => some .t_uint8 | 3 => some .t_int | 29 => some .t_workflowlaw55_Step | 26 => some .t_sl_uint8 | 74 => some .t_api_Entry | _ => none
def V : Env T := { E := E, isB := fun | .t_uint8 => true | _ => false, toB := fun | .t_uint8 => fun b => b | _ => fun _ => 0 }
theorem flat_t_bool : ∀ x, ∀ c ∈ V.E.k Tag.t_bool x, c.flat = true := by
 intro x c hc
 have hc : c ∈ ([.B x] : List (CV T)) := hc
 simp only [List.mem_cons, List.not_mem_nil, or_false] at hc
 rcases hc with rfl <;> rfl
theorem flat_t_uint8 : ∀ x, ∀ c ∈ V.E.k Tag.t_uint8 x, c.flat = true := by
 intro x c hc
 have hc : c ∈ ([.lit (.int .u8 (x.toNat : Int))] : List (CV T)) := hc
 simp only [List.mem_cons, List.not_mem_nil, or_false] at hc
 rcases hc with rfl <;> rfl
theorem flat_t_int : ∀ x, ∀ c ∈ V.E.k Tag.t_int x, c.flat = true := by
 intro x c hc
 have hc : c ∈ ([.I x] : List (CV T)) := hc
 simp only [List.mem_cons, List.not_mem_nil, or_false] at hc
 rcases hc with rfl <;> rfl
theorem L : V.E.Law V.isB V.toB where
 un t _ _ _ h hp j c hc := by
  obtain ⟨d, h1, h2⟩ := (cod t).un_ok h hp j c hc
  exact ⟨d, h1, fun w Z ρ v h => h2 _ w Z ρ v h⟩
 byte t x h := by cases t <;> first | rfl | cases h
noncomputable abbrev P : Program := Tryz.prog
theorem mixed : P.follows .mixedOrders = true := by kernel_rfl
end Go.Proofs.YtmafcdkdcfaajaaGreat
