/- The types of the program as Lean types. -/
import Derived.Test.YtmafcdkdcfaajaaGreatEngB
import Derived.Test.YtmafcdkdcfaajaaGreatProg
set_option linter.unusedVariables false
set_option maxHeartbeats 0
namespace Go.Proofs.YtmafcdkdcfaajaaGreat
open Eng
structure aEnt where
 Epoch : Int
 Data : List UInt8
abbrev z_aEnt : aEnt := (⟨(0 : Int), ([] : List UInt8)⟩ : aEnt)
structure aRep where
 Epoch : Int
 Vote : Int
 Commit : Int
 Log : List aEnt
abbrev z_aRep : aRep := (⟨(0 : Int), (0 : Int), (0 : Int), ([] : List aEnt)⟩ : aRep)
structure wr55_Group where
 Replicas : List aRep
 Up : List Bool
 Leader : Int
 Epoch : Int
abbrev z_wr55_Group : wr55_Group := (⟨([] : List aRep), ([] : List Bool), (0 : Int), (0 : Int)⟩ : wr55_Group)
structure wl55_Step where
 Kind : Int
 I : Int
 Epoch : Int
 Data : List UInt8
 Reach : List Int
abbrev z_wl55_Step : wl55_Step := (⟨(0 : Int), (0 : Int), (0 : Int), ([] : List UInt8), ([] : List Int)⟩ : wl55_Step)
structure group_Group where
 Replicas : List aRep
 Up : List Bool
 Leader : Int
 Epoch : Int
abbrev z_group_Group : group_Group := (⟨([] : List aRep), ([] : List Bool), (0 : Int), (0 : Int)⟩ : group_Group)
inductive Tag where
 | t_aRep
 | t_bool
 | t_uint8
 | t_int
 | t_wl55_Step
 | t_sl_uint8
 | t_aEnt
 deriving DecidableEq
@[reducible] def T : Tag → Type
 | .t_aRep => aRep
 | .t_bool => Bool
 | .t_uint8 => UInt8
 | .t_int => Int
 | .t_wl55_Step => wl55_Step
 | .t_sl_uint8 => List UInt8
 | .t_aEnt => aEnt
def c_aEnt : Codec T aEnt := Codec.iso (Codec.pair (Codec.int (T := T) .i64) (Codec.sl (T := T) Tag.t_uint8)) (fun (x : aEnt) => (x.Epoch, x.Data)) (fun y => ⟨y.1, y.2⟩) (fun _ => rfl)
abbrev k_aEnt (x : aEnt) : List (CV T) := c_aEnt.k x
def c_aRep : Codec T aRep := Codec.iso (Codec.pair (Codec.int (T := T) .i64) (Codec.pair (Codec.int (T := T) .i64) (Codec.pair (Codec.int (T := T) .i64) (Codec.sl (T := T) Tag.t_aEnt)))) (fun (x : aRep) => (x.Epoch, (x.Vote, (x.Commit, x.Log)))) (fun y => ⟨y.1, y.2.1, y.2.2.1, y.2.2.2⟩) (fun _ => rfl)
abbrev k_aRep (x : aRep) : List (CV T) := c_aRep.k x
def c_wr55_Group : Codec T wr55_Group := Codec.iso (Codec.pair (Codec.sl (T := T) Tag.t_aRep) (Codec.pair (Codec.sl (T := T) Tag.t_bool) (Codec.pair (Codec.int (T := T) .i64) (Codec.int (T := T) .i64)))) (fun (x : wr55_Group) => (x.Replicas, (x.Up, (x.Leader, x.Epoch)))) (fun y => ⟨y.1, y.2.1, y.2.2.1, y.2.2.2⟩) (fun _ => rfl)
abbrev k_wr55_Group (x : wr55_Group) : List (CV T) := c_wr55_Group.k x
def c_wl55_Step : Codec T wl55_Step := Codec.iso (Codec.pair (Codec.int (T := T) .i64) (Codec.pair (Codec.int (T := T) .i64) (Codec.pair (Codec.int (T := T) .i64) (Codec.pair (Codec.sl (T := T) Tag.t_uint8) (Codec.sl (T := T) Tag.t_int))))) (fun (x : wl55_Step) => (x.Kind, (x.I, (x.Epoch, (x.Data, x.Reach))))) (fun y => ⟨y.1, y.2.1, y.2.2.1, y.2.2.2.1, y.2.2.2.2⟩) (fun _ => rfl)
abbrev k_wl55_Step (x : wl55_Step) : List (CV T) := c_wl55_Step.k x
def c_group_Group : Codec T group_Group := Codec.iso (Codec.pair (Codec.sl (T := T) Tag.t_aRep) (Codec.pair (Codec.sl (T := T) Tag.t_bool) (Codec.pair (Codec.int (T := T) .i64) (Codec.int (T := T) .i64)))) (fun (x : group_Group) => (x.Replicas, (x.Up, (x.Leader, x.Epoch)))) (fun y => ⟨y.1, y.2.1, y.2.2.1, y.2.2.2⟩) (fun _ => rfl)
abbrev k_group_Group (x : group_Group) : List (CV T) := c_group_Group.k x
abbrev d_aEnt (x : aEnt) : List (CV T) := [.I x.Epoch, .ro Tag.t_uint8 x.Data]
abbrev d_aRep (x : aRep) : List (CV T) := [.I x.Epoch, .I x.Vote, .I x.Commit, .ro Tag.t_aEnt x.Log]
abbrev d_wr55_Group (x : wr55_Group) : List (CV T) := [.ro Tag.t_aRep x.Replicas, .ro Tag.t_bool x.Up, .I x.Leader, .I x.Epoch]
abbrev d_wl55_Step (x : wl55_Step) : List (CV T) := [.I x.Kind, .I x.I, .I x.Epoch, .ro Tag.t_uint8 x.Data, .ro Tag.t_int x.Reach]
abbrev d_group_Group (x : group_Group) : List (CV T) := [.ro Tag.t_aRep x.Replicas, .ro Tag.t_bool x.Up, .I x.Leader, .I x.Epoch]
def cod : (t : Tag) → Codec T (T t)
 | .t_aRep => c_aRep
 | .t_bool => (Codec.bool (T := T))
 | .t_uint8 => (Codec.byte (T := T))
 | .t_int => (Codec.int (T := T) .i64)
 | .t_wl55_Step => c_wl55_Step
 | .t_sl_uint8 => (Codec.sl (T := T) Tag.t_uint8)
 | .t_aEnt => c_aEnt
def dflt : (t : Tag) → T t
 | .t_aRep => z_aRep
 | .t_bool => false
 | .t_uint8 => (0 : UInt8)
 | .t_int => (0 : Int)
 | .t_wl55_Step => z_wl55_Step
 | .t_sl_uint8 => ([] : List UInt8)
 | .t_aEnt => z_aEnt
def E : Enc T where
 dec := inferInstance
 sz t := (cod t).sz
 szpos := by intro t; cases t <;> decide
 isAgg := fun | .t_aRep => true | .t_bool => false | .t_uint8 => false | .t_int => false | .t_wl55_Step => true | .t_sl_uint8 => false | .t_aEnt => true
 ty := fun | .t_aRep => 52 | .t_bool => 4 | .t_uint8 => 5 | .t_int => 3 | .t_wl55_Step => 29 | .t_sl_uint8 => 26 | .t_aEnt => 74
 k t x := (cod t).k x
 klen t x := (cod t).klen x
 un t cs := (cod t).un cs
 dflt := dflt
 ofTy := fun | 52 => some .t_aRep | 4 => some .t_bool | 5 => some .t_uint8 | 3 => some .t_int | 29 => some .t_wl55_Step | 26 => some .t_sl_uint8 | 74 => some .t_aEnt | _ => none
def V : Env T := { E := E, isB := fun | .t_uint8 => true | _ => false, toB := fun | .t_uint8 => fun b => b | _ => fun _ => 0 }
theorem flat_t_bool : ∀ x, ∀ c ∈ V.E.k Tag.t_bool x, c.flat = true := by
 intro x c hc
 have hc : c ∈ ([.B x] : List (CV T)) := hc
 simp only [List.mem_cons, List.not_mem_nil, or_false] at hc
 rcases hc with rfl <;> rfl
theorem flat_t_uint8 : ∀ x, ∀ c ∈ V.E.k Tag.t_uint8 x, c.flat = true := by
 intro x c hc
 have hc : c ∈ ([.lit (.int .u8 (x.toNat : Int))] : List (CV T)) := hc
 simp only [List.mem_cons, List.not_mem_nil, or_false] at hc
 rcases hc with rfl <;> rfl
theorem flat_t_int : ∀ x, ∀ c ∈ V.E.k Tag.t_int x, c.flat = true := by
 intro x c hc
 have hc : c ∈ ([.I x] : List (CV T)) := hc
 simp only [List.mem_cons, List.not_mem_nil, or_false] at hc
 rcases hc with rfl <;> rfl
theorem L : V.E.Law V.isB V.toB where
 un t _ _ _ h hp j c hc := by
  obtain ⟨d, h1, h2⟩ := (cod t).un_ok h hp j c hc
  exact ⟨d, h1, fun w Z ρ v h => h2 _ w Z ρ v h⟩
 byte t x h := by cases t <;> first | rfl | cases h
noncomputable abbrev P : Program := Tryz.prog
theorem mixed : P.follows .mixedOrders = true := by kernel_rfl
end Go.Proofs.YtmafcdkdcfaajaaGreat
