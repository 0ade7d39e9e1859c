/- The types of the program as Lean types. -/
import Derived.Test.YtegkigdobekgjaaEngC
import Derived.Test.YtegkigdobekgjaaProg
set_option linter.unusedVariables false
set_option maxHeartbeats 0
namespace Go.Proofs.Ytegkigdobekgjaa
open Eng
structure workflowlaw50_Step where
 Kind : Int
 Name : List UInt8
 To : List UInt8
 Data : List UInt8
 N : Int
abbrev z_workflowlaw50_Step : workflowlaw50_Step := (⟨(0 : Int), ([] : List UInt8), ([] : List UInt8), ([] : List UInt8), (0 : Int)⟩ : workflowlaw50_Step)
structure disk_file where
 bytes : List UInt8
 safe : Int
abbrev z_disk_file : disk_file := (⟨([] : List UInt8), (0 : Int)⟩ : disk_file)
structure workflowref50_File where
 Name : List UInt8
 Data : List UInt8
 Safe : Int
abbrev z_workflowref50_File : workflowref50_File := (⟨([] : List UInt8), ([] : List UInt8), (0 : Int)⟩ : workflowref50_File)
structure workflowref50_Disk where
 Files : List workflowref50_File
 Room : Int
 Left : Int
 Stop : Bool
 Made : Bool
abbrev z_workflowref50_Disk : workflowref50_Disk := (⟨([] : List workflowref50_File), (0 : Int), (0 : Int), false, false⟩ : workflowref50_Disk)
inductive Tag where
 | t_uint8
 | t_workflowlaw50_Step
 | t_api_Errno
 | t_disk_file
 | t_string
 | t_workflowref50_File
 deriving DecidableEq
@[reducible] def T : Tag → Type
 | .t_uint8 => UInt8
 | .t_workflowlaw50_Step => workflowlaw50_Step
 | .t_api_Errno => Int
 | .t_disk_file => disk_file
 | .t_string => List UInt8
 | .t_workflowref50_File => workflowref50_File
def c_workflowlaw50_Step : Codec T workflowlaw50_Step := Codec.iso (Codec.pair (Codec.int (T := T) .i64) (Codec.pair (Codec.str (T := T)) (Codec.pair (Codec.str (T := T)) (Codec.pair (Codec.sl (T := T) Tag.t_uint8) (Codec.int (T := T) .i64))))) (fun (x : workflowlaw50_Step) => (x.Kind, (x.Name, (x.To, (x.Data, x.N))))) (fun y => ⟨y.1, y.2.1, y.2.2.1, y.2.2.2.1, y.2.2.2.2⟩) (fun _ => rfl)
abbrev k_workflowlaw50_Step (x : workflowlaw50_Step) : List (CV T) := c_workflowlaw50_Step.k x
def c_disk_file : Codec T disk_file := Codec.iso (Codec.pair (Codec.sl (T := T) Tag.t_uint8) (Codec.int (T := T) .i64)) (fun (x : disk_file) => (x.bytes, x.safe)) (fun y => ⟨y.1, y.2⟩) (fun _ => rfl)
abbrev k_disk_file (x : disk_file) : List (CV T) := c_disk_file.k x
def c_workflowref50_File : Codec T workflowref50_File := Codec.iso (Codec.pair (Codec.str (T := T)) (Codec.pair (Codec.sl (T := T) Tag.t_uint8) (Codec.int (T := T) .i64))) (fun (x : workflowref50_File) => (x.Name, (x.Data, x.Safe))) (fun y => ⟨y.1, y.2.1, y.2.2⟩) (fun _ => rfl)
abbrev k_workflowref50_File (x : workflowref50_File) : List (CV T) := c_workflowref50_File.k x
def c_workflowref50_Disk : Codec T workflowref50_Disk := Codec.iso (Codec.pair (Codec.sl (T := T) Tag.t_workflowref50_File) (Codec.pair (Codec.int (T := T) .i64) (Codec.pair (Codec.int (T := T) .i64) (Codec.pair (Codec.bool (T := T)) (Codec.bool (T := T)))))) (fun (x : workflowref50_Disk) => (x.Files, (x.Room, (x.Left, (x.Stop, x.Made))))) (fun y => ⟨y.1, y.2.1, y.2.2.1, y.2.2.2.1, y.2.2.2.2⟩) (fun _ => rfl)
abbrev k_workflowref50_Disk (x : workflowref50_Disk) : List (CV T) := c_workflowref50_Disk.k x
abbrev d_workflowlaw50_Step (x : workflowlaw50_Step) : List (CV T) := [.I x.Kind, .str x.Name, .str x.To, .ro Tag.t_uint8 x.Data, .I x.N]
abbrev d_disk_file (x : disk_file) : List (CV T) := [.ro Tag.t_uint8 x.bytes, .I x.safe]
abbrev d_workflowref50_File (x : workflowref50_File) : List (CV T) := [.str x.Name, .ro Tag.t_uint8 x.Data, .I x.Safe]
abbrev d_workflowref50_Disk (x : workflowref50_Disk) : List (CV T) := [.ro Tag.t_workflowref50_File x.Files, .I x.Room, .I x.Left, .B x.Stop, .B x.Made]
def cod : (t : Tag) → Codec T (T t)
 | .t_uint8 => (Codec.byte (T := T))
 | .t_workflowlaw50_Step => c_workflowlaw50_Step
 | .t_api_Errno => (Codec.int (T := T) .i64)
 | .t_disk_file => c_disk_file
 | .t_string => (Codec.str (T := T))
 | .t_workflowref50_File => c_workflowref50_File
def dflt : (t : Tag) → T t
 | .t_uint8 => (0 : UInt8)
 | .t_workflowlaw50_Step => z_workflowlaw50_Step
 | .t_api_Errno => (0 : Int)
 | .t_disk_file => z_disk_file
 | .t_string => ([] : List UInt8)
 | .t_workflowref50_File => z_workflowref50_File
def E : Enc T where
 dec := inferInstance
 sz t := (cod t).sz
 szpos := by intro t; cases t <;> decide
 isAgg := fun | .t_uint8 => false | .t_workflowlaw50_Step => true | .t_api_Errno => false | .t_disk_file => true | .t_string => false | .t_workflowref50_File => true
 ty := fun | .t_uint8 => 5 | .t_workflowlaw50_Step => 44 | .t_api_Errno => 25 | .t_disk_file => 57 | .t_string => 9 | .t_workflowref50_File => 79
 k t x := (cod t).k x
 klen t x := (cod t).klen x
 un t cs := (cod t).un cs
 dflt := dflt
 ofTy := fun | 5 => some .t_uint8 | 44 => some .t_workflowlaw50_Step | 25 => some .t_api_Errno | 57 => some .t_disk_file | 9 => some .t_string | 79 => some .t_workflowref50_File | _ => none
def V : Env T := { E := E, isB := fun | .t_uint8 => true | _ => false, toB := fun | .t_uint8 => fun b => b | _ => fun _ => 0 }
theorem flat_t_uint8 : ∀ x, ∀ c ∈ V.E.k Tag.t_uint8 x, c.flat = true := by
 intro x c hc
 have hc : c ∈ ([.lit (.int .u8 (x.toNat : Int))] : List (CV T)) := hc
 simp only [List.mem_cons, List.not_mem_nil, or_false] at hc
 rcases hc with rfl <;> rfl
theorem flat_t_api_Errno : ∀ x, ∀ c ∈ V.E.k Tag.t_api_Errno x, c.flat = true := by
 intro x c hc
 have hc : c ∈ ([.I x] : List (CV T)) := hc
 simp only [List.mem_cons, List.not_mem_nil, or_false] at hc
 rcases hc with rfl <;> rfl
theorem flat_t_string : ∀ x, ∀ c ∈ V.E.k Tag.t_string x, c.flat = true := by
 intro x c hc
 have hc : c ∈ ([.str x] : List (CV T)) := hc
 simp only [List.mem_cons, List.not_mem_nil, or_false] at hc
 rcases hc with rfl <;> rfl
theorem L : V.E.Law V.isB V.toB where
 un t _ _ _ h hp j c hc := by
  obtain ⟨d, h1, h2⟩ := (cod t).un_ok h hp j c hc
  exact ⟨d, h1, fun w Z ρ v h => h2 _ w Z ρ v h⟩
 byte t x h := by cases t <;> first | rfl | cases h
noncomputable abbrev P : Program := Try.prog
theorem mixed : P.follows .mixedOrders = true := by kernel_rfl
end Go.Proofs.Ytegkigdobekgjaa
