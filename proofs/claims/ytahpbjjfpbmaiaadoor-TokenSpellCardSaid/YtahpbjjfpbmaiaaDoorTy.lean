/- The types of the program as Lean types. -/
import Derived.Test.YtahpbjjfpbmaiaaDoorEngC
import Derived.Test.YtahpbjjfpbmaiaaDoorProg
import Derived.Lib.Space
import Derived.Lib.ItoaNum
set_option linter.unusedVariables false
set_option maxHeartbeats 0
namespace Go.Proofs.YtahpbjjfpbmaiaaDoor
open Eng
structure api_Token where
 Kind : Int
 At : Int
 Text : List UInt8
 Int : Int
abbrev z_api_Token : api_Token := (⟨(0 : Int), (0 : Int), ([] : List UInt8), (0 : Int)⟩ : api_Token)
structure token_scanner where
 src : List UInt8
 at_ : Int
abbrev z_token_scanner : token_scanner := (⟨([] : List UInt8), (0 : Int)⟩ : token_scanner)
structure strings_span where
 start : Int
 end_ : Int
abbrev z_strings_span : strings_span := (⟨(0 : Int), (0 : Int)⟩ : strings_span)
structure unicode_Range16 where
 Lo : Int
 Hi : Int
 Stride : Int
abbrev z_unicode_Range16 : unicode_Range16 := (⟨(0 : Int), (0 : Int), (0 : Int)⟩ : unicode_Range16)
structure unicode_Range32 where
 Lo : Int
 Hi : Int
 Stride : Int
abbrev z_unicode_Range32 : unicode_Range32 := (⟨(0 : Int), (0 : Int), (0 : Int)⟩ : unicode_Range32)
structure unicode_RangeTable where
 R16 : List unicode_Range16
 R32 : List unicode_Range32
 LatinOffset : Int
abbrev z_unicode_RangeTable : unicode_RangeTable := (⟨([] : List unicode_Range16), ([] : List unicode_Range32), (0 : Int)⟩ : unicode_RangeTable)
structure errors_errorString where
 s : List UInt8
abbrev z_errors_errorString : errors_errorString := (⟨([] : List UInt8)⟩ : errors_errorString)
inductive Tag where
 | t_api_Token
 | t_string
 | t_uint8
 | t_strings_span
 | t_unicode_Range16
 | t_unicode_Range32
 deriving DecidableEq
@[reducible] def T : Tag → Type
 | .t_api_Token => api_Token
 | .t_string => List UInt8
 | .t_uint8 => UInt8
 | .t_strings_span => strings_span
 | .t_unicode_Range16 => unicode_Range16
 | .t_unicode_Range32 => unicode_Range32
def c_api_Token : Codec T api_Token := Codec.iso (Codec.pair (Codec.int (T := T) .i64) (Codec.pair (Codec.int (T := T) .i64) (Codec.pair (Codec.str (T := T)) (Codec.int (T := T) .i64)))) (fun (x : api_Token) => (x.Kind, (x.At, (x.Text, x.Int)))) (fun y => ⟨y.1, y.2.1, y.2.2.1, y.2.2.2⟩) (fun _ => rfl)
abbrev k_api_Token (x : api_Token) : List (CV T) := c_api_Token.k x
def c_token_scanner : Codec T token_scanner := Codec.iso (Codec.pair (Codec.str (T := T)) (Codec.int (T := T) .i64)) (fun (x : token_scanner) => (x.src, x.at_)) (fun y => ⟨y.1, y.2⟩) (fun _ => rfl)
abbrev k_token_scanner (x : token_scanner) : List (CV T) := c_token_scanner.k x
def c_strings_span : Codec T strings_span := Codec.iso (Codec.pair (Codec.int (T := T) .i64) (Codec.int (T := T) .i64)) (fun (x : strings_span) => (x.start, x.end_)) (fun y => ⟨y.1, y.2⟩) (fun _ => rfl)
abbrev k_strings_span (x : strings_span) : List (CV T) := c_strings_span.k x
def c_unicode_Range16 : Codec T unicode_Range16 := Codec.iso (Codec.pair (Codec.int (T := T) .u16) (Codec.pair (Codec.int (T := T) .u16) (Codec.int (T := T) .u16))) (fun (x : unicode_Range16) => (x.Lo, (x.Hi, x.Stride))) (fun y => ⟨y.1, y.2.1, y.2.2⟩) (fun _ => rfl)
abbrev k_unicode_Range16 (x : unicode_Range16) : List (CV T) := c_unicode_Range16.k x
def c_unicode_Range32 : Codec T unicode_Range32 := Codec.iso (Codec.pair (Codec.int (T := T) .u32) (Codec.pair (Codec.int (T := T) .u32) (Codec.int (T := T) .u32))) (fun (x : unicode_Range32) => (x.Lo, (x.Hi, x.Stride))) (fun y => ⟨y.1, y.2.1, y.2.2⟩) (fun _ => rfl)
abbrev k_unicode_Range32 (x : unicode_Range32) : List (CV T) := c_unicode_Range32.k x
def c_unicode_RangeTable : Codec T unicode_RangeTable := Codec.iso (Codec.pair (Codec.sl (T := T) Tag.t_unicode_Range16) (Codec.pair (Codec.sl (T := T) Tag.t_unicode_Range32) (Codec.int (T := T) .i64))) (fun (x : unicode_RangeTable) => (x.R16, (x.R32, x.LatinOffset))) (fun y => ⟨y.1, y.2.1, y.2.2⟩) (fun _ => rfl)
abbrev k_unicode_RangeTable (x : unicode_RangeTable) : List (CV T) := c_unicode_RangeTable.k x
def c_errors_errorString : Codec T errors_errorString := Codec.iso (Codec.str (T := T)) (fun (x : errors_errorString) => x.s) (fun y => ⟨y⟩) (fun _ => rfl)
abbrev k_errors_errorString (x : errors_errorString) : List (CV T) := c_errors_errorString.k x
abbrev d_api_Token (x : api_Token) : List (CV T) := [.I x.Kind, .I x.At, .str x.Text, .I x.Int]
abbrev d_token_scanner (x : token_scanner) : List (CV T) := [.str x.src, .I x.at_]
abbrev d_strings_span (x : strings_span) : List (CV T) := [.I x.start, .I x.end_]
abbrev d_unicode_Range16 (x : unicode_Range16) : List (CV T) := [.lit (.int .u16 x.Lo), .lit (.int .u16 x.Hi), .lit (.int .u16 x.Stride)]
abbrev d_unicode_Range32 (x : unicode_Range32) : List (CV T) := [.lit (.int .u32 x.Lo), .lit (.int .u32 x.Hi), .lit (.int .u32 x.Stride)]
abbrev d_unicode_RangeTable (x : unicode_RangeTable) : List (CV T) := [.ro Tag.t_unicode_Range16 x.R16, .ro Tag.t_unicode_Range32 x.R32, .I x.LatinOffset]
abbrev d_errors_errorString (x : errors_errorString) : List (CV T) := [.str x.s]
def cod : (t : Tag) → Codec T (T t)
 | .t_api_Token => c_api_Token
 | .t_string => (Codec.str (T := T))
 | .t_uint8 => (Codec.byte (T := T))
 | .t_strings_span => c_strings_span
 | .t_unicode_Range16 => c_unicode_Range16
 | .t_unicode_Range32 => c_unicode_Range32
def dflt : (t : Tag) → T t
 | .t_api_Token => z_api_Token
 | .t_string => ([] : List UInt8)
 | .t_uint8 => (0 : UInt8)
 | .t_strings_span => z_strings_span
 | .t_unicode_Range16 => z_unicode_Range16
 | .t_unicode_Range32 => z_unicode_Range32
def E : Enc T where
 dec := inferInstance
 sz t := (cod t).sz
 szpos := by intro t; cases t <;> decide
 isAgg := fun | .t_api_Token => true | .t_string => false | .t_uint8 => false | .t_strings_span => true | .t_unicode_Range16 => true | .t_unicode_Range32 => true
 ty := fun | .t_api_Token => 31 | .t_string => 9 | .t_uint8 => 5 | .t_strings_span => 79 | .t_unicode_Range16 => 95 | .t_unicode_Range32 => 98
 k t x := (cod t).k x
 klen t x := (cod t).klen x
 un t cs := (cod t).un cs
 dflt := dflt
 ofTy := fun | 31 => some .t_api_Token | 9 => some .t_string | 5 => some .t_uint8 | 79 => some .t_strings_span | 95 => some .t_unicode_Range16 | 98 => some .t_unicode_Range32 | _ => none
def V : Env T := { E := E, isB := fun | .t_uint8 => true | _ => false, toB := fun | .t_uint8 => fun b => b | _ => fun _ => 0, ofB := fun | .t_uint8 => fun b => b | t => fun _ => dflt t, glb := [(0, fun cs => cs = (Lib.asciiSpaceTab.map fun z => Value.int .u8 z).toArray), (2, fun cs => cs = (Lib.pow10Tab.map fun z => Value.int .u64 z).toArray), (4, fun cs => ∃ te pe, cs = #[.iface te pe]), (5, fun cs => ∃ te pe, cs = #[.iface te pe])], typd := fun t => Nat.beq t 51 }
theorem ofB_t_uint8 : ∀ b, V.E.k Tag.t_uint8 (V.ofB Tag.t_uint8 b) = [.lit (.int .u8 b.toNat)] := fun _ => rfl
theorem flat_t_api_Token : ∀ x, ∀ c ∈ V.E.k Tag.t_api_Token x, c.flat = true := by
 intro x c hc
 have hc : c ∈ ([.I x.Kind, .I x.At, .str x.Text, .I x.Int] : List (CV T)) := hc
 simp only [List.mem_cons, List.not_mem_nil, or_false] at hc
 rcases hc with rfl | rfl | rfl | rfl <;> rfl
theorem flat_t_string : ∀ x, ∀ c ∈ V.E.k Tag.t_string x, c.flat = true := by
 intro x c hc
 have hc : c ∈ ([.str x] : List (CV T)) := hc
 simp only [List.mem_cons, List.not_mem_nil, or_false] at hc
 rcases hc with rfl <;> rfl
theorem flat_t_uint8 : ∀ x, ∀ c ∈ V.E.k Tag.t_uint8 x, c.flat = true := by
 intro x c hc
 have hc : c ∈ ([.lit (.int .u8 (x.toNat : Int))] : List (CV T)) := hc
 simp only [List.mem_cons, List.not_mem_nil, or_false] at hc
 rcases hc with rfl <;> rfl
theorem flat_t_strings_span : ∀ x, ∀ c ∈ V.E.k Tag.t_strings_span x, c.flat = true := by
 intro x c hc
 have hc : c ∈ ([.I x.start, .I x.end_] : List (CV T)) := hc
 simp only [List.mem_cons, List.not_mem_nil, or_false] at hc
 rcases hc with rfl | rfl <;> rfl
theorem flat_t_unicode_Range16 : ∀ x, ∀ c ∈ V.E.k Tag.t_unicode_Range16 x, c.flat = true := by
 intro x c hc
 have hc : c ∈ ([.lit (.int .u16 x.Lo), .lit (.int .u16 x.Hi), .lit (.int .u16 x.Stride)] : List (CV T)) := hc
 simp only [List.mem_cons, List.not_mem_nil, or_false] at hc
 rcases hc with rfl | rfl | rfl <;> rfl
theorem flat_t_unicode_Range32 : ∀ x, ∀ c ∈ V.E.k Tag.t_unicode_Range32 x, c.flat = true := by
 intro x c hc
 have hc : c ∈ ([.lit (.int .u32 x.Lo), .lit (.int .u32 x.Hi), .lit (.int .u32 x.Stride)] : List (CV T)) := hc
 simp only [List.mem_cons, List.not_mem_nil, or_false] at hc
 rcases hc with rfl | rfl | rfl <;> rfl
theorem L : V.E.Law V.isB V.toB where
 un t _ _ _ h hp j c hc := by
  obtain ⟨d, h1, h2⟩ := (cod t).un_ok h hp j c hc
  exact ⟨d, h1, fun w Z ρ v h => h2 _ w Z ρ v h⟩
 byte t x h := by cases t <;> first | rfl | cases h
noncomputable abbrev P : Program := Tryd.prog
theorem mixed : P.follows .mixedOrders = true := by kernel_rfl
end Go.Proofs.YtahpbjjfpbmaiaaDoor
