/- For all groups, New, Committed, Safe and Same return what the document says; no condition. -/
import Derived.Test.YtmafcdkdcfaajaaLwB
import Derived.Test.YtmafcdkdcfaajaaRows
set_option linter.unusedVariables false
set_option linter.unusedSimpArgs false
namespace Go.Proofs.Ytmafcdkdcfaajaa
open Eng Go.ChangeShapes Go.WideShapes Go.ChangeAt Go.RowKit

theorem ownKnobNone : ownKnob Try.prog.godebug = none := by kernel_rfl
theorem laidOut : laidOutB Try.prog = true := by kernel_rfl


def G_3 : Int → Prop := (fun n => (Lit.int .i64 n).wf = true)
theorem reads_3 : ReadsAs V P 3 (Codec.int (T := T) .i64) G_3 := reads_int (by kernel_rfl)

def G_5e : UInt8 → Prop := (fun _ => True)
theorem reads_5e : ReadsAs V P 5 (Codec.byte (T := T)) G_5e := reads_byte (by kernel_rfl)

theorem bytes_51 : P.bytesOf 5 = 1 := by kernel_rfl
def G_51 : List UInt8 → Prop := (fun l => l.length * P.bytesOf 5 ≤ reachBytes ∧ l.length ≤ 9223372036854775807 ∧ ∀ x ∈ l, G_5e x)
theorem reads_51 : ReadsAs V P 51 (Codec.sl (T := T) Tag.t_uint8) G_51 := reads_sl (e := 5) (by kernel_rfl) (fun _ => rfl) (by kernel_rfl) (by rw [show P.cellsOf 5 = 1 from by kernel_rfl]; decide) reads_5e

def G_55 : api_Entry → Prop := (fun y => G_3 y.Epoch ∧ G_51 y.Data)
theorem reads_55 : ReadsAs V P 55 c_api_Entry G_55 := reads_struct Try.underlying55 (by kernel_rfl) (readsF_cons (by kernel_rfl) reads_3 (readsF_one (by kernel_rfl) reads_51))

theorem bytes_44 : P.bytesOf 55 = 32 := by kernel_rfl
def G_44 : List api_Entry → Prop := (fun l => l.length * P.bytesOf 55 ≤ reachBytes ∧ l.length ≤ 9223372036854775807 ∧ ∀ x ∈ l, G_55 x)
theorem reads_44 : ReadsAs V P 44 (Codec.sl (T := T) Tag.t_api_Entry) G_44 := reads_sl (e := 55) (by kernel_rfl) (fun _ => rfl) (by kernel_rfl) (by rw [show P.cellsOf 55 = 2 from by kernel_rfl]; decide) reads_55

def G_46 : api_Replica → Prop := (fun y => G_3 y.Epoch ∧ G_3 y.Vote ∧ G_3 y.Commit ∧ G_44 y.Log)
theorem reads_46 : ReadsAs V P 46 c_api_Replica G_46 := reads_struct Try.underlying46 (by kernel_rfl) (readsF_cons (by kernel_rfl) reads_3 (readsF_cons (by kernel_rfl) reads_3 (readsF_cons (by kernel_rfl) reads_3 (readsF_one (by kernel_rfl) reads_44))))

theorem bytes_22 : P.bytesOf 46 = 48 := by kernel_rfl
def G_22 : List api_Replica → Prop := (fun l => l.length * P.bytesOf 46 ≤ reachBytes ∧ l.length ≤ 9223372036854775807 ∧ ∀ x ∈ l, G_46 x)
theorem reads_22 : ReadsAs V P 22 (Codec.sl (T := T) Tag.t_api_Replica) G_22 := reads_sl (e := 46) (by kernel_rfl) (fun _ => rfl) (by kernel_rfl) (by rw [show P.cellsOf 46 = 4 from by kernel_rfl]; decide) reads_46

def G_4 : Bool → Prop := (fun _ => True)
theorem reads_4 : ReadsAs V P 4 (Codec.bool (T := T)) G_4 := reads_bool (by kernel_rfl)

theorem bytes_23 : P.bytesOf 4 = 1 := by kernel_rfl
def G_23 : List Bool → Prop := (fun l => l.length * P.bytesOf 4 ≤ reachBytes ∧ l.length ≤ 9223372036854775807 ∧ ∀ x ∈ l, G_4 x)
theorem reads_23 : ReadsAs V P 23 (Codec.sl (T := T) Tag.t_bool) G_23 := reads_sl (e := 4) (by kernel_rfl) (fun _ => rfl) (by kernel_rfl) (by rw [show P.cellsOf 4 = 1 from by kernel_rfl]; decide) reads_4

def G_25 : workflowref55_Group → Prop := (fun y => G_22 y.Replicas ∧ G_23 y.Up ∧ G_3 y.Leader ∧ G_3 y.Epoch)
theorem reads_25 : ReadsAs V P 25 c_workflowref55_Group G_25 := reads_struct Try.underlying25 (by kernel_rfl) (readsF_cons (by kernel_rfl) reads_22 (readsF_cons (by kernel_rfl) reads_23 (readsF_cons (by kernel_rfl) reads_3 (readsF_one (by kernel_rfl) reads_3))))

theorem came_of (g : workflowref55_Group) (h : G_25 g) : Came 200000000000000 140737488355328 g := by
  have hr : reachBytes = 140737488351232 := rfl
  obtain ⟨⟨h1, _, h2⟩, _⟩ := h
  rw [bytes_22] at h1
  refine ⟨by omega, by omega, fun r hm => ?_, fun r hm x hx => ?_⟩
  · have h3 := (h2 r hm).2.2.2.1
    rw [bytes_44] at h3
    omega
  · have h3 := ((h2 r hm).2.2.2.2.2 x hx).2.1
    rw [bytes_51] at h3
    omega

theorem law_rd (a b : workflowref55_Group) (n : Int) (ga : G_25 a) (gb : G_25 b) (_ : G_3 n) : workflowlaw55_GroupReads 200000000000000 a b n = some true :=
  law_reads a b n (came_of a ga) (came_of b gb) (by omega) (by omega) (by omega)


set_option maxRecDepth 100000 in
theorem lifted_GroupReads (os : Os) (started : os.Started) (H : Type) (enc : TypeId × Value → H) :
    ReturnsInHanded {} Try.checked os 3 .any (Rows.groupReadsSpec.pre6 enc Try.prog Try.f3 Rows.groupReadsRow.domain false) (Rows.groupReadsSpec.post enc Try.prog Try.f3 false true false false) := by
  refine returnsInHanded_of_change_sized (C := Try.checked) ownKnobNone started (by kernel_rfl) Try.func3
    (ChangeSpec.witness6 (enc := enc) (C := Try.checked) false ⟨#[], #[.agg #[.slice none 0 0, .slice none 0 0, .int .i64 0, .int .i64 0], .agg #[.slice none 0 0, .slice none 0 0, .int .i64 0, .int .i64 0], .int .i64 0], []⟩ 8 (by kernel_rfl) (by kernel_rfl) (by kernel_rfl) (by kernel_rfl)) ?_
  intro W base args ds gs before hval0 hW hcnd hsz0 _
  have hW' := hW
  obtain ⟨p, q, hA0, hV, rfl, hfz, hnd⟩ := hW
  have hA : DataW.TrodAll enc Try.prog W 0 (fun _ => true) true Try.f3.params.toList args.toList ds p := hA0
  rw [Try.params3] at hA
  have hval : ∀ (j : Nat) t v, Try.f3.params[j]? = some t → args[j]? = some v → Value.okWide Try.prog W .any base t v := hval0
  rw [Try.params3] at hval
  obtain ⟨rfl, _⟩ := trodVars_none hV
  obtain ⟨v0, l0, d0, e0, p0, q0, r0, rfl, rfl, h0, hA⟩ := trodAll_cons hA
  obtain ⟨v1, l1, d1, e1, p1, q1, rfl, rfl, rfl, h1, hA⟩ := trodAll_cons hA
  obtain ⟨v2, l2, d2, e2, p2, q2, rfl, rfl, rfl, h2, hA⟩ := trodAll_cons hA
  obtain ⟨rfl, rfl, rfl⟩ := trodAll_nil hA
  have hsz : (DataW.weightsEach P [25, 25, 3] [d0, d1, d2]).all (· ≤ reachBytes) = true := hsz0
  obtain ⟨w0, hsz⟩ := weights_cons hsz
  obtain ⟨w1, hsz⟩ := weights_cons hsz
  obtain ⟨w2, hsz⟩ := weights_cons hsz
  have hargs : args = #[v0, v1, v2] := by cases args; simp_all
  subst hargs
  obtain ⟨x0, g0, a0⟩ := reads_25.agg' Try.underlying25 (hval 0 25 v0 rfl rfl) h0 w0
  obtain ⟨x1, g1, a1⟩ := reads_25.agg' Try.underlying25 (hval 1 25 v1 rfl rfl) h1 w1
  obtain ⟨x2, g2, a2⟩ := reads_3.one' (td := .int .i64) (by kernel_rfl) rfl (hval 2 3 v2 rfl rfl) h2 w2
  refine ((workflowlaw55_GroupReads.ok (law_rd x0 x1 x2 g0 g1 g2)).2 W (fun b => b < W.heap.size) #[v0, v1, v2] (fun _ h => h) rfl (fun i x v hx hv => (ras_cons (V := V) a0 (ras_cons (V := V) a1 (ras_cons (V := V) (a2 _ rfl) ras_nil))) i x v hx (by rw [← Array.getElem?_toList] at hv; exact hv))).mono fun e W' he => ?_
  obtain ⟨v, Z', rfl, ho, hr⟩ := he
  have hv := inv_lit _ hr
  subst hv
  exact ⟨_, rfl, post_true hW' ho.below rfl laidOut (by kernel_rfl) rfl (tb := 4) (by kernel_rfl) rfl⟩

theorem GroupReads_holds : Rows.GroupReadsSaid :=
  OpenClaim.holds_of_wide 3 Try.f3 rfl rfl rfl rfl rfl rfl rfl ⟨rfl, rfl, rfl, rfl, rfl⟩ rfl rfl rfl rfl rfl (by kernel_rfl) Try.func3 (by kernel_rfl)
    (of_decide_eq_true (by kernel_rfl)) (by unfold Func.isWrapper; first | (rw [if_pos (by decide +kernel)]; kernel_rfl) | (rw [if_neg (by decide +kernel)]; exact ⟨rfl, rfl⟩))
    (fun os started H enc _ => lifted_GroupReads os started H enc)

#print axioms GroupReads_holds

end Go.Proofs.Ytmafcdkdcfaajaa
