/- For all groups and steps, every operation returns what the document says; no condition. -/
import Derived.Test.YtmafcdkdcfaajaaGreatLwG
import Derived.Test.YtmafcdkdcfaajaaGreatRows
set_option linter.unusedVariables false
set_option linter.unusedSimpArgs false
namespace Go.Proofs.YtmafcdkdcfaajaaGreat
open Eng Go.ChangeShapes Go.WideShapes Go.ChangeAt Go.RowKit

theorem ownKnobNone : ownKnob Tryz.prog.godebug = none := by kernel_rfl
theorem laidOut : laidOutB Tryz.prog = true := by kernel_rfl


def G_3 : Int → Prop := (fun n => (Lit.int .i64 n).wf = true)
theorem reads_3 : ReadsAs V P 3 (Codec.int (T := T) .i64) G_3 := reads_int (by kernel_rfl)

def G_5e : UInt8 → Prop := (fun _ => True)
theorem reads_5e : ReadsAs V P 5 (Codec.byte (T := T)) G_5e := reads_byte (by kernel_rfl)

theorem bytes_26 : P.bytesOf 5 = 1 := by kernel_rfl
def G_26 : List UInt8 → Prop := (fun l => l.length * P.bytesOf 5 ≤ reachBytes ∧ l.length ≤ 9223372036854775807 ∧ ∀ x ∈ l, G_5e x)
theorem reads_26 : ReadsAs V P 26 (Codec.sl (T := T) Tag.t_uint8) G_26 := reads_sl (e := 5) (by kernel_rfl) (fun _ => rfl) (by kernel_rfl) (by rw [show P.cellsOf 5 = 1 from by kernel_rfl]; decide) reads_5e

def G_74 : api_Entry → Prop := (fun y => G_3 y.Epoch ∧ G_26 y.Data)
theorem reads_74 : ReadsAs V P 74 c_api_Entry G_74 := reads_struct Tryz.underlying74 (by kernel_rfl) (readsF_cons (by kernel_rfl) reads_3 (readsF_one (by kernel_rfl) reads_26))

theorem bytes_50 : P.bytesOf 74 = 32 := by kernel_rfl
def G_50 : List api_Entry → Prop := (fun l => l.length * P.bytesOf 74 ≤ reachBytes ∧ l.length ≤ 9223372036854775807 ∧ ∀ x ∈ l, G_74 x)
theorem reads_50 : ReadsAs V P 50 (Codec.sl (T := T) Tag.t_api_Entry) G_50 := reads_sl (e := 74) (by kernel_rfl) (fun _ => rfl) (by kernel_rfl) (by rw [show P.cellsOf 74 = 2 from by kernel_rfl]; decide) reads_74

def G_52 : api_Replica → Prop := (fun y => G_3 y.Epoch ∧ G_3 y.Vote ∧ G_3 y.Commit ∧ G_50 y.Log)
theorem reads_52 : ReadsAs V P 52 c_api_Replica G_52 := reads_struct Tryz.underlying52 (by kernel_rfl) (readsF_cons (by kernel_rfl) reads_3 (readsF_cons (by kernel_rfl) reads_3 (readsF_cons (by kernel_rfl) reads_3 (readsF_one (by kernel_rfl) reads_50))))

theorem bytes_22 : P.bytesOf 52 = 48 := by kernel_rfl
def G_22 : List api_Replica → Prop := (fun l => l.length * P.bytesOf 52 ≤ reachBytes ∧ l.length ≤ 9223372036854775807 ∧ ∀ x ∈ l, G_52 x)
theorem reads_22 : ReadsAs V P 22 (Codec.sl (T := T) Tag.t_api_Replica) G_22 := reads_sl (e := 52) (by kernel_rfl) (fun _ => rfl) (by kernel_rfl) (by rw [show P.cellsOf 52 = 4 from by kernel_rfl]; decide) reads_52

def G_4 : Bool → Prop := (fun _ => True)
theorem reads_4 : ReadsAs V P 4 (Codec.bool (T := T)) G_4 := reads_bool (by kernel_rfl)

theorem bytes_23 : P.bytesOf 4 = 1 := by kernel_rfl
def G_23 : List Bool → Prop := (fun l => l.length * P.bytesOf 4 ≤ reachBytes ∧ l.length ≤ 9223372036854775807 ∧ ∀ x ∈ l, G_4 x)
theorem reads_23 : ReadsAs V P 23 (Codec.sl (T := T) Tag.t_bool) G_23 := reads_sl (e := 4) (by kernel_rfl) (fun _ => rfl) (by kernel_rfl) (by rw [show P.cellsOf 4 = 1 from by kernel_rfl]; decide) reads_4

def G_25 : workflowref55_Group → Prop := (fun y => G_22 y.Replicas ∧ G_23 y.Up ∧ G_3 y.Leader ∧ G_3 y.Epoch)
theorem reads_25 : ReadsAs V P 25 c_workflowref55_Group G_25 := reads_struct Tryz.underlying25 (by kernel_rfl) (readsF_cons (by kernel_rfl) reads_22 (readsF_cons (by kernel_rfl) reads_23 (readsF_cons (by kernel_rfl) reads_3 (readsF_one (by kernel_rfl) reads_3))))

theorem bytes_27 : P.bytesOf 3 = 8 := by kernel_rfl
def G_27 : List Int → Prop := (fun l => l.length * P.bytesOf 3 ≤ reachBytes ∧ l.length ≤ 9223372036854775807 ∧ ∀ x ∈ l, G_3 x)
theorem reads_27 : ReadsAs V P 27 (Codec.sl (T := T) Tag.t_int) G_27 := reads_sl (e := 3) (by kernel_rfl) (fun _ => rfl) (by kernel_rfl) (by rw [show P.cellsOf 3 = 1 from by kernel_rfl]; decide) reads_3

def G_29 : workflowlaw55_Step → Prop := (fun y => G_3 y.Kind ∧ G_3 y.I ∧ G_3 y.Epoch ∧ G_26 y.Data ∧ G_27 y.Reach)
theorem reads_29 : ReadsAs V P 29 c_workflowlaw55_Step G_29 := reads_struct Tryz.underlying29 (by kernel_rfl) (readsF_cons (by kernel_rfl) reads_3 (readsF_cons (by kernel_rfl) reads_3 (readsF_cons (by kernel_rfl) reads_3 (readsF_cons (by kernel_rfl) reads_26 (readsF_one (by kernel_rfl) reads_27)))))

theorem law_rd (g : workflowref55_Group) (s : workflowlaw55_Step) (hg : G_25 g) (_ : G_29 s) : workflowlaw55_GroupSteps 200000000000000 g s = some true := by
  have hr : reachBytes = 140737488351232 := rfl
  have h1 := hg.1.1
  rw [bytes_22] at h1
  exact law_steps _ g s (by omega) (by omega) (by omega)


set_option maxRecDepth 100000 in
theorem lifted_GroupSteps (os : Os) (started : os.Started) (H : Type) (enc : TypeId × Value → H) :
    ReturnsInHanded {} Tryz.checked os 3 .any (Rows.groupStepsSpec.pre6 enc Tryz.prog Tryz.f3 Rows.groupStepsRow.domain false) (Rows.groupStepsSpec.post enc Tryz.prog Tryz.f3 false true false false) := by
  refine returnsInHanded_of_change_sized (C := Tryz.checked) ownKnobNone started (by kernel_rfl) Tryz.func3
    (ChangeSpec.witness6 (enc := enc) (C := Tryz.checked) false ⟨#[], #[.agg #[.slice none 0 0, .slice none 0 0, .int .i64 0, .int .i64 0], .agg #[.int .i64 0, .int .i64 0, .int .i64 0, .slice none 0 0, .slice none 0 0]], []⟩ 8 (by kernel_rfl) (by kernel_rfl) (by kernel_rfl) (by kernel_rfl)) ?_
  intro W base args ds gs before hval0 hW hcnd hsz0 _
  have hW' := hW
  obtain ⟨p, q, hA0, hV, rfl, hfz, hnd⟩ := hW
  have hA : DataW.TrodAll enc Tryz.prog W 0 (fun _ => true) true Tryz.f3.params.toList args.toList ds p := hA0
  rw [Tryz.params3] at hA
  have hval : ∀ (j : Nat) t v, Tryz.f3.params[j]? = some t → args[j]? = some v → Value.okWide Tryz.prog W .any base t v := hval0
  rw [Tryz.params3] at hval
  obtain ⟨rfl, _⟩ := trodVars_none hV
  obtain ⟨v0, l0, d0, e0, p0, q0, r0, rfl, rfl, h0, hA⟩ := trodAll_cons hA
  obtain ⟨v1, l1, d1, e1, p1, q1, rfl, rfl, rfl, h1, hA⟩ := trodAll_cons hA
  obtain ⟨rfl, rfl, rfl⟩ := trodAll_nil hA
  have hsz : (DataW.weightsEach P [25, 29] [d0, d1]).all (· ≤ reachBytes) = true := hsz0
  obtain ⟨w0, hsz⟩ := weights_cons hsz
  obtain ⟨w1, hsz⟩ := weights_cons hsz
  have hargs : args = #[v0, v1] := by cases args; simp_all
  subst hargs
  obtain ⟨x0, g0, a0⟩ := reads_25.agg' Tryz.underlying25 (hval 0 25 v0 rfl rfl) h0 w0
  obtain ⟨x1, g1, a1⟩ := reads_29.agg' Tryz.underlying29 (hval 1 29 v1 rfl rfl) h1 w1
  refine ((workflowlaw55_GroupSteps.ok (law_rd x0 x1 g0 g1)).2 W (fun b => b < W.heap.size) #[v0, v1] (fun _ h => h) rfl (fun i x v hx hv => (ras_cons (V := V) a0 (ras_cons (V := V) a1 ras_nil)) i x v hx (by rw [← Array.getElem?_toList] at hv; exact hv))).mono fun e W' he => ?_
  obtain ⟨v, Z', rfl, ho, hr⟩ := he
  have hv := inv_lit _ hr
  subst hv
  exact ⟨_, rfl, post_true hW' ho.below rfl laidOut (by kernel_rfl) rfl (tb := 4) (by kernel_rfl) rfl⟩

theorem GroupSteps_holds : Rows.GroupStepsSaid :=
  OpenClaim.holds_of_wide 3 Tryz.f3 rfl rfl rfl rfl rfl rfl rfl ⟨rfl, rfl, rfl, rfl, rfl⟩ rfl rfl rfl rfl rfl (by kernel_rfl) Tryz.func3 (by kernel_rfl)
    (of_decide_eq_true (by kernel_rfl)) (by unfold Func.isWrapper; first | (rw [if_pos (by decide +kernel)]; kernel_rfl) | (rw [if_neg (by decide +kernel)]; exact ⟨rfl, rfl⟩))
    (fun os started H enc _ => lifted_GroupSteps os started H enc)

#print axioms GroupSteps_holds

end Go.Proofs.YtmafcdkdcfaajaaGreat
