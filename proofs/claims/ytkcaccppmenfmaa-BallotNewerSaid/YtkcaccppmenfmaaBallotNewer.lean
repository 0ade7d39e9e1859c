/- For all integers, ballot.Newer answers as the document says which of two logs is at least as up to date as the other, and one of them always is; no condition. -/
import Derived.Test.YtkcaccppmenfmaaFn3
import Derived.Test.YtkcaccppmenfmaaRows
set_option linter.unusedVariables false
set_option linter.unusedSimpArgs false
namespace Go.Proofs.Ytkcaccppmenfmaa
open Eng Go.ChangeShapes Go.WideShapes Go.ChangeAt Go.RowKit

theorem ballot_Newer_eq (K : Nat) (a b c d : Int) : ballot_Newer K a b c d = some (decide (b > d ∨ (b = d ∧ a ≥ c))) := by
  unfold ballot_Newer
  split
  · rename_i h; congr 1; simp; omega
  · rename_i h; congr 1; simp at h; simp [h]

theorem ref_Newer_eq (K : Nat) (a b c d : Int) : workflowref54_Newer K a b c d = some (decide (b > d ∨ (b = d ∧ a ≥ c))) := by
  unfold workflowref54_Newer
  split
  · rename_i h; simp [h]
  · rename_i h
    split
    · rename_i h2; simp [h2]
    · rename_i h2; simp [h, h2]

theorem works54 : workflowlaw54_works 100 = some true := by decide +kernel

theorem law_BallotNewer (a b c d : Int) : workflowlaw54_BallotNewer 100 a b c d = some true := by
  unfold workflowlaw54_BallotNewer
  simp only [ballot_Newer_eq, ref_Newer_eq, works54, Option.bind_some]
  by_cases h1 : b > d <;> by_cases h2 : b = d <;> by_cases h3 : a ≥ c <;> by_cases h4 : a = c <;> by_cases h5 : d > b <;> by_cases h6 : c ≥ a <;> simp_all <;> omega

theorem readInt : ReadsAs V P 3 (Codec.int (T := T) .i64) (fun n => (Lit.int .i64 n).wf = true) := reads_int (by kernel_rfl)

theorem ownKnobNone : ownKnob Try.prog.godebug = none := by kernel_rfl
theorem laidOut : laidOutB Try.prog = true := by kernel_rfl

set_option maxRecDepth 100000 in
theorem lifted_BallotNewer (os : Os) (started : os.Started) (H : Type) (enc : TypeId × Value → H) :
    ReturnsInHanded {} Try.checked os 7 .any (Rows.ballotNewerSpec.pre6 enc Try.prog Try.f7 Rows.ballotNewerRow.domain false) (Rows.ballotNewerSpec.post enc Try.prog Try.f7 false true false false) := by
  refine returnsInHanded_of_change (C := Try.checked) ownKnobNone started (by kernel_rfl) Try.func7
    (ChangeSpec.witness6 (enc := enc) (C := Try.checked) false ⟨#[], #[.int .i64 0, .int .i64 0, .int .i64 0, .int .i64 0], []⟩ 8 (by kernel_rfl) (by kernel_rfl) (by kernel_rfl) (by kernel_rfl)) ?_
  intro W base args ds gs before hval0 hW hcnd _
  have hW' := hW
  obtain ⟨p, q, hA0, hV, rfl, hfz, hnd⟩ := hW
  have hA : DataW.TrodAll enc Try.prog W 0 (fun _ => true) true Try.f7.params.toList args.toList ds p := hA0
  rw [Try.params7] at hA
  have hval : ∀ (j : Nat) t v, Try.f7.params[j]? = some t → args[j]? = some v → Value.okWide Try.prog W .any base t v := hval0
  rw [Try.params7] at hval
  obtain ⟨rfl, _⟩ := trodVars_none hV
  obtain ⟨v0, l0, d0, e0, p0, q0, r0, rfl, rfl, h0, hA⟩ := trodAll_cons hA
  obtain ⟨v1, l1, d1, e1, p1, q1, rfl, rfl, rfl, h1, hA⟩ := trodAll_cons hA
  obtain ⟨v2, l2, d2, e2, p2, q2, rfl, rfl, rfl, h2, hA⟩ := trodAll_cons hA
  obtain ⟨v3, l3, d3, e3, p3, q3, rfl, rfl, rfl, h3, hA⟩ := trodAll_cons hA
  obtain ⟨rfl, rfl, rfl⟩ := trodAll_nil hA
  have hargs : args = #[v0, v1, v2, v3] := by cases args; simp_all
  subst hargs
  obtain ⟨x0, _, a0⟩ := readInt.one' (td := .int .i64) (by kernel_rfl) rfl (hval 0 3 v0 rfl rfl) h0
  obtain ⟨x1, _, a1⟩ := readInt.one' (td := .int .i64) (by kernel_rfl) rfl (hval 1 3 v1 rfl rfl) h1
  obtain ⟨x2, _, a2⟩ := readInt.one' (td := .int .i64) (by kernel_rfl) rfl (hval 2 3 v2 rfl rfl) h2
  obtain ⟨x3, _, a3⟩ := readInt.one' (td := .int .i64) (by kernel_rfl) rfl (hval 3 3 v3 rfl rfl) h3
  refine ((workflowlaw54_BallotNewer.ok (law_BallotNewer x0 x1 x2 x3)).2 W (fun b => b < W.heap.size) #[v0, v1, v2, v3] (fun _ h => h) rfl (fun i x v hx hv => ras_cons (V := V) (a0 _ rfl) (ras_cons (a1 _ rfl) (ras_cons (a2 _ rfl) (ras_cons (a3 _ rfl) ras_nil))) i x v hx (by rw [← Array.getElem?_toList] at hv; exact hv))).mono fun e W' he => ?_
  obtain ⟨v, Z', rfl, ho, hr⟩ := he
  have hv := inv_lit _ hr
  subst hv
  exact ⟨_, rfl, post_true hW' ho.below rfl laidOut (by kernel_rfl) rfl (tb := 4) (by kernel_rfl) rfl⟩

theorem BallotNewer_holds : Rows.BallotNewerSaid :=
  OpenClaim.holds_of_wide 7 Try.f7 rfl rfl rfl rfl rfl rfl rfl ⟨rfl, rfl, rfl, rfl, rfl⟩ rfl rfl rfl rfl rfl (by kernel_rfl) Try.func7 (by kernel_rfl)
    (of_decide_eq_true (by kernel_rfl)) (by unfold Func.isWrapper; first | (rw [if_pos (by decide +kernel)]; kernel_rfl) | (rw [if_neg (by decide +kernel)]; exact ⟨rfl, rfl⟩))
    (fun os started H enc _ => lifted_BallotNewer os started H enc)

#print axioms BallotNewer_holds

end Go.Proofs.Ytkcaccppmenfmaa
