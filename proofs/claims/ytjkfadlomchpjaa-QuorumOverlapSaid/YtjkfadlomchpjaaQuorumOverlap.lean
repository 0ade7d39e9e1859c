/- QuorumOverlap: for every input the law returns true: two majorities of a group have a common member. -/
import Derived.Test.YtjkfadlomchpjaaLwC
import Derived.Test.YtjkfadlomchpjaaRows
set_option linter.unusedVariables false
set_option linter.unusedSimpArgs false
namespace Go.Proofs.Ytjkfadlomchpjaa
open Eng Go.ChangeShapes Go.WideShapes Go.ChangeAt Go.RowKit

theorem ownKnobNone : ownKnob Try.prog.godebug = none := by kernel_rfl
theorem laidOut : laidOutB Try.prog = true := by kernel_rfl


def G_3 : Int → Prop := (fun n => (Lit.int .i64 n).wf = true)
theorem reads_3 : ReadsAs V P 3 (Codec.int (T := T) .i64) G_3 := reads_int (by kernel_rfl)

theorem overlap_h (n a b : Int) (g0 : G_3 n) (g1 : G_3 a) (g2 : G_3 b) : workflowlaw53_QuorumOverlap 100000 n a b = some true := overlaps_eq n a b (i64_of_wf g1) (i64_of_wf g2)

set_option maxRecDepth 100000 in
theorem lifted_QuorumOverlap (os : Os) (started : os.Started) (H : Type) (enc : TypeId × Value → H) :
    ReturnsInHanded {} Try.checked os 6 .any (Rows.quorumOverlapSpec.pre6 enc Try.prog Try.f6 Rows.quorumOverlapRow.domain false) (Rows.quorumOverlapSpec.post enc Try.prog Try.f6 false true false false) := by
  refine returnsInHanded_of_change_sized (C := Try.checked) ownKnobNone started (by kernel_rfl) Try.func6
    (ChangeSpec.witness6 (enc := enc) (C := Try.checked) false ⟨#[], #[.int .i64 0, .int .i64 0, .int .i64 0], []⟩ 8 (by kernel_rfl) (by kernel_rfl) (by kernel_rfl) (by kernel_rfl)) ?_
  intro W base args ds gs before hval0 hW hcnd hsz0 _
  have hW' := hW
  obtain ⟨p, q, hA0, hV, rfl, hfz, hnd⟩ := hW
  have hA : DataW.TrodAll enc Try.prog W 0 (fun _ => true) true Try.f6.params.toList args.toList ds p := hA0
  rw [Try.params6] at hA
  have hval : ∀ (j : Nat) t v, Try.f6.params[j]? = some t → args[j]? = some v → Value.okWide Try.prog W .any base t v := hval0
  rw [Try.params6] at hval
  obtain ⟨rfl, _⟩ := trodVars_none hV
  obtain ⟨v0, l0, d0, e0, p0, q0, r0, rfl, rfl, h0, hA⟩ := trodAll_cons hA
  obtain ⟨v1, l1, d1, e1, p1, q1, rfl, rfl, rfl, h1, hA⟩ := trodAll_cons hA
  obtain ⟨v2, l2, d2, e2, p2, q2, rfl, rfl, rfl, h2, hA⟩ := trodAll_cons hA
  obtain ⟨rfl, rfl, rfl⟩ := trodAll_nil hA
  have hsz : (DataW.weightsEach P [3, 3, 3] [d0, d1, d2]).all (· ≤ reachBytes) = true := hsz0
  obtain ⟨w0, hsz⟩ := weights_cons hsz
  obtain ⟨w1, hsz⟩ := weights_cons hsz
  obtain ⟨w2, hsz⟩ := weights_cons hsz
  have hargs : args = #[v0, v1, v2] := by cases args; simp_all
  subst hargs
  obtain ⟨x0, g0, a0⟩ := reads_3.one' (td := .int .i64) (by kernel_rfl) rfl (hval 0 3 v0 rfl rfl) h0 w0
  obtain ⟨x1, g1, a1⟩ := reads_3.one' (td := .int .i64) (by kernel_rfl) rfl (hval 1 3 v1 rfl rfl) h1 w1
  obtain ⟨x2, g2, a2⟩ := reads_3.one' (td := .int .i64) (by kernel_rfl) rfl (hval 2 3 v2 rfl rfl) h2 w2
  refine ((workflowlaw53_QuorumOverlap.ok (overlap_h x0 x1 x2 g0 g1 g2)).2 W (fun b => b < W.heap.size) #[v0, v1, v2] (fun _ h => h) rfl (fun i x v hx hv => (ras_cons (V := V) (a0 _ rfl) (ras_cons (V := V) (a1 _ rfl) (ras_cons (V := V) (a2 _ rfl) ras_nil))) i x v hx (by rw [← Array.getElem?_toList] at hv; exact hv))).mono fun e W' he => ?_
  obtain ⟨v, Z', rfl, ho, hr⟩ := he
  have hv := inv_lit _ hr
  subst hv
  exact ⟨_, rfl, post_true hW' ho.below rfl laidOut (by kernel_rfl) rfl (tb := 4) (by kernel_rfl) rfl⟩

theorem QuorumOverlap_holds : Rows.QuorumOverlapSaid :=
  OpenClaim.holds_of_wide 6 Try.f6 rfl rfl rfl rfl rfl rfl rfl ⟨rfl, rfl, rfl, rfl, rfl⟩ rfl rfl rfl rfl rfl (by kernel_rfl) Try.func6 (by kernel_rfl)
    (of_decide_eq_true (by kernel_rfl)) (by unfold Func.isWrapper; first | (rw [if_pos (by decide +kernel)]; kernel_rfl) | (rw [if_neg (by decide +kernel)]; exact ⟨rfl, rfl⟩))
    (fun os started H enc _ => lifted_QuorumOverlap os started H enc)

#print axioms QuorumOverlap_holds

end Go.Proofs.Ytjkfadlomchpjaa
