/- For all replicas, Last, Common, Committed, Right and Same return what the document says; no condition. -/
import Derived.Test.YtkcaccppmenfmaaLwJ
import Derived.Test.YtkcaccppmenfmaaRows
set_option linter.unusedVariables false
set_option linter.unusedSimpArgs false
namespace Go.Proofs.Ytkcaccppmenfmaa
open Eng Go.ChangeShapes Go.WideShapes Go.ChangeAt Go.RowKit

theorem ownKnobNone : ownKnob Try.prog.godebug = none := by kernel_rfl
theorem laidOut : laidOutB Try.prog = true := by kernel_rfl


def G_3 : Int → Prop := (fun n => (Lit.int .i64 n).wf = true)
theorem reads_3 : ReadsAs V P 3 (Codec.int (T := T) .i64) G_3 := reads_int (by kernel_rfl)

def G_5e : UInt8 → Prop := (fun _ => True)
theorem reads_5e : ReadsAs V P 5 (Codec.byte (T := T)) G_5e := reads_byte (by kernel_rfl)

theorem bytes_37 : P.bytesOf 5 = 1 := by kernel_rfl
def G_37 : List UInt8 → Prop := (fun l => l.length * P.bytesOf 5 ≤ reachBytes ∧ l.length ≤ 9223372036854775807 ∧ ∀ x ∈ l, G_5e x)
theorem reads_37 : ReadsAs V P 37 (Codec.sl (T := T) Tag.t_uint8) G_37 := reads_sl (e := 5) (by kernel_rfl) (fun _ => rfl) (by kernel_rfl) (by rw [show P.cellsOf 5 = 1 from by kernel_rfl]; decide) reads_5e

def G_39 : api_Entry → Prop := (fun y => G_3 y.Epoch ∧ G_37 y.Data)
theorem reads_39 : ReadsAs V P 39 c_api_Entry G_39 := reads_struct Try.underlying39 (by kernel_rfl) (readsF_cons (by kernel_rfl) reads_3 (readsF_one (by kernel_rfl) reads_37))

theorem bytes_22 : P.bytesOf 39 = 32 := by kernel_rfl
def G_22 : List api_Entry → Prop := (fun l => l.length * P.bytesOf 39 ≤ reachBytes ∧ l.length ≤ 9223372036854775807 ∧ ∀ x ∈ l, G_39 x)
theorem reads_22 : ReadsAs V P 22 (Codec.sl (T := T) Tag.t_api_Entry) G_22 := reads_sl (e := 39) (by kernel_rfl) (fun _ => rfl) (by kernel_rfl) (by rw [show P.cellsOf 39 = 2 from by kernel_rfl]; decide) reads_39

def G_24 : api_Replica → Prop := (fun y => G_3 y.Epoch ∧ G_3 y.Vote ∧ G_3 y.Commit ∧ G_22 y.Log)
theorem reads_24 : ReadsAs V P 24 c_api_Replica G_24 := reads_struct Try.underlying24 (by kernel_rfl) (readsF_cons (by kernel_rfl) reads_3 (readsF_cons (by kernel_rfl) reads_3 (readsF_cons (by kernel_rfl) reads_3 (readsF_one (by kernel_rfl) reads_22))))

theorem most_le : ∀ (l : List api_Entry) (D : Nat), (∀ x ∈ l, x.Data.length ≤ D) → most l ≤ D
  | [], D, _ => Nat.zero_le _
  | y :: l, D, h => by
    have h1 := h y (by simp)
    have h2 := most_le l D (fun x hx => h x (by simp [hx]))
    unfold most at h2 ⊢
    rw [List.foldr_cons]
    omega

theorem bound_of (r : api_Replica) (g : G_24 r) : most r.Log ≤ 140737488355328 := by
  refine most_le _ _ fun x hx => ?_
  have h1 := (g.2.2.2.2.2 x hx).2.1
  rw [bytes_37] at h1
  have h2 : reachBytes = 140737488351232 := rfl
  omega

theorem law_rd (a b : api_Replica) (ga : G_24 a) (gb : G_24 b) : workflowlaw52_ReplogReads (100000 + (most a.Log + most b.Log)) a b = some true := by
  have h1 := bound_of a ga
  have h2 := bound_of b gb
  refine law_reads _ (max (most a.Log) (most b.Log)) a b (fun x hx => ?_) (fun x hx => ?_) (by omega) (by omega) (by omega)
  · have := most_ge a.Log x hx; omega
  · have := most_ge b.Log x hx; omega

set_option maxRecDepth 100000 in
theorem lifted_ReplogReads (os : Os) (started : os.Started) (H : Type) (enc : TypeId × Value → H) :
    ReturnsInHanded {} Try.checked os 6 .any (Rows.replogReadsSpec.pre6 enc Try.prog Try.f6 Rows.replogReadsRow.domain false) (Rows.replogReadsSpec.post enc Try.prog Try.f6 false true false false) := by
  refine returnsInHanded_of_change_sized (C := Try.checked) ownKnobNone started (by kernel_rfl) Try.func6
    (ChangeSpec.witness6 (enc := enc) (C := Try.checked) false ⟨#[], #[.agg #[.int .i64 0, .int .i64 0, .int .i64 0, .slice none 0 0], .agg #[.int .i64 0, .int .i64 0, .int .i64 0, .slice none 0 0]], []⟩ 8 (by kernel_rfl) (by kernel_rfl) (by kernel_rfl) (by kernel_rfl)) ?_
  intro W base args ds gs before hval0 hW hcnd hsz0 _
  have hW' := hW
  obtain ⟨p, q, hA0, hV, rfl, hfz, hnd⟩ := hW
  have hA : DataW.TrodAll enc Try.prog W 0 (fun _ => true) true Try.f6.params.toList args.toList ds p := hA0
  rw [Try.params6] at hA
  have hval : ∀ (j : Nat) t v, Try.f6.params[j]? = some t → args[j]? = some v → Value.okWide Try.prog W .any base t v := hval0
  rw [Try.params6] at hval
  obtain ⟨rfl, _⟩ := trodVars_none hV
  obtain ⟨v0, l0, d0, e0, p0, q0, r0, rfl, rfl, h0, hA⟩ := trodAll_cons hA
  obtain ⟨v1, l1, d1, e1, p1, q1, rfl, rfl, rfl, h1, hA⟩ := trodAll_cons hA
  obtain ⟨rfl, rfl, rfl⟩ := trodAll_nil hA
  have hsz : (DataW.weightsEach P [24, 24] [d0, d1]).all (· ≤ reachBytes) = true := hsz0
  obtain ⟨w0, hsz⟩ := weights_cons hsz
  obtain ⟨w1, hsz⟩ := weights_cons hsz
  have hargs : args = #[v0, v1] := by cases args; simp_all
  subst hargs
  obtain ⟨x0, g0, a0⟩ := reads_24.agg' Try.underlying24 (hval 0 24 v0 rfl rfl) h0 w0
  obtain ⟨x1, g1, a1⟩ := reads_24.agg' Try.underlying24 (hval 1 24 v1 rfl rfl) h1 w1
  refine ((workflowlaw52_ReplogReads.ok (law_rd x0 x1 g0 g1)).2 W (fun b => b < W.heap.size) #[v0, v1] (fun _ h => h) rfl (fun i x v hx hv => (ras_cons (V := V) a0 (ras_cons (V := V) a1 ras_nil)) i x v hx (by rw [← Array.getElem?_toList] at hv; exact hv))).mono fun e W' he => ?_
  obtain ⟨v, Z', rfl, ho, hr⟩ := he
  have hv := inv_lit _ hr
  subst hv
  exact ⟨_, rfl, post_true hW' ho.below rfl laidOut (by kernel_rfl) rfl (tb := 4) (by kernel_rfl) rfl⟩

theorem ReplogReads_holds : Rows.ReplogReadsSaid :=
  OpenClaim.holds_of_wide 6 Try.f6 rfl rfl rfl rfl rfl rfl rfl ⟨rfl, rfl, rfl, rfl, rfl⟩ rfl rfl rfl rfl rfl (by kernel_rfl) Try.func6 (by kernel_rfl)
    (of_decide_eq_true (by kernel_rfl)) (by unfold Func.isWrapper; first | (rw [if_pos (by decide +kernel)]; kernel_rfl) | (rw [if_neg (by decide +kernel)]; exact ⟨rfl, rfl⟩))
    (fun os started H enc _ => lifted_ReplogReads os started H enc)

#print axioms ReplogReads_holds

end Go.Proofs.Ytkcaccppmenfmaa
