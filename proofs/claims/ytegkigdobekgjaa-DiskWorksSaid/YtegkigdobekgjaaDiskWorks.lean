/- New and any calls return what the document says, and leave the disk that it says, call by call. -/
import Derived.Test.YtegkigdobekgjaaLwG
import Derived.Test.YtegkigdobekgjaaRows
set_option linter.unusedVariables false
set_option linter.unusedSimpArgs false
namespace Go.Proofs.Ytegkigdobekgjaa
open Eng Go.ChangeShapes Go.WideShapes Go.ChangeAt Go.RowKit

theorem ownKnobNone : ownKnob Try.prog.godebug = none := by kernel_rfl
theorem laidOut : laidOutB Try.prog = true := by kernel_rfl


def G_3 : Int → Prop := (fun n => (Lit.int .i64 n).wf = true)
theorem reads_3 : ReadsAs V P 3 (Codec.int (T := T) .i64) G_3 := reads_int (by kernel_rfl)

def G_9 : List UInt8 → Prop := (fun l => l.length ≤ reachBytes)
theorem reads_9 : ReadsAs V P 9 (Codec.str (T := T)) G_9 := reads_str (by kernel_rfl)

def G_5e : UInt8 → Prop := (fun _ => True)
theorem reads_5e : ReadsAs V P 5 (Codec.byte (T := T)) G_5e := reads_byte (by kernel_rfl)

theorem bytes_22 : P.bytesOf 5 = 1 := by kernel_rfl
def G_22 : List UInt8 → Prop := (fun l => l.length * P.bytesOf 5 ≤ reachBytes ∧ l.length ≤ 9223372036854775807 ∧ ∀ x ∈ l, G_5e x)
theorem reads_22 : ReadsAs V P 22 (Codec.sl (T := T) Tag.t_uint8) G_22 := reads_sl (e := 5) (by kernel_rfl) (fun _ => rfl) (by kernel_rfl) (by rw [show P.cellsOf 5 = 1 from by kernel_rfl]; decide) reads_5e

def G_44 : workflowlaw50_Step → Prop := (fun y => G_3 y.Kind ∧ G_9 y.Name ∧ G_9 y.To ∧ G_22 y.Data ∧ G_3 y.N)
theorem reads_44 : ReadsAs V P 44 c_workflowlaw50_Step G_44 := reads_struct Try.underlying44 (by kernel_rfl) (readsF_cons (by kernel_rfl) reads_3 (readsF_cons (by kernel_rfl) reads_9 (readsF_cons (by kernel_rfl) reads_9 (readsF_cons (by kernel_rfl) reads_22 (readsF_one (by kernel_rfl) reads_3)))))

theorem bytes_36 : P.bytesOf 44 = 72 := by kernel_rfl
def G_36 : List workflowlaw50_Step → Prop := (fun l => l.length * P.bytesOf 44 ≤ reachBytes ∧ l.length ≤ 9223372036854775807 ∧ ∀ x ∈ l, G_44 x)
theorem reads_36 : ReadsAs V P 36 (Codec.sl (T := T) Tag.t_workflowlaw50_Step) G_36 := reads_sl (e := 44) (by kernel_rfl) (fun _ => rfl) (by kernel_rfl) (by rw [show P.cellsOf 44 = 5 from by kernel_rfl]; decide) reads_44

theorem wf_hi {n : Int} (h : (Lit.int .i64 n).wf = true) : n ≤ 9223372036854775807 := by
  simp [Lit.wf, IntKind.min, IntKind.max, IntKind.bits, IntKind.signed] at h
  omega

theorem fits_of {l : List workflowlaw50_Step} (h : G_36 l) : Fits l ∧ ∀ st ∈ l, st.N ≤ 9223372036854775807 := by
  have hr : reachBytes = 140737488351232 := rfl
  obtain ⟨_, _, h2⟩ := h
  refine ⟨fun st hm => ?_, fun st hm => wf_hi (h2 st hm).2.2.2.2⟩
  obtain ⟨_, g1, g2, g3, _⟩ := h2 st hm
  have g3 := g3.1
  rw [bytes_22] at g3
  have g1 : st.Name.length ≤ reachBytes := g1
  have g2 : st.To.length ≤ reachBytes := g2
  exact ⟨by omega, by omega, by omega⟩

theorem law_rd (r : Int) (l : List workflowlaw50_Step) (_ : G_3 r) (g : G_36 l) : workflowlaw50_DiskWorks 100000 r l = some true := works_law r l (fits_of g).1 (fits_of g).2

set_option maxRecDepth 100000 in
theorem lifted_DiskWorks (os : Os) (started : os.Started) (H : Type) (enc : TypeId × Value → H) :
    ReturnsInHanded {} Try.checked os 4 .any (Rows.diskWorksSpec.pre6 enc Try.prog Try.f4 Rows.diskWorksRow.domain false) (Rows.diskWorksSpec.post enc Try.prog Try.f4 false true false false) := by
  refine returnsInHanded_of_change_sized (C := Try.checked) ownKnobNone started (by kernel_rfl) Try.func4
    (ChangeSpec.witness6 (enc := enc) (C := Try.checked) false ⟨#[], #[.int .i64 0, .slice none 0 0], []⟩ 8 (by kernel_rfl) (by kernel_rfl) (by kernel_rfl) (by kernel_rfl)) ?_
  intro W base args ds gs before hval0 hW hcnd hsz0 _
  have hW' := hW
  obtain ⟨p, q, hA0, hV, rfl, hfz, hnd⟩ := hW
  have hA : DataW.TrodAll enc Try.prog W 0 (fun _ => true) true Try.f4.params.toList args.toList ds p := hA0
  rw [Try.params4] at hA
  have hval : ∀ (j : Nat) t v, Try.f4.params[j]? = some t → args[j]? = some v → Value.okWide Try.prog W .any base t v := hval0
  rw [Try.params4] at hval
  obtain ⟨rfl, _⟩ := trodVars_none hV
  obtain ⟨v0, l0, d0, e0, p0, q0, r0, rfl, rfl, h0, hA⟩ := trodAll_cons hA
  obtain ⟨v1, l1, d1, e1, p1, q1, rfl, rfl, rfl, h1, hA⟩ := trodAll_cons hA
  obtain ⟨rfl, rfl, rfl⟩ := trodAll_nil hA
  have hsz : (DataW.weightsEach P [3, 36] [d0, d1]).all (· ≤ reachBytes) = true := hsz0
  obtain ⟨w0, hsz⟩ := weights_cons hsz
  obtain ⟨w1, hsz⟩ := weights_cons hsz
  have hargs : args = #[v0, v1] := by cases args; simp_all
  subst hargs
  obtain ⟨x0, g0, a0⟩ := reads_3.one' (td := .int .i64) (by kernel_rfl) rfl (hval 0 3 v0 rfl rfl) h0 w0
  obtain ⟨x1, g1, a1⟩ := reads_36.one' (td := .slice 44) (by kernel_rfl) rfl (hval 1 36 v1 rfl rfl) h1 w1
  refine ((workflowlaw50_DiskWorks.ok (law_rd x0 x1 g0 g1)).2 W (fun b => b < W.heap.size) #[v0, v1] (fun _ h => h) rfl (fun i x v hx hv => (ras_cons (V := V) (a0 _ rfl) (ras_cons (V := V) (a1 _ rfl) ras_nil)) i x v hx (by rw [← Array.getElem?_toList] at hv; exact hv))).mono fun e W' he => ?_
  obtain ⟨v, Z', rfl, ho, hr⟩ := he
  have hv := inv_lit _ hr
  subst hv
  exact ⟨_, rfl, post_true hW' ho.below rfl laidOut (by kernel_rfl) rfl (tb := 4) (by kernel_rfl) rfl⟩

theorem DiskWorks_holds : Rows.DiskWorksSaid :=
  OpenClaim.holds_of_wide 4 Try.f4 rfl rfl rfl rfl rfl rfl rfl ⟨rfl, rfl, rfl, rfl, rfl⟩ rfl rfl rfl rfl rfl (by kernel_rfl) Try.func4 (by kernel_rfl)
    (of_decide_eq_true (by kernel_rfl)) (by unfold Func.isWrapper; first | (rw [if_pos (by decide +kernel)]; kernel_rfl) | (rw [if_neg (by decide +kernel)]; exact ⟨rfl, rfl⟩))
    (fun os started H enc _ => lifted_DiskWorks os started H enc)

#print axioms DiskWorks_holds

end Go.Proofs.Ytegkigdobekgjaa
