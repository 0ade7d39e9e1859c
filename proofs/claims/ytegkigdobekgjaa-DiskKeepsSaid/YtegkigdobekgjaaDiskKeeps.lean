/- After a crash a file consists of what was safe and of a beginning of what was appended later, and everything is safe then. -/
import Derived.Test.YtegkigdobekgjaaLwE
import Derived.Test.YtegkigdobekgjaaRows
set_option linter.unusedVariables false
set_option linter.unusedSimpArgs false
namespace Go.Proofs.Ytegkigdobekgjaa
open Eng Go.ChangeShapes Go.WideShapes Go.ChangeAt Go.RowKit

theorem ownKnobNone : ownKnob Try.prog.godebug = none := by kernel_rfl
theorem laidOut : laidOutB Try.prog = true := by kernel_rfl


def G_3 : Int → Prop := (fun n => (Lit.int .i64 n).wf = true)
theorem reads_3 : ReadsAs V P 3 (Codec.int (T := T) .i64) G_3 := reads_int (by kernel_rfl)

def G_9 : List UInt8 → Prop := (fun l => l.length ≤ reachBytes)
theorem reads_9 : ReadsAs V P 9 (Codec.str (T := T)) G_9 := reads_str (by kernel_rfl)

def G_5e : UInt8 → Prop := (fun _ => True)
theorem reads_5e : ReadsAs V P 5 (Codec.byte (T := T)) G_5e := reads_byte (by kernel_rfl)

theorem bytes_22 : P.bytesOf 5 = 1 := by kernel_rfl
def G_22 : List UInt8 → Prop := (fun l => l.length * P.bytesOf 5 ≤ reachBytes ∧ l.length ≤ 9223372036854775807 ∧ ∀ x ∈ l, G_5e x)
theorem reads_22 : ReadsAs V P 22 (Codec.sl (T := T) Tag.t_uint8) G_22 := reads_sl (e := 5) (by kernel_rfl) (fun _ => rfl) (by kernel_rfl) (by rw [show P.cellsOf 5 = 1 from by kernel_rfl]; decide) reads_5e

def G_44 : workflowlaw50_Step → Prop := (fun y => G_3 y.Kind ∧ G_9 y.Name ∧ G_9 y.To ∧ G_22 y.Data ∧ G_3 y.N)
theorem reads_44 : ReadsAs V P 44 c_workflowlaw50_Step G_44 := reads_struct Try.underlying44 (by kernel_rfl) (readsF_cons (by kernel_rfl) reads_3 (readsF_cons (by kernel_rfl) reads_9 (readsF_cons (by kernel_rfl) reads_9 (readsF_cons (by kernel_rfl) reads_22 (readsF_one (by kernel_rfl) reads_3)))))

theorem bytes_36 : P.bytesOf 44 = 72 := by kernel_rfl
def G_36 : List workflowlaw50_Step → Prop := (fun l => l.length * P.bytesOf 44 ≤ reachBytes ∧ l.length ≤ 9223372036854775807 ∧ ∀ x ∈ l, G_44 x)
theorem reads_36 : ReadsAs V P 36 (Codec.sl (T := T) Tag.t_workflowlaw50_Step) G_36 := reads_sl (e := 44) (by kernel_rfl) (fun _ => rfl) (by kernel_rfl) (by rw [show P.cellsOf 44 = 5 from by kernel_rfl]; decide) reads_44

theorem wf_hi {n : Int} (h : (Lit.int .i64 n).wf = true) : n ≤ 9223372036854775807 := by
  simp [Lit.wf, IntKind.min, IntKind.max, IntKind.bits, IntKind.signed] at h
  omega

theorem fits_of {l : List workflowlaw50_Step} (h : G_36 l) : Fits l ∧ ∀ st ∈ l, st.N ≤ 9223372036854775807 := by
  have hr : reachBytes = 140737488351232 := rfl
  obtain ⟨_, _, h2⟩ := h
  refine ⟨fun st hm => ?_, fun st hm => wf_hi (h2 st hm).2.2.2.2⟩
  obtain ⟨_, g1, g2, g3, _⟩ := h2 st hm
  have g3 := g3.1
  rw [bytes_22] at g3
  have g1 : st.Name.length ≤ reachBytes := g1
  have g2 : st.To.length ≤ reachBytes := g2
  exact ⟨by omega, by omega, by omega⟩

theorem law_rd (l a : List workflowlaw50_Step) (nm x y : List UInt8) (k : Int) (g : G_36 l) (ga : G_36 a) (_ : G_9 nm) (_ : G_22 x) (_ : G_22 y) (_ : G_3 k) : workflowlaw50_DiskKeeps 100000 l a nm x y k = some true := keeps_law l a nm x y k (fits_of g).1 (fits_of ga).1 (fits_of g).2

set_option maxRecDepth 100000 in
theorem lifted_DiskKeeps (os : Os) (started : os.Started) (H : Type) (enc : TypeId × Value → H) :
    ReturnsInHanded {} Try.checked os 5 .any (Rows.diskKeepsSpec.pre6 enc Try.prog Try.f5 Rows.diskKeepsRow.domain false) (Rows.diskKeepsSpec.post enc Try.prog Try.f5 false true false false) := by
  refine returnsInHanded_of_change_sized (C := Try.checked) ownKnobNone started (by kernel_rfl) Try.func5
    (ChangeSpec.witness6 (enc := enc) (C := Try.checked) false ⟨#[], #[.slice none 0 0, .slice none 0 0, .string ⟨#[]⟩, .slice none 0 0, .slice none 0 0, .int .i64 0], []⟩ 8 (by kernel_rfl) (by kernel_rfl) (by kernel_rfl) (by kernel_rfl)) ?_
  intro W base args ds gs before hval0 hW hcnd hsz0 _
  have hW' := hW
  obtain ⟨p, q, hA0, hV, rfl, hfz, hnd⟩ := hW
  have hA : DataW.TrodAll enc Try.prog W 0 (fun _ => true) true Try.f5.params.toList args.toList ds p := hA0
  rw [Try.params5] at hA
  have hval : ∀ (j : Nat) t v, Try.f5.params[j]? = some t → args[j]? = some v → Value.okWide Try.prog W .any base t v := hval0
  rw [Try.params5] at hval
  obtain ⟨rfl, _⟩ := trodVars_none hV
  obtain ⟨v0, l0, d0, e0, p0, q0, r0, rfl, rfl, h0, hA⟩ := trodAll_cons hA
  obtain ⟨v1, l1, d1, e1, p1, q1, rfl, rfl, rfl, h1, hA⟩ := trodAll_cons hA
  obtain ⟨v2, l2, d2, e2, p2, q2, rfl, rfl, rfl, h2, hA⟩ := trodAll_cons hA
  obtain ⟨v3, l3, d3, e3, p3, q3, rfl, rfl, rfl, h3, hA⟩ := trodAll_cons hA
  obtain ⟨v4, l4, d4, e4, p4, q4, rfl, rfl, rfl, h4, hA⟩ := trodAll_cons hA
  obtain ⟨v5, l5, d5, e5, p5, q5, rfl, rfl, rfl, h5, hA⟩ := trodAll_cons hA
  obtain ⟨rfl, rfl, rfl⟩ := trodAll_nil hA
  have hsz : (DataW.weightsEach P [36, 36, 9, 22, 22, 3] [d0, d1, d2, d3, d4, d5]).all (· ≤ reachBytes) = true := hsz0
  obtain ⟨w0, hsz⟩ := weights_cons hsz
  obtain ⟨w1, hsz⟩ := weights_cons hsz
  obtain ⟨w2, hsz⟩ := weights_cons hsz
  obtain ⟨w3, hsz⟩ := weights_cons hsz
  obtain ⟨w4, hsz⟩ := weights_cons hsz
  obtain ⟨w5, hsz⟩ := weights_cons hsz
  have hargs : args = #[v0, v1, v2, v3, v4, v5] := by cases args; simp_all
  subst hargs
  obtain ⟨x0, g0, a0⟩ := reads_36.one' (td := .slice 44) (by kernel_rfl) rfl (hval 0 36 v0 rfl rfl) h0 w0
  obtain ⟨x1, g1, a1⟩ := reads_36.one' (td := .slice 44) (by kernel_rfl) rfl (hval 1 36 v1 rfl rfl) h1 w1
  obtain ⟨x2, g2, a2⟩ := reads_9.one' (td := .string) (by kernel_rfl) rfl (hval 2 9 v2 rfl rfl) h2 w2
  obtain ⟨x3, g3, a3⟩ := reads_22.one' (td := .slice 5) (by kernel_rfl) rfl (hval 3 22 v3 rfl rfl) h3 w3
  obtain ⟨x4, g4, a4⟩ := reads_22.one' (td := .slice 5) (by kernel_rfl) rfl (hval 4 22 v4 rfl rfl) h4 w4
  obtain ⟨x5, g5, a5⟩ := reads_3.one' (td := .int .i64) (by kernel_rfl) rfl (hval 5 3 v5 rfl rfl) h5 w5
  refine ((workflowlaw50_DiskKeeps.ok (law_rd x0 x1 x2 x3 x4 x5 g0 g1 g2 g3 g4 g5)).2 W (fun b => b < W.heap.size) #[v0, v1, v2, v3, v4, v5] (fun _ h => h) rfl (fun i x v hx hv => (ras_cons (V := V) (a0 _ rfl) (ras_cons (V := V) (a1 _ rfl) (ras_cons (V := V) (a2 _ rfl) (ras_cons (V := V) (a3 _ rfl) (ras_cons (V := V) (a4 _ rfl) (ras_cons (V := V) (a5 _ rfl) ras_nil)))))) i x v hx (by rw [← Array.getElem?_toList] at hv; exact hv))).mono fun e W' he => ?_
  obtain ⟨v, Z', rfl, ho, hr⟩ := he
  have hv := inv_lit _ hr
  subst hv
  exact ⟨_, rfl, post_true hW' ho.below rfl laidOut (by kernel_rfl) rfl (tb := 4) (by kernel_rfl) rfl⟩

theorem DiskKeeps_holds : Rows.DiskKeepsSaid :=
  OpenClaim.holds_of_wide 5 Try.f5 rfl rfl rfl rfl rfl rfl rfl ⟨rfl, rfl, rfl, rfl, rfl⟩ rfl rfl rfl rfl rfl (by kernel_rfl) Try.func5 (by kernel_rfl)
    (of_decide_eq_true (by kernel_rfl)) (by unfold Func.isWrapper; first | (rw [if_pos (by decide +kernel)]; kernel_rfl) | (rw [if_neg (by decide +kernel)]; exact ⟨rfl, rfl⟩))
    (fun os started H enc _ => lifted_DiskKeeps os started H enc)

#print axioms DiskKeeps_holds

end Go.Proofs.Ytegkigdobekgjaa
