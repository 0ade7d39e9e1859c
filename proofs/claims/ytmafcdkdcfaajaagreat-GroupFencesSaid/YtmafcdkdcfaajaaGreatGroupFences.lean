/- After another replica has been elected, the old leader is fenced, and a leader commits exactly if it reaches a majority. -/
import Derived.Test.YtmafcdkdcfaajaaGreatLwR
import Derived.Test.YtmafcdkdcfaajaaGreatRows
set_option linter.unusedVariables false
set_option linter.unusedSimpArgs false
namespace Go.Proofs.YtmafcdkdcfaajaaGreat
open Eng Go.ChangeShapes Go.WideShapes Go.ChangeAt Go.RowKit

theorem ownKnobNone : ownKnob Tryz.prog.godebug = none := by kernel_rfl
theorem laidOut : laidOutB Tryz.prog = true := by kernel_rfl


def G_3 : Int → Prop := (fun n => (Lit.int .i64 n).wf = true)
theorem reads_3 : ReadsAs V P 3 (Codec.int (T := T) .i64) G_3 := reads_int (by kernel_rfl)

def G_5e : UInt8 → Prop := (fun _ => True)
theorem reads_5e : ReadsAs V P 5 (Codec.byte (T := T)) G_5e := reads_byte (by kernel_rfl)

theorem bytes_26 : P.bytesOf 5 = 1 := by kernel_rfl
def G_26 : List UInt8 → Prop := (fun l => l.length * P.bytesOf 5 ≤ reachBytes ∧ l.length ≤ 9223372036854775807 ∧ ∀ x ∈ l, G_5e x)
theorem reads_26 : ReadsAs V P 26 (Codec.sl (T := T) Tag.t_uint8) G_26 := reads_sl (e := 5) (by kernel_rfl) (fun _ => rfl) (by kernel_rfl) (by rw [show P.cellsOf 5 = 1 from by kernel_rfl]; decide) reads_5e

theorem bytes_27 : P.bytesOf 3 = 8 := by kernel_rfl
def G_27 : List Int → Prop := (fun l => l.length * P.bytesOf 3 ≤ reachBytes ∧ l.length ≤ 9223372036854775807 ∧ ∀ x ∈ l, G_3 x)
theorem reads_27 : ReadsAs V P 27 (Codec.sl (T := T) Tag.t_int) G_27 := reads_sl (e := 3) (by kernel_rfl) (fun _ => rfl) (by kernel_rfl) (by rw [show P.cellsOf 3 = 1 from by kernel_rfl]; decide) reads_3

def G_29 : wl55_Step → Prop := (fun y => G_3 y.Kind ∧ G_3 y.I ∧ G_3 y.Epoch ∧ G_26 y.Data ∧ G_27 y.Reach)
theorem reads_29 : ReadsAs V P 29 c_wl55_Step G_29 := reads_struct Tryz.underlying29 (by kernel_rfl) (readsF_cons (by kernel_rfl) reads_3 (readsF_cons (by kernel_rfl) reads_3 (readsF_cons (by kernel_rfl) reads_3 (readsF_cons (by kernel_rfl) reads_26 (readsF_one (by kernel_rfl) reads_27)))))

theorem bytes_37 : P.bytesOf 29 = 72 := by kernel_rfl
def G_37 : List wl55_Step → Prop := (fun l => l.length * P.bytesOf 29 ≤ reachBytes ∧ l.length ≤ 9223372036854775807 ∧ ∀ x ∈ l, G_29 x)
theorem reads_37 : ReadsAs V P 37 (Codec.sl (T := T) Tag.t_wl55_Step) G_37 := reads_sl (e := 29) (by kernel_rfl) (fun _ => rfl) (by kernel_rfl) (by rw [show P.cellsOf 29 = 5 from by kernel_rfl]; decide) reads_29

theorem law_rd (n : Int) (l : List wl55_Step) (d : List UInt8) : wl55_GroupFences 100000 n l d = some true := law_fences 100000 n l d rfl


set_option maxRecDepth 100000 in
theorem lifted_GroupFences (os : Os) (started : os.Started) (H : Type) (enc : TypeId × Value → H) :
    ReturnsInHanded {} Tryz.checked os 4 .any (Rows.groupFencesSpec.pre6 enc Tryz.prog Tryz.f4 Rows.groupFencesRow.domain false) (Rows.groupFencesSpec.post enc Tryz.prog Tryz.f4 false true false false) := by
  refine returnsInHanded_of_change_sized (C := Tryz.checked) ownKnobNone started (by kernel_rfl) Tryz.func4
    (ChangeSpec.witness6 (enc := enc) (C := Tryz.checked) false ⟨#[], #[.int .i64 0, .slice none 0 0, .slice none 0 0], []⟩ 8 (by kernel_rfl) (by kernel_rfl) (by kernel_rfl) (by kernel_rfl)) ?_
  intro W base args ds gs before hval0 hW hcnd hsz0 _
  have hW' := hW
  obtain ⟨p, q, hA0, hV, rfl, hfz, hnd⟩ := hW
  have hA : DataW.TrodAll enc Tryz.prog W 0 (fun _ => true) true Tryz.f4.params.toList args.toList ds p := hA0
  rw [Tryz.params4] at hA
  have hval : ∀ (j : Nat) t v, Tryz.f4.params[j]? = some t → args[j]? = some v → Value.okWide Tryz.prog W .any base t v := hval0
  rw [Tryz.params4] at hval
  obtain ⟨rfl, _⟩ := trodVars_none hV
  obtain ⟨v0, l0, d0, e0, p0, q0, r0, rfl, rfl, h0, hA⟩ := trodAll_cons hA
  obtain ⟨v1, l1, d1, e1, p1, q1, rfl, rfl, rfl, h1, hA⟩ := trodAll_cons hA
  obtain ⟨v2, l2, d2, e2, p2, q2, rfl, rfl, rfl, h2, hA⟩ := trodAll_cons hA
  obtain ⟨rfl, rfl, rfl⟩ := trodAll_nil hA
  have hsz : (DataW.weightsEach P [3, 37, 26] [d0, d1, d2]).all (· ≤ reachBytes) = true := hsz0
  obtain ⟨w0, hsz⟩ := weights_cons hsz
  obtain ⟨w1, hsz⟩ := weights_cons hsz
  obtain ⟨w2, hsz⟩ := weights_cons hsz
  have hargs : args = #[v0, v1, v2] := by cases args; simp_all
  subst hargs
  obtain ⟨x0, g0, a0⟩ := reads_3.one' (td := .int .i64) (by kernel_rfl) rfl (hval 0 3 v0 rfl rfl) h0 w0
  obtain ⟨x1, g1, a1⟩ := reads_37.one' (td := .slice 29) (by kernel_rfl) rfl (hval 1 37 v1 rfl rfl) h1 w1
  obtain ⟨x2, g2, a2⟩ := reads_26.one' (td := .slice 5) (by kernel_rfl) rfl (hval 2 26 v2 rfl rfl) h2 w2
  refine ((wl55_GroupFences.ok (law_rd x0 x1 x2)).2 W (fun b => b < W.heap.size) #[v0, v1, v2] (fun _ h => h) rfl (fun i x v hx hv => (ras_cons (V := V) (a0 _ rfl) (ras_cons (V := V) (a1 _ rfl) (ras_cons (V := V) (a2 _ rfl) ras_nil))) i x v hx (by rw [← Array.getElem?_toList] at hv; exact hv))).mono fun e W' he => ?_
  obtain ⟨v, Z', rfl, ho, hr⟩ := he
  have hv := inv_lit _ hr
  subst hv
  exact ⟨_, rfl, post_true hW' ho.below rfl laidOut (by kernel_rfl) rfl (tb := 4) (by kernel_rfl) rfl⟩

theorem GroupFences_holds : Rows.GroupFencesSaid :=
  OpenClaim.holds_of_wide 4 Tryz.f4 rfl rfl rfl rfl rfl rfl rfl ⟨rfl, rfl, rfl, rfl, rfl⟩ rfl rfl rfl rfl rfl (by kernel_rfl) Tryz.func4 (by kernel_rfl)
    (of_decide_eq_true (by kernel_rfl)) (by unfold Func.isWrapper; first | (rw [if_pos (by decide +kernel)]; kernel_rfl) | (rw [if_neg (by decide +kernel)]; exact ⟨rfl, rfl⟩))
    (fun os started H enc _ => lifted_GroupFences os started H enc)

#print axioms GroupFences_holds

end Go.Proofs.YtmafcdkdcfaajaaGreat
