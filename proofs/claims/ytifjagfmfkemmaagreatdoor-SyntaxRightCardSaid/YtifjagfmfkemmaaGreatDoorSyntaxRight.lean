/- Right, RightExpr, Size and Depth return the results that the document gives, for any tree; no condition. -/
import Derived.Test.YtifjagfmfkemmaaGreatDoorLwI
import Derived.Test.YtifjagfmfkemmaaGreatDoorRows
import Derived.Test.YtifjagfmfkemmaaGreatDoorGl
import Derived.Test.YtifjagfmfkemmaaGreatDoorCards
import Derived.Test.YtifjagfmfkemmaaGreatDoorTie
import Derived.Stop.Joined
import Derived.SevenTiedAt
import Derived.OpenShut
set_option linter.unusedVariables false
set_option linter.unusedSimpArgs false
namespace Go.Proofs.YtifjagfmfkemmaaGreatDoor
open Eng Go.ChangeShapes Go.WideShapes Go.ChangeAt Go.RowKit

theorem ownKnobNone : ownKnob Tryz.prog.godebug = none := by kernel_rfl
theorem laidOut : laidOutB Tryz.prog = true := by kernel_rfl


def G_3 : Int → Prop := (fun n => (Lit.int .i64 n).wf = true)
theorem reads_3 : ReadsAs V P 3 (Codec.int (T := T) .i64) G_3 := reads_int (by kernel_rfl)

def G_9 : List UInt8 → Prop := (fun l => l.length ≤ reachBytes)
theorem reads_9 : ReadsAs V P 9 (Codec.str (T := T)) G_9 := reads_str (by kernel_rfl)

inductive G_25 : Aa → Prop where
  | mk {y : Aa} (h0 : G_3 y.Op) (h1 : G_9 y.Name) (h2 : G_3 y.Int) (h3 : G_9 y.Text) (h4 : y.Kids.length * P.bytesOf 25 ≤ reachBytes) (h5 : y.Kids.length ≤ 9223372036854775807) (h6 : ∀ x ∈ y.Kids, G_25 x) : G_25 y
theorem bytes_25 : P.bytesOf 25 = 72 := by kernel_rfl
theorem reads_25N : ∀ N, ReadsN N V P 25 Fu G_25
  | 0 => readsN_zero
  | N + 1 => (readsN_struct Tryz.underlying25 (by kernel_rfl) (readsFN_cons (by kernel_rfl) reads_3.n (readsFN_cons (by kernel_rfl) reads_9.n (readsFN_cons (by kernel_rfl) reads_3.n (readsFN_cons (by kernel_rfl) reads_9.n (readsFN_one (by kernel_rfl) (readsN_sl (e := 25) (by kernel_rfl) (fun _ => rfl) (by kernel_rfl) (by rw [show P.cellsOf 25 = 5 from by kernel_rfl]; decide) (reads_25N N)))))))).imp fun y ⟨h0, h1, h2, h3, h4, h5, h6⟩ => .mk h0 h1 h2 h3 h4 h5 h6
theorem reads_25 : ReadsAs V P 25 Fu G_25 := readsN_all reads_25N

theorem law_rd (x0 : Aa) : Di 5000000 x0 = some true := Hj x0

set_option maxRecDepth 100000 in
theorem lifted_SyntaxRight (os : Os) (started : os.Started) (H : Type) (enc : TypeId × Value → H) :
    ReturnsInHanded {} Tryz.checked os 7 .any (fun w args => (Rows.syntaxRightSpec.pre enc Tryz.prog Tryz.f7 [] false w args ∧ laidMetH Tryz.prog Rows.syntaxRightRow.laid w) ∧ sizedMet enc Tryz.prog Tryz.f7 (OpenSpec.ofChange Rows.syntaxRightSpec) false w args) (Rows.syntaxRightSpec.post enc Tryz.prog Tryz.f7 false true false false) := by
  refine returnsInHanded_of_change_and (C := Tryz.checked) (X := fun w _ => laidMetH Tryz.prog Rows.syntaxRightRow.laid w) (fun _ _ _ hh h => h.of_heap hh) ownKnobNone started (by kernel_rfl) Tryz.func7
    (ChangeSpec.witness_shaped (enc := enc) (C := Tryz.checked) (os := os) (X := fun w _ => laidMetH Tryz.prog Rows.syntaxRightRow.laid w) false (World.doorLaid Tryz.prog 86 os) #[.agg #[.int .i64 0, .string ⟨#[]⟩, .int .i64 0, .string ⟨#[]⟩, .slice none 0 0]] 8 rfl (World.shaped_of_RefB (by kernel_rfl) (by kernel_rfl)) (by kernel_rfl) (by kernel_rfl) (by kernel_rfl) (door_met os _)) ?_
  intro W base args ds gs before hval0 hW hcnd hsz0 hL _
  have hW' := hW
  obtain ⟨p, q, hA0, hV, rfl, hfz, hnd⟩ := hW
  have hA : DataW.TrodAll enc Tryz.prog W 0 (fun _ => true) true Tryz.f7.params.toList args.toList ds p := hA0
  rw [Tryz.params7] at hA
  have hval : ∀ (j : Nat) t v, Tryz.f7.params[j]? = some t → args[j]? = some v → Value.okWide Tryz.prog W .any base t v := hval0
  rw [Tryz.params7] at hval
  obtain ⟨rfl, _⟩ := trodVars_none hV
  obtain ⟨v0, l0, d0, e0, p0, q0, r0, rfl, rfl, h0, hA⟩ := trodAll_cons hA
  obtain ⟨rfl, rfl, rfl⟩ := trodAll_nil hA
  have hsz : (DataW.weightsEach P [25] [d0]).all (· ≤ reachBytes) = true := hsz0
  obtain ⟨w0, hsz⟩ := weights_cons hsz
  have hargs : args = #[v0] := by cases args; simp_all
  subst hargs
  obtain ⟨x0, g0, a0⟩ := reads_25.agg' Tryz.underlying25 (hval 0 25 v0 rfl rfl) h0 w0
  refine ((Di.ok (law_rd x0)).2 W (fun b => b < W.heap.size) #[v0] ⟨fun _ h => h, gok_of hL⟩ rfl (fun i x v hx hv => (ras_cons (V := V) a0 ras_nil) i x v hx (by rw [← Array.getElem?_toList] at hv; exact hv))).mono fun e W' he => ?_
  obtain ⟨v, Z', rfl, ho, hr⟩ := he
  have hv := inv_lit _ hr
  subst hv
  exact ⟨_, rfl, post_true hW' ho.below rfl laidOut (by kernel_rfl) rfl (tb := 4) (by kernel_rfl) rfl⟩

theorem SyntaxRight_holds : Rows.SyntaxRightSaid :=
  OpenClaim.holds_of_wide 7 Tryz.f7 rfl rfl rfl rfl rfl rfl rfl ⟨rfl, rfl, rfl, rfl, rfl⟩ rfl rfl rfl rfl rfl (by kernel_rfl) Tryz.func7 (by kernel_rfl)
    (of_decide_eq_true (by kernel_rfl)) (by unfold Func.isWrapper; first | (rw [if_pos (by decide +kernel)]; kernel_rfl) | (rw [if_neg (by decide +kernel)]; exact ⟨rfl, rfl⟩))
    (fun os started H enc _ => lifted_SyntaxRight os started H enc)


theorem SyntaxRight_card : Rows.SyntaxRightCardSaid :=
  Claim7.holds_tied_plain_at .later [] [.data, .data, .data, .sentinel, .sentinel, .listed, .data] true (true, "5da1409bf61446787057366be11c3c83ec6f9b9cd95ad81eb72b2cae587dfcee") true
    SyntaxRight_holds (fun _ h => by cases h) (by kernel_rfl) (fun _ h => by cases h) syntaxRight_row_tie rfl ⟨rfl, rfl⟩ (by kernel_rfl) rfl
    (fun f fn hf hfn => by
      obtain rfl : f = 7 := Option.some.inj ((show Tryz.prog.funcNamed "workflow/workflowlaw08.SyntaxRight" = some 7 by kernel_rfl).symm.trans hf) |>.symm
      obtain rfl : fn = Tryz.f7 := (Option.some.inj (Tryz.func7.symm.trans hfn)).symm
      exact ⟨by kernel_rfl, fun j t ht => by
        rw [Tryz.params7] at ht
        have hm : t ∈ [25] := by simpa using Array.mem_of_getElem? ht
        have hall : ([25].all fun u => !Tryz.prog.wantsStandIn u) = true := by kernel_rfl
        exact (show Tryz.prog.wantsStandIn t = false by simpa using List.all_eq_true.1 hall t hm)⟩)
    (by kernel_rfl)

#print axioms SyntaxRight_card

end Go.Proofs.YtifjagfmfkemmaaGreatDoor
