/- The tokens of a text, spelled and scanned again, are the same; no condition. -/
import Derived.Test.YtahpbjjfpbmaiaaDoorLwK
import Derived.Test.YtahpbjjfpbmaiaaDoorRows
import Derived.Test.YtahpbjjfpbmaiaaDoorGl
import Derived.Test.YtahpbjjfpbmaiaaDoorCards
import Derived.Test.YtahpbjjfpbmaiaaDoorTie
import Derived.Stop.Joined
import Derived.SevenTiedAt
import Derived.OpenShut
set_option linter.unusedVariables false
set_option linter.unusedSimpArgs false
namespace Go.Proofs.YtahpbjjfpbmaiaaDoor
open Eng Go.ChangeShapes Go.WideShapes Go.ChangeAt Go.RowKit

theorem ownKnobNone : ownKnob Tryd.prog.godebug = none := by kernel_rfl
theorem laidOut : laidOutB Tryd.prog = true := by kernel_rfl


def G_9 : List UInt8 → Prop := (fun l => l.length ≤ reachBytes)
theorem reads_9 : ReadsAs V P 9 (Codec.str (T := T)) G_9 := reads_str (by kernel_rfl)


set_option maxRecDepth 100000 in
theorem lifted_TokenAgain (os : Os) (started : os.Started) (H : Type) (enc : TypeId × Value → H) :
    ReturnsInHanded {} Tryd.checked os 9 .any (fun w args => (Rows.tokenAgainSpec.pre enc Tryd.prog Tryd.f9 [] false w args ∧ laidMetH Tryd.prog Rows.tokenAgainRow.laid w) ∧ sizedMet enc Tryd.prog Tryd.f9 (OpenSpec.ofChange Rows.tokenAgainSpec) false w args) (Rows.tokenAgainSpec.post enc Tryd.prog Tryd.f9 false true false false) := by
  refine returnsInHanded_of_change_and (C := Tryd.checked) (X := fun w _ => laidMetH Tryd.prog Rows.tokenAgainRow.laid w) (fun _ _ _ hh h => h.of_heap hh) ownKnobNone started (by kernel_rfl) Tryd.func9
    (ChangeSpec.witness_shaped (enc := enc) (C := Tryd.checked) (os := os) (X := fun w _ => laidMetH Tryd.prog Rows.tokenAgainRow.laid w) false (World.doorLaid Tryd.prog 86 os) #[.string ⟨#[]⟩] 8 rfl (World.shaped_of_RefB (by kernel_rfl) (by kernel_rfl)) (by kernel_rfl) (by kernel_rfl) (by kernel_rfl) (door_met os _)) ?_
  intro W base args ds gs before hval0 hW hcnd hsz0 hL _
  have hW' := hW
  obtain ⟨p, q, hA0, hV, rfl, hfz, hnd⟩ := hW
  have hA : DataW.TrodAll enc Tryd.prog W 0 (fun _ => true) true Tryd.f9.params.toList args.toList ds p := hA0
  rw [Tryd.params9] at hA
  have hval : ∀ (j : Nat) t v, Tryd.f9.params[j]? = some t → args[j]? = some v → Value.okWide Tryd.prog W .any base t v := hval0
  rw [Tryd.params9] at hval
  obtain ⟨rfl, _⟩ := trodVars_none hV
  obtain ⟨v0, l0, d0, e0, p0, q0, r0, rfl, rfl, h0, hA⟩ := trodAll_cons hA
  obtain ⟨rfl, rfl, rfl⟩ := trodAll_nil hA
  have hsz : (DataW.weightsEach P [9] [d0]).all (· ≤ reachBytes) = true := hsz0
  obtain ⟨w0, hsz⟩ := weights_cons hsz
  have hargs : args = #[v0] := by cases args; simp_all
  subst hargs
  obtain ⟨x0, g0, a0⟩ := reads_9.one' (td := .string) (by kernel_rfl) rfl (hval 0 9 v0 rfl rfl) h0 w0
  refine ((workflowlaw07_TokenAgain.ok (law_again x0)).2 W (fun b => b < W.heap.size) #[v0] ⟨fun _ h => h, gok_of hL⟩ rfl (fun i x v hx hv => (ras_cons (V := V) (a0 _ rfl) ras_nil) i x v hx (by rw [← Array.getElem?_toList] at hv; exact hv))).mono fun e W' he => ?_
  obtain ⟨v, Z', rfl, ho, hr⟩ := he
  have hv := inv_lit _ hr
  subst hv
  exact ⟨_, rfl, post_true hW' ho.below rfl laidOut (by kernel_rfl) rfl (tb := 4) (by kernel_rfl) rfl⟩

theorem TokenAgain_holds : Rows.TokenAgainSaid :=
  OpenClaim.holds_of_wide 9 Tryd.f9 rfl rfl rfl rfl rfl rfl rfl ⟨rfl, rfl, rfl, rfl, rfl⟩ rfl rfl rfl rfl rfl (by kernel_rfl) Tryd.func9 (by kernel_rfl)
    (of_decide_eq_true (by kernel_rfl)) (by unfold Func.isWrapper; first | (rw [if_pos (by decide +kernel)]; kernel_rfl) | (rw [if_neg (by decide +kernel)]; exact ⟨rfl, rfl⟩))
    (fun os started H enc _ => lifted_TokenAgain os started H enc)


theorem TokenAgain_card : Rows.TokenAgainCardSaid :=
  Claim7.holds_tied_plain_at .later [] [.data, .data, .data, .sentinel, .sentinel, .listed, .data] true (true, "d576a4431d10a640c4062a81e6e21b08cf4e06976c40f34335b2a0c2940e2f28") true
    TokenAgain_holds (fun _ h => by cases h) (by kernel_rfl) (fun _ h => by cases h) tokenAgain_row_tie rfl ⟨rfl, rfl⟩ (by kernel_rfl) rfl
    (fun f fn hf hfn => by
      obtain rfl : f = 9 := Option.some.inj ((show Tryd.prog.funcNamed "workflow/workflowlaw07.TokenAgain" = some 9 by kernel_rfl).symm.trans hf) |>.symm
      obtain rfl : fn = Tryd.f9 := (Option.some.inj (Tryd.func9.symm.trans hfn)).symm
      exact ⟨by kernel_rfl, fun j t ht => by
        rw [Tryd.params9] at ht
        have hm : t ∈ [9] := by simpa using Array.mem_of_getElem? ht
        have hall : ([9].all fun u => !Tryd.prog.wantsStandIn u) = true := by kernel_rfl
        exact (show Tryd.prog.wantsStandIn t = false by simpa using List.all_eq_true.1 hall t hm)⟩)
    (by kernel_rfl)

#print axioms TokenAgain_card

end Go.Proofs.YtahpbjjfpbmaiaaDoor
