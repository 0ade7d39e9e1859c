/- The tree of two accepted programs, one after the other, has the declarations of both. -/
import Derived.Test.YtifjagfmfkemmaaGreatDoorLw8
import Derived.Test.YtifjagfmfkemmaaGreatDoorRows
import Derived.Test.YtifjagfmfkemmaaGreatDoorGl
import Derived.Test.YtifjagfmfkemmaaGreatDoorCards
import Derived.Test.YtifjagfmfkemmaaGreatDoorTie
import Derived.Stop.Joined
import Derived.SevenTiedAt
import Derived.OpenShut
set_option linter.unusedVariables false
set_option linter.unusedSimpArgs false
namespace Go.Proofs.YtifjagfmfkemmaaGreatDoor
open Eng Go.ChangeShapes Go.WideShapes Go.ChangeAt Go.RowKit

theorem ownKnobNone : ownKnob Tryz.prog.godebug = none := by kernel_rfl
theorem laidOut : laidOutB Tryz.prog = true := by kernel_rfl


def G_9 : List UInt8 → Prop := (fun l => l.length ≤ reachBytes)
theorem reads_9 : Vr V P 9 (T6.str (T := T)) G_9 := Aeq (by kernel_rfl)

theorem law_rd (x0 x1 : List UInt8) : Du 5000000 x0 x1 = some true := L2 x0 x1

set_option maxRecDepth 100000 in
theorem lifted_SyntaxJoins (os : Os) (started : os.Started) (H : Type) (enc : TypeId × Value → H) :
    ReturnsInHanded {} Tryz.checked os 4 .any (fun w args => (Rows.syntaxJoinsSpec.pre enc Tryz.prog Tryz.f4 [] false w args ∧ laidMetH Tryz.prog Rows.syntaxJoinsRow.laid w) ∧ sizedMet enc Tryz.prog Tryz.f4 (OpenSpec.ofChange Rows.syntaxJoinsSpec) false w args) (Rows.syntaxJoinsSpec.post enc Tryz.prog Tryz.f4 false true false false) := by
  refine returnsInHanded_of_change_and (C := Tryz.checked) (X := fun w _ => laidMetH Tryz.prog Rows.syntaxJoinsRow.laid w) (fun _ _ _ hh h => h.of_heap hh) ownKnobNone started (by kernel_rfl) Tryz.func4
    (ChangeSpec.witness_shaped (enc := enc) (C := Tryz.checked) (os := os) (X := fun w _ => laidMetH Tryz.prog Rows.syntaxJoinsRow.laid w) false (World.doorLaid Tryz.prog 86 os) #[.string ⟨#[]⟩, .string ⟨#[]⟩] 8 rfl (World.shaped_of_RefB (by kernel_rfl) (by kernel_rfl)) (by kernel_rfl) (by kernel_rfl) (by kernel_rfl) (door_met os _)) ?_
  intro W base args ds gs before hval0 hW hcnd hsz0 hL _
  have hW' := hW
  obtain ⟨p, q, hA0, hV, rfl, hfz, hnd⟩ := hW
  have hA : DataW.TrodAll enc Tryz.prog W 0 (fun _ => true) true Tryz.f4.params.toList args.toList ds p := hA0
  rw [Tryz.params4] at hA
  have hval : ∀ (j : Nat) t v, Tryz.f4.params[j]? = some t → args[j]? = some v → Value.okWide Tryz.prog W .any base t v := hval0
  rw [Tryz.params4] at hval
  obtain ⟨rfl, _⟩ := trodVars_none hV
  obtain ⟨v0, l0, d0, e0, p0, q0, r0, rfl, rfl, h0, hA⟩ := trodAll_cons hA
  obtain ⟨v1, l1, d1, e1, p1, q1, rfl, rfl, rfl, h1, hA⟩ := trodAll_cons hA
  obtain ⟨rfl, rfl, rfl⟩ := trodAll_nil hA
  have hsz : (DataW.weightsEach P [9, 9] [d0, d1]).all (· ≤ reachBytes) = true := hsz0
  obtain ⟨w0, hsz⟩ := Ya hsz
  obtain ⟨w1, hsz⟩ := Ya hsz
  have hargs : args = #[v0, v1] := by cases args; simp_all
  subst hargs
  obtain ⟨x0, g0, a0⟩ := reads_9.one' (td := .string) (by kernel_rfl) rfl (hval 0 9 v0 rfl rfl) h0 w0
  obtain ⟨x1, g1, a1⟩ := reads_9.one' (td := .string) (by kernel_rfl) rfl (hval 1 9 v1 rfl rfl) h1 w1
  refine ((Du.ok (law_rd x0 x1)).2 W (fun b => b < W.heap.size) #[v0, v1] ⟨fun _ h => h, gok_of hL⟩ rfl (fun i x v hx hv => (Ac7 (V := V) (a0 _ rfl) (Ac7 (V := V) (a1 _ rfl) Afq)) i x v hx (by rw [← Array.getElem?_toList] at hv; exact hv))).mono fun e W' he => ?_
  obtain ⟨v, Z', rfl, ho, hr⟩ := he
  have hv := Ua _ hr
  subst hv
  exact ⟨_, rfl, Aeo hW' ho.below rfl laidOut (by kernel_rfl) rfl (tb := 4) (by kernel_rfl) rfl⟩

theorem SyntaxJoins_holds : Rows.SyntaxJoinsSaid :=
  OpenClaim.holds_of_wide 4 Tryz.f4 rfl rfl rfl rfl rfl rfl rfl ⟨rfl, rfl, rfl, rfl, rfl⟩ rfl rfl rfl rfl rfl (by kernel_rfl) Tryz.func4 (by kernel_rfl)
    (of_decide_eq_true (by kernel_rfl)) (by unfold Func.isWrapper; first | (rw [if_pos (by decide +kernel)]; kernel_rfl) | (rw [if_neg (by decide +kernel)]; exact ⟨rfl, rfl⟩))
    (fun os started H enc _ => lifted_SyntaxJoins os started H enc)


theorem SyntaxJoins_card : Rows.SyntaxJoinsCardSaid :=
  Claim7.holds_tied_plain_at .later [] [.data, .data, .data, .sentinel, .sentinel, .listed, .data] true (true, "5da1409bf61446787057366be11c3c83ec6f9b9cd95ad81eb72b2cae587dfcee") true
    SyntaxJoins_holds (fun _ h => by cases h) (by kernel_rfl) (fun _ h => by cases h) syntaxJoins_row_tie rfl ⟨rfl, rfl⟩ (by kernel_rfl) rfl
    (fun f fn hf hfn => by
      obtain rfl : f = 4 := Option.some.inj ((show Tryz.prog.funcNamed "workflow/workflowlaw08.SyntaxJoins" = some 4 by kernel_rfl).symm.trans hf) |>.symm
      obtain rfl : fn = Tryz.f4 := (Option.some.inj (Tryz.func4.symm.trans hfn)).symm
      exact ⟨by kernel_rfl, fun j t ht => by
        rw [Tryz.params4] at ht
        have hm : t ∈ [9, 9] := by simpa using Array.mem_of_getElem? ht
        have hall : ([9, 9].all fun u => !Tryz.prog.wantsStandIn u) = true := by kernel_rfl
        exact (show Tryz.prog.wantsStandIn t = false by simpa using List.all_eq_true.1 hall t hm)⟩)
    (by kernel_rfl)

#print axioms SyntaxJoins_card

end Go.Proofs.YtifjagfmfkemmaaGreatDoor
