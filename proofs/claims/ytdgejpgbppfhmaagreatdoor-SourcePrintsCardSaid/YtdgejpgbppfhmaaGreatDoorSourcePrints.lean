/- Print gives the document's text of any tree. -/
import Derived.Test.YtdgejpgbppfhmaaGreatDoorLwJ
import Derived.Test.YtdgejpgbppfhmaaGreatDoorRows
import Derived.Test.YtdgejpgbppfhmaaGreatDoorGl
import Derived.Test.YtdgejpgbppfhmaaGreatDoorCards
import Derived.Test.YtdgejpgbppfhmaaGreatDoorTie
import Derived.Stop.Joined
import Derived.SevenTiedAt
import Derived.OpenShut
set_option linter.unusedVariables false
set_option linter.unusedSimpArgs false
namespace Go.Proofs.YtdgejpgbppfhmaaGreatDoor
open Eng Go.ChangeShapes Go.WideShapes Go.ChangeAt Go.RowKit

theorem ownKnobNone : ownKnob Tryz.prog.godebug = none := by kernel_rfl
theorem laidOut : laidOutB Tryz.prog = true := by kernel_rfl


def G_3 : Int → Prop := (fun n => (Lit.int .i64 n).wf = true)
theorem reads_3 : Vg V P 3 (T5.int (T := T) .i64) G_3 := Aei (by kernel_rfl)

def G_9 : List UInt8 → Prop := (fun l => l.length ≤ reachBytes)
theorem reads_9 : Vg V P 9 (T5.str (T := T)) G_9 := Aes (by kernel_rfl)

inductive G_24 : Aa → Prop where
  | mk {y : Aa} (h0 : G_3 y.Op) (h1 : G_9 y.Name) (h2 : G_3 y.Int) (h3 : G_9 y.Text) (h4 : y.Kids.length * P.bytesOf 24 ≤ reachBytes) (h5 : y.Kids.length ≤ 9223372036854775807) (h6 : ∀ x ∈ y.Kids, G_24 x) : G_24 y
theorem bytes_24 : P.bytesOf 24 = 72 := by kernel_rfl
theorem reads_24N : ∀ N, V0 N V P 24 I5 G_24
  | 0 => Ac9
  | N + 1 => (Aay Tryz.underlying24 (by kernel_rfl) (V1 (by kernel_rfl) reads_3.n (V1 (by kernel_rfl) reads_9.n (V1 (by kernel_rfl) reads_3.n (V1 (by kernel_rfl) reads_9.n (Y9 (by kernel_rfl) (Aeq (e := 24) (by kernel_rfl) (fun _ => rfl) (by kernel_rfl) (by rw [show P.cellsOf 24 = 5 from by kernel_rfl]; decide) (reads_24N N)))))))).imp fun y ⟨h0, h1, h2, h3, h4, h5, h6⟩ => .mk h0 h1 h2 h3 h4 h5 h6
theorem reads_24 : Vg V P 24 I5 G_24 := Adk reads_24N

theorem gd_of : ∀ {n : Aa}, G_24 n → Gd n
  | _, .mk h0 h1 h2 h3 h4 h5 h6 => by
    rw [P1, Kv]
    rw [bytes_24] at h4
    have e : reachBytes = 140737488351232 := by kernel_rfl
    have h1' : _ ≤ reachBytes := h1
    have h3' : _ ≤ reachBytes := h3
    have h2' : (Lit.int .i64 _).wf = true := h2
    simp [Lit.wf, IntKind.min, IntKind.max, IntKind.bits, IntKind.signed] at h2'
    rw [e] at h1' h3' h4
    exact ⟨by omega, by omega, by omega, by omega, fun x hx => gd_of (h6 x hx)⟩
theorem law_rd (x0 : Aa) (h : G_24 x0) : Fg 5000000 x0 = some true := L5 x0 (gd_of h)

set_option maxRecDepth 100000 in
theorem lifted_SourcePrints (os : Os) (started : os.Started) (H : Type) (enc : TypeId × Value → H) :
    ReturnsInHanded {} Tryz.checked os 3 .any (fun w args => (Rows.sourcePrintsSpec.pre enc Tryz.prog Tryz.f3 [] false w args ∧ laidMetH Tryz.prog Rows.sourcePrintsRow.laid w) ∧ sizedMet enc Tryz.prog Tryz.f3 (OpenSpec.ofChange Rows.sourcePrintsSpec) false w args) (Rows.sourcePrintsSpec.post enc Tryz.prog Tryz.f3 false true false false) := by
  refine returnsInHanded_of_change_and (C := Tryz.checked) (X := fun w _ => laidMetH Tryz.prog Rows.sourcePrintsRow.laid w) (fun _ _ _ hh h => h.of_heap hh) ownKnobNone started (by kernel_rfl) Tryz.func3
    (ChangeSpec.witness_shaped (enc := enc) (C := Tryz.checked) (os := os) (X := fun w _ => laidMetH Tryz.prog Rows.sourcePrintsRow.laid w) false (World.doorLaid Tryz.prog 86 os) #[.agg #[.int .i64 0, .string ⟨#[]⟩, .int .i64 0, .string ⟨#[]⟩, .slice none 0 0]] 8 rfl (World.shaped_of_RefB (by kernel_rfl) (by kernel_rfl)) (by kernel_rfl) (by kernel_rfl) (by kernel_rfl) (door_met os _)) ?_
  intro W base args ds gs before hval0 hW hcnd hsz0 hL _
  have hW' := hW
  obtain ⟨p, q, hA0, hV, rfl, hfz, hnd⟩ := hW
  have hA : DataW.TrodAll enc Tryz.prog W 0 (fun _ => true) true Tryz.f3.params.toList args.toList ds p := hA0
  rw [Tryz.params3] at hA
  have hval : ∀ (j : Nat) t v, Tryz.f3.params[j]? = some t → args[j]? = some v → Value.okWide Tryz.prog W .any base t v := hval0
  rw [Tryz.params3] at hval
  obtain ⟨rfl, _⟩ := trodVars_none hV
  obtain ⟨v0, l0, d0, e0, p0, q0, r0, rfl, rfl, h0, hA⟩ := trodAll_cons hA
  obtain ⟨rfl, rfl, rfl⟩ := trodAll_nil hA
  have hsz : (DataW.weightsEach P [24] [d0]).all (· ≤ reachBytes) = true := hsz0
  obtain ⟨w0, hsz⟩ := Ab5 hsz
  have hargs : args = #[v0] := by cases args; simp_all
  subst hargs
  obtain ⟨x0, g0, a0⟩ := reads_24.agg' Tryz.underlying24 (hval 0 24 v0 rfl rfl) h0 w0
  refine ((Fg.ok (law_rd x0 g0)).2 W (fun b => b < W.heap.size) #[v0] ⟨fun _ h => h, gok_of hL⟩ rfl (fun i x v hx hv => (Afh (V := V) a0 Af1) i x v hx (by rw [← Array.getElem?_toList] at hv; exact hv))).mono fun e W' he => ?_
  obtain ⟨v, Z', rfl, ho, hr⟩ := he
  have hv := Ua _ hr
  subst hv
  exact ⟨_, rfl, Aeh hW' ho.below rfl laidOut (by kernel_rfl) rfl (tb := 4) (by kernel_rfl) rfl⟩

theorem SourcePrints_holds : Rows.SourcePrintsSaid :=
  OpenClaim.holds_of_wide 3 Tryz.f3 rfl rfl rfl rfl rfl rfl rfl ⟨rfl, rfl, rfl, rfl, rfl⟩ rfl rfl rfl rfl rfl (by kernel_rfl) Tryz.func3 (by kernel_rfl)
    (of_decide_eq_true (by kernel_rfl)) (by unfold Func.isWrapper; first | (rw [if_pos (by decide +kernel)]; kernel_rfl) | (rw [if_neg (by decide +kernel)]; exact ⟨rfl, rfl⟩))
    (fun os started H enc _ => lifted_SourcePrints os started H enc)


theorem SourcePrints_card : Rows.SourcePrintsCardSaid :=
  Claim7.holds_tied_plain_at .later [] [.data, .data, .data, .sentinel, .sentinel, .listed, .data] true (true, "c5b4141e127f3766b45fdd2c26213df5cd3585ecb6ffb26b77768c52392dbbbb") true
    SourcePrints_holds (fun _ h => by cases h) (by kernel_rfl) (fun _ h => by cases h) sourcePrints_row_tie rfl ⟨rfl, rfl⟩ (by kernel_rfl) rfl
    (fun f fn hf hfn => by
      obtain rfl : f = 3 := Option.some.inj ((show Tryz.prog.funcNamed "workflow/workflowlaw09.SourcePrints" = some 3 by kernel_rfl).symm.trans hf) |>.symm
      obtain rfl : fn = Tryz.f3 := (Option.some.inj (Tryz.func3.symm.trans hfn)).symm
      exact ⟨by kernel_rfl, fun j t ht => by
        rw [Tryz.params3] at ht
        have hm : t ∈ [24] := by simpa using Array.mem_of_getElem? ht
        have hall : ([24].all fun u => !Tryz.prog.wantsStandIn u) = true := by kernel_rfl
        exact (show Tryz.prog.wantsStandIn t = false by simpa using List.all_eq_true.1 hall t hm)⟩)
    (by kernel_rfl)

#print axioms SourcePrints_card

end Go.Proofs.YtdgejpgbppfhmaaGreatDoor
