/- The text of any tokens and the literal of any string are those that the document says; no condition. -/
import Derived.Test.YtahpbjjfpbmaiaaDoorLwJ
import Derived.Test.YtahpbjjfpbmaiaaDoorRows
import Derived.Test.YtahpbjjfpbmaiaaDoorGl
import Derived.Test.YtahpbjjfpbmaiaaDoorCards
import Derived.Test.YtahpbjjfpbmaiaaDoorTie
import Derived.Stop.Joined
import Derived.SevenTiedAt
import Derived.OpenShut
set_option linter.unusedVariables false
set_option linter.unusedSimpArgs false
namespace Go.Proofs.YtahpbjjfpbmaiaaDoor
open Eng Go.ChangeShapes Go.WideShapes Go.ChangeAt Go.RowKit

theorem ownKnobNone : ownKnob Tryd.prog.godebug = none := by kernel_rfl
theorem laidOut : laidOutB Tryd.prog = true := by kernel_rfl


def G_3 : Int → Prop := (fun n => (Lit.int .i64 n).wf = true)
theorem reads_3 : ReadsAs V P 3 (Codec.int (T := T) .i64) G_3 := reads_int (by kernel_rfl)

def G_9 : List UInt8 → Prop := (fun l => l.length ≤ reachBytes)
theorem reads_9 : ReadsAs V P 9 (Codec.str (T := T)) G_9 := reads_str (by kernel_rfl)

def G_31 : api_Token → Prop := (fun y => G_3 y.Kind ∧ G_3 y.At ∧ G_9 y.Text ∧ G_3 y.Int)
theorem reads_31 : ReadsAs V P 31 c_api_Token G_31 := reads_struct Tryd.underlying31 (by kernel_rfl) (readsF_cons (by kernel_rfl) reads_3 (readsF_cons (by kernel_rfl) reads_3 (readsF_cons (by kernel_rfl) reads_9 (readsF_one (by kernel_rfl) reads_3))))

theorem bytes_23 : P.bytesOf 31 = 40 := by kernel_rfl
def G_23 : List api_Token → Prop := (fun l => l.length * P.bytesOf 31 ≤ reachBytes ∧ l.length ≤ 9223372036854775807 ∧ ∀ x ∈ l, G_31 x)
theorem reads_23 : ReadsAs V P 23 (Codec.sl (T := T) Tag.t_api_Token) G_23 := reads_sl (e := 31) (by kernel_rfl) (fun _ => rfl) (by kernel_rfl) (by rw [show P.cellsOf 31 = 4 from by kernel_rfl]; decide) reads_31

theorem law_rd (l : List api_Token) (s : List UInt8) (g : G_23 l) (_ : G_9 s) : workflowlaw07_TokenSpell 100000 l s = some true := by
  refine law_spell l s fun t ht => ?_
  have h : (Lit.int .i64 t.Int).wf = true := (g.2.2 t ht).2.2.2
  simp [Lit.wf, IntKind.min, IntKind.max, IntKind.bits, IntKind.signed] at h
  omega

set_option maxRecDepth 100000 in
theorem lifted_TokenSpell (os : Os) (started : os.Started) (H : Type) (enc : TypeId × Value → H) :
    ReturnsInHanded {} Tryd.checked os 8 .any (fun w args => (Rows.tokenSpellSpec.pre enc Tryd.prog Tryd.f8 [] false w args ∧ laidMetH Tryd.prog Rows.tokenSpellRow.laid w) ∧ sizedMet enc Tryd.prog Tryd.f8 (OpenSpec.ofChange Rows.tokenSpellSpec) false w args) (Rows.tokenSpellSpec.post enc Tryd.prog Tryd.f8 false true false false) := by
  refine returnsInHanded_of_change_and (C := Tryd.checked) (X := fun w _ => laidMetH Tryd.prog Rows.tokenSpellRow.laid w) (fun _ _ _ hh h => h.of_heap hh) ownKnobNone started (by kernel_rfl) Tryd.func8
    (ChangeSpec.witness_shaped (enc := enc) (C := Tryd.checked) (os := os) (X := fun w _ => laidMetH Tryd.prog Rows.tokenSpellRow.laid w) false (World.doorLaid Tryd.prog 86 os) #[.slice none 0 0, .string ⟨#[]⟩] 8 rfl (World.shaped_of_RefB (by kernel_rfl) (by kernel_rfl)) (by kernel_rfl) (by kernel_rfl) (by kernel_rfl) (door_met os _)) ?_
  intro W base args ds gs before hval0 hW hcnd hsz0 hL _
  have hW' := hW
  obtain ⟨p, q, hA0, hV, rfl, hfz, hnd⟩ := hW
  have hA : DataW.TrodAll enc Tryd.prog W 0 (fun _ => true) true Tryd.f8.params.toList args.toList ds p := hA0
  rw [Tryd.params8] at hA
  have hval : ∀ (j : Nat) t v, Tryd.f8.params[j]? = some t → args[j]? = some v → Value.okWide Tryd.prog W .any base t v := hval0
  rw [Tryd.params8] at hval
  obtain ⟨rfl, _⟩ := trodVars_none hV
  obtain ⟨v0, l0, d0, e0, p0, q0, r0, rfl, rfl, h0, hA⟩ := trodAll_cons hA
  obtain ⟨v1, l1, d1, e1, p1, q1, rfl, rfl, rfl, h1, hA⟩ := trodAll_cons hA
  obtain ⟨rfl, rfl, rfl⟩ := trodAll_nil hA
  have hsz : (DataW.weightsEach P [23, 9] [d0, d1]).all (· ≤ reachBytes) = true := hsz0
  obtain ⟨w0, hsz⟩ := weights_cons hsz
  obtain ⟨w1, hsz⟩ := weights_cons hsz
  have hargs : args = #[v0, v1] := by cases args; simp_all
  subst hargs
  obtain ⟨x0, g0, a0⟩ := reads_23.one' (td := .slice 31) (by kernel_rfl) rfl (hval 0 23 v0 rfl rfl) h0 w0
  obtain ⟨x1, g1, a1⟩ := reads_9.one' (td := .string) (by kernel_rfl) rfl (hval 1 9 v1 rfl rfl) h1 w1
  refine ((workflowlaw07_TokenSpell.ok (law_rd x0 x1 g0 g1)).2 W (fun b => b < W.heap.size) #[v0, v1] ⟨fun _ h => h, gok_of hL⟩ rfl (fun i x v hx hv => (ras_cons (V := V) (a0 _ rfl) (ras_cons (V := V) (a1 _ rfl) ras_nil)) i x v hx (by rw [← Array.getElem?_toList] at hv; exact hv))).mono fun e W' he => ?_
  obtain ⟨v, Z', rfl, ho, hr⟩ := he
  have hv := inv_lit _ hr
  subst hv
  exact ⟨_, rfl, post_true hW' ho.below rfl laidOut (by kernel_rfl) rfl (tb := 4) (by kernel_rfl) rfl⟩

theorem TokenSpell_holds : Rows.TokenSpellSaid :=
  OpenClaim.holds_of_wide 8 Tryd.f8 rfl rfl rfl rfl rfl rfl rfl ⟨rfl, rfl, rfl, rfl, rfl⟩ rfl rfl rfl rfl rfl (by kernel_rfl) Tryd.func8 (by kernel_rfl)
    (of_decide_eq_true (by kernel_rfl)) (by unfold Func.isWrapper; first | (rw [if_pos (by decide +kernel)]; kernel_rfl) | (rw [if_neg (by decide +kernel)]; exact ⟨rfl, rfl⟩))
    (fun os started H enc _ => lifted_TokenSpell os started H enc)


theorem TokenSpell_card : Rows.TokenSpellCardSaid :=
  Claim7.holds_tied_plain_at .later [] [.data, .data, .data, .sentinel, .sentinel, .listed, .data] true (true, "d576a4431d10a640c4062a81e6e21b08cf4e06976c40f34335b2a0c2940e2f28") true
    TokenSpell_holds (fun _ h => by cases h) (by kernel_rfl) (fun _ h => by cases h) tokenSpell_row_tie rfl ⟨rfl, rfl⟩ (by kernel_rfl) rfl
    (fun f fn hf hfn => by
      obtain rfl : f = 8 := Option.some.inj ((show Tryd.prog.funcNamed "workflow/workflowlaw07.TokenSpell" = some 8 by kernel_rfl).symm.trans hf) |>.symm
      obtain rfl : fn = Tryd.f8 := (Option.some.inj (Tryd.func8.symm.trans hfn)).symm
      exact ⟨by kernel_rfl, fun j t ht => by
        rw [Tryd.params8] at ht
        have hm : t ∈ [23, 9] := by simpa using Array.mem_of_getElem? ht
        have hall : ([23, 9].all fun u => !Tryd.prog.wantsStandIn u) = true := by kernel_rfl
        exact (show Tryd.prog.wantsStandIn t = false by simpa using List.all_eq_true.1 hall t hm)⟩)
    (by kernel_rfl)

#print axioms TokenSpell_card

end Go.Proofs.YtahpbjjfpbmaiaaDoor
