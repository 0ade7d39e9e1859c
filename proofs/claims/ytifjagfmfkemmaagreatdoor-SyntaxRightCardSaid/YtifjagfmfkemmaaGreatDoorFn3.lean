/- What functions of the program compute, as Lean functions, and that they compute it. -/
import Derived.Test.YtifjagfmfkemmaaGreatDoorFn2
set_option linter.unusedVariables false
set_option maxHeartbeats 0
namespace Go.Proofs.YtifjagfmfkemmaaGreatDoor
open Eng
def C9.F (K : Nat) (R : Ag) (p0 : Aa) : Option Bool := (if p0.Op = 50 then (Option.bind (Av K p0 true false false) (fun a1 => (if a1 = true then (if p0.Name = ([] : List UInt8) then (if (p0.Kids.length : Int) = 2 then (if (0 : Int) < (p0.Kids.length : Int) then (Option.bind (A0 K (p0.Kids.getD (Int.toNat 0) Ai)) (fun a2 => (if a2 = true then (if (1 : Int) < (p0.Kids.length : Int) then (Option.bind (R.A3 (p0.Kids.getD (Int.toNat 1) Ai)) (fun a3 => some a3)) else none) else some false))) else none) else some false) else (Option.bind (A8 K p0.Name) (fun a4 => (if a4 = true then (if (p0.Kids.length : Int) = 2 then (if (0 : Int) < (p0.Kids.length : Int) then (Option.bind (A0 K (p0.Kids.getD (Int.toNat 0) Ai)) (fun a5 => (if a5 = true then (if (1 : Int) < (p0.Kids.length : Int) then (Option.bind (R.A3 (p0.Kids.getD (Int.toNat 1) Ai)) (fun a6 => some a6)) else none) else some false))) else none) else some false) else some false)))) else some false))) else some false)
theorem C9.body {Γ : Ent} {K : Nat} {R : Ag} (hR : R.Ok) {p0 : Aa} {r : Bool} (h : C9.F K R p0 = some r) : AWp V P 40 100 Γ (Tryz.f136.body.getD .skip) (EndsE P V Tryz.f136 (.B r) []) ⟨args0 0 [.agg (Ae p0)], []⟩ := by
 unfold C9.F at h
 refine sg0 L 200 <| awp_seq ?_
 rcases ite_some h with ⟨c1, h⟩ | ⟨c1, h⟩
 ·obtain ⟨a1, h1, h⟩ := bind_some h
  rcases ite_some h with ⟨c2, h⟩ | ⟨c2, h⟩
  ·rcases ite_some h with ⟨c3, h⟩ | ⟨c3, h⟩
   ·rcases ite_some h with ⟨c4, h⟩ | ⟨c4, h⟩
    ·obtain ⟨g1, h⟩ := guard_some h
     obtain ⟨a2, h2, h⟩ := bind_some h
     rcases ite_some h with ⟨c5, h⟩ | ⟨c5, h⟩
     ·obtain ⟨g2, h⟩ := guard_some h
      obtain ⟨a3, h3, h⟩ := bind_some h
      refine rg L 203 [(3, true), (7, true), (11, true), (23, true), (30, true)] [(5, .B a1), (28, .B a2), (35, .B a3)] [] (plc (decide_eq_true c1) (plc (Av.ok h1) (plc trivial (plc c2 (plc (decide_eq_true c3) (plc (decide_eq_true c4) (plc (show (0 : Int) ≤ 0 from by decide) (plc g1 (plc (A0.ok h2) (plc trivial (plc c5 (plc (show (0 : Int) ≤ 1 from by decide) (plc g2 (plc (A3.okR hR h3) (pl1 trivial))))))))))))))) ?_
      refine awp_ret ?_
      cases h
      exact er0
     refine rg L 203 [(3, true), (7, true), (11, true), (23, true), (30, false)] [(5, .B a1), (28, .B a2)] [] (plc (decide_eq_true c1) (plc (Av.ok h1) (plc trivial (plc c2 (plc (decide_eq_true c3) (plc (decide_eq_true c4) (plc (show (0 : Int) ≤ 0 from by decide) (plc g1 (plc (A0.ok h2) (plc trivial (pl1 (eq_false_of_ne_true c5)))))))))))) ?_
     refine awp_ret ?_
     cases h
     exact er0
    refine rg L 203 [(3, true), (7, true), (11, true), (23, false)] [(5, .B a1)] [] (plc (decide_eq_true c1) (plc (Av.ok h1) (plc trivial (plc c2 (plc (decide_eq_true c3) (pl1 (decide_eq_false c4))))))) ?_
    refine awp_ret ?_
    cases h
    exact er0
   obtain ⟨a4, h4, h⟩ := bind_some h
   rcases ite_some h with ⟨c6, h⟩ | ⟨c6, h⟩
   ·rcases ite_some h with ⟨c7, h⟩ | ⟨c7, h⟩
    ·obtain ⟨g3, h⟩ := guard_some h
     obtain ⟨a5, h5, h⟩ := bind_some h
     rcases ite_some h with ⟨c8, h⟩ | ⟨c8, h⟩
     ·obtain ⟨g4, h⟩ := guard_some h
      obtain ⟨a6, h6, h⟩ := bind_some h
      refine rg L 203 [(3, true), (7, true), (11, false), (17, true), (23, true), (30, true)] [(5, .B a1), (14, .B a4), (28, .B a5), (35, .B a6)] [] (plc (decide_eq_true c1) (plc (Av.ok h1) (plc trivial (plc c2 (plc (decide_eq_false c3) (plc (A8.ok h4) (plc trivial (plc c6 (plc (decide_eq_true c7) (plc (show (0 : Int) ≤ 0 from by decide) (plc g3 (plc (A0.ok h5) (plc trivial (plc c8 (plc (show (0 : Int) ≤ 1 from by decide) (plc g4 (plc (A3.okR hR h6) (pl1 trivial)))))))))))))))))) ?_
      refine awp_ret ?_
      cases h
      exact er0
     refine rg L 203 [(3, true), (7, true), (11, false), (17, true), (23, true), (30, false)] [(5, .B a1), (14, .B a4), (28, .B a5)] [] (plc (decide_eq_true c1) (plc (Av.ok h1) (plc trivial (plc c2 (plc (decide_eq_false c3) (plc (A8.ok h4) (plc trivial (plc c6 (plc (decide_eq_true c7) (plc (show (0 : Int) ≤ 0 from by decide) (plc g3 (plc (A0.ok h5) (plc trivial (pl1 (eq_false_of_ne_true c8))))))))))))))) ?_
     refine awp_ret ?_
     cases h
     exact er0
    refine rg L 203 [(3, true), (7, true), (11, false), (17, true), (23, false)] [(5, .B a1), (14, .B a4)] [] (plc (decide_eq_true c1) (plc (Av.ok h1) (plc trivial (plc c2 (plc (decide_eq_false c3) (plc (A8.ok h4) (plc trivial (plc c6 (pl1 (decide_eq_false c7)))))))))) ?_
    refine awp_ret ?_
    cases h
    exact er0
   refine rg L 203 [(3, true), (7, true), (11, false), (17, false)] [(5, .B a1), (14, .B a4)] [] (plc (decide_eq_true c1) (plc (Av.ok h1) (plc trivial (plc c2 (plc (decide_eq_false c3) (plc (A8.ok h4) (plc trivial (pl1 (eq_false_of_ne_true c6))))))))) ?_
   refine awp_ret ?_
   cases h
   exact er0
  refine rg L 203 [(3, true), (7, false)] [(5, .B a1)] [] (plc (decide_eq_true c1) (plc (Av.ok h1) (plc trivial (pl1 (eq_false_of_ne_true c2))))) ?_
  refine awp_ret ?_
  cases h
  exact er0
 refine rg L 203 [(3, false)] [] [] (pl1 (decide_eq_false c1)) ?_
 refine awp_ret ?_
 cases h
 exact er0
def Cu.F (K : Nat) (R : Ag) (p0 : Aa) : Option Bool := (Option.bind (R.C9 p0) (fun a1 => some (!a1)))
theorem Cu.body {Γ : Ent} {K : Nat} {R : Ag} (hR : R.Ok) {p0 : Aa} {r : Bool} (h : Cu.F K R p0 = some r) : AWp V P 8 100 Γ (Tryz.f57.body.getD .skip) (EndsE P V Tryz.f57 (.B r) []) ⟨args0 0 [.agg (Ae p0), .cv (.pcs [.fn (.func 136) [] []] 0)], []⟩ := by
 unfold Cu.F at h
 refine sg0 L 200 <| awp_seq ?_
 obtain ⟨a1, h1, h⟩ := bind_some h
 refine rg L 203 [] [(2, .B a1)] [] (plt (C9.okR hR h1)) ?_
 refine awp_ret ?_
 cases h
 exact er0
def Bt.l7 (K : Nat) (R : Ag) (p0 : List Aa) : Nat → Int → Option (Out Int Unit)
 | 0, _ => none
 | k + 1, xt8_7h => (if xt8_7h < (p0.length : Int) then (if (0 : Int) ≤ xt8_7h ∧ (xt8_7h : Int) < (p0.length : Int) then (Option.bind (R.Cu (p0.getD (Int.toNat xt8_7h) Ai)) (fun a1 => (if a1 = true then some (Out.done xt8_7h) else Bt.l7 K R p0 k (IntKind.i64.wrap (xt8_7h + 1))))) else none) else some (Out.go ()))
def Bt.F (K : Nat) (R : Ag) (p0 : List Aa) : Option Int := (obind (Bt.l7 K R p0 K 0 : Option (Out Int Unit)) (fun r => r) (fun _ => some (-1)))
theorem Bt.body {Γ : Ent} {K : Nat} {R : Ag} (hR : R.Ok) {p0 : List Aa} {r : Int} (h : Bt.F K R p0 = some r) : AWp V P 19 100 Γ (Tryz.f90.body.getD .skip) (EndsE P V Tryz.f90 (.I r) []) ⟨args0 0 [.cv (.ro .Ad p0), .cv (.fn (.func 57) [] [.pcs [.fn (.func 136) [] []] 0])], []⟩ := by
 unfold Bt.F at h
 refine sg0 L 200 <| awp_seq <| sg0 L 202 <| awp_block <| kp (S' := ⟨[(0, .cv (.ro .Ad p0)), (1, .cv (.fn (.func 57) [] [.pcs [.fn (.func 136) [] []] 0])), (7, .I (p0.length : Int)), (8, .I 0)], []⟩) ?_
 obtain ⟨o1, hp1, h⟩ := obind_some h
 refine awp_conseq (Q' := fun e S => (e = .exit 0 ∧ S = ⟨[], []⟩ ∧ Out.go () = o1) ∨ (e = .ret ∧ ∃ a, Out.done a = o1 ∧ EndsE P V Tryz.f90 (.I a) [] .ret S)) (awp_loop (fun k S => ∃ xt8_7h : Int, S = ⟨[(0, .cv (.ro .Ad p0)), (1, .cv (.fn (.func 57) [] [.pcs [.fn (.func 136) [] []] 0])), (7, .I (p0.length : Int)), (8, .I xt8_7h)], []⟩ ∧ Bt.l7 K R p0 k xt8_7h = some o1) ?_ ⟨_, rfl, hp1⟩) ?_
 ·clear h hp1
  intro k S hS
  obtain ⟨xt8_7h, rfl, h⟩ := hS
  cases k with
  | zero => cases h
  | succ k =>
  unfold Bt.l7 at h
  refine sg0 L 206 <| awp_seq ?_
  rcases ite_some h with ⟨c1, h⟩ | ⟨c1, h⟩
  ·refine tT c1 <| awp_skip' <| awp_seq <| awp_block <| sg0 L 208 <| awp_seq ?_
   obtain ⟨g1, h⟩ := guard_some h
   obtain ⟨a1, h1, h⟩ := bind_some h
   refine rg L 211 [] [(5, .B a1)] [] (plc g1.1 (plc g1.2 (plc (Cu.okR hR h1) (pl1 trivial)))) ?_
   rcases ite_some h with ⟨c2, h⟩ | ⟨c2, h⟩
   ·refine tt c2 <| sg0 L 218 <| awp_ret ?_
    cases h
    exact .inr ⟨rfl, _, rfl, er0⟩
   refine fN c2 <| awp_skip' <| ar0 L 221 [] [] [] (S' := ⟨[(0, .cv (.ro .Ad p0)), (1, .cv (.fn (.func 57) [] [.pcs [.fn (.func 136) [] []] 0])), (7, .I (p0.length : Int)), (8, .I (IntKind.i64.wrap (xt8_7h + 1)))], []⟩) ?_
   exact ⟨k, Nat.lt_succ_self k, _, rfl, h⟩
  refine fF c1 <| ex (S' := ⟨[], []⟩) ?_
  cases h
  exact .inl ⟨rfl, rfl, rfl⟩
 ·rintro e S (⟨rfl, rfl, rfl⟩ | ⟨rfl, a, rfl, hr⟩)
  ·rcases h with ⟨_, e1, h⟩ | ⟨_, e1, h⟩
   ·cases e1
   ·have e2 := Out.go.inj e1
    subst e2
    refine ⟨_, Turns.refl, ?_⟩
    refine sg0 L 224 <| awp_ret ?_
    cases h
    exact er0
  ·rcases h with ⟨_, e1, h⟩ | ⟨_, e1, h⟩
   ·have e2 := Out.done.inj e1
    subst e2
    subst h
    exact ⟨_, Turns.refl, hr⟩
   ·cases e1
def Cb.F (K : Nat) (R : Ag) (p0 : List Aa) : Option Bool := (Option.bind (R.Bt p0) (fun a1 => some (decide (a1 ≥ 0))))
theorem Cb.body {Γ : Ent} {K : Nat} {R : Ag} (hR : R.Ok) {p0 : List Aa} {r : Bool} (h : Cb.F K R p0 = some r) : AWp V P 9 100 Γ (Tryz.f56.body.getD .skip) (EndsE P V Tryz.f56 (.B r) []) ⟨args0 0 [.cv (.ro .Ad p0), .cv (.fn (.func 57) [] [.pcs [.fn (.func 136) [] []] 0])], []⟩ := by
 unfold Cb.F at h
 refine sg0 L 200 <| awp_seq ?_
 obtain ⟨a1, h1, h⟩ := bind_some h
 refine rg L 202 [] [(2, .I a1)] [] (plt (Bt.okR hR h1)) ?_
 refine awp_ret ?_
 cases h
 exact er0
def C2.F (K : Nat) (R : Ag) (p0 : List Aa) : Option Bool := (Option.bind (R.Cb p0) (fun a1 => some (!a1)))
theorem C2.body {Γ : Ent} {K : Nat} {R : Ag} (hR : R.Ok) {p0 : List Aa} {r : Bool} (h : C2.F K R p0 = some r) : AWp V P 9 100 Γ (Tryz.f30.body.getD .skip) (EndsE P V Tryz.f30 (.B r) []) ⟨args0 0 [.cv (.ro .Ad p0), .cv (.fn (.func 136) [] [])], []⟩ := by
 unfold C2.F at h
 refine sg0 L 200 <| awp_seq ?_
 obtain ⟨a1, h1, h⟩ := bind_some h
 refine rg L 203 [] [(2, .B a1)] [] (plt (Cb.okR hR h1)) ?_
 refine awp_ret ?_
 cases h
 exact er0
def C3.F (K : Nat) (R : Ag) (p0 : List Aa) : Option Bool := (Option.bind (((if (IntKind.i64.wrap ((p0.length : Int) - 1)) ≥ 0 then (if (0 : Int) ≤ (IntKind.i64.wrap ((p0.length : Int) - 1)) ∧ ((IntKind.i64.wrap ((p0.length : Int) - 1)) : Int) < (p0.length : Int) then some ((decide ((p0.getD (Int.toNat (IntKind.i64.wrap ((p0.length : Int) - 1))) Ai).Op = 51))) else none) else some false)) : Option Bool) (fun xt17_6 => (if xt17_6 = true then (if (0 : Int) ≤ (IntKind.i64.wrap ((p0.length : Int) - 1)) ∧ ((IntKind.i64.wrap ((p0.length : Int) - 1)) : Int) < (p0.length : Int) then (Option.bind (Av K (p0.getD (Int.toNat (IntKind.i64.wrap ((p0.length : Int) - 1))) Ai) false false false) (fun a1 => (if a1 = true then (if (((p0.getD (Int.toNat (IntKind.i64.wrap ((p0.length : Int) - 1))) Ai).Kids).length : Int) ≠ 1 then some false else (if (0 : Int) < (((p0.getD (Int.toNat (IntKind.i64.wrap ((p0.length : Int) - 1))) Ai).Kids).length : Int) then (Option.bind (R.A3 ((((p0.getD (Int.toNat (IntKind.i64.wrap ((p0.length : Int) - 1))) Ai).Kids).getD (Int.toNat 0) Ai))) (fun a2 => (if a2 = true then (if (IntKind.i64.wrap ((p0.length : Int) - 1)) ≤ 16 then (if (IntKind.i64.wrap ((p0.length : Int) - 1)) ≤ (p0.length : Int) then (Option.bind (R.C2 (slc p0 0 (IntKind.i64.wrap ((p0.length : Int) - 1)))) (fun a3 => some a3)) else none) else some false) else some false))) else none)) else some false))) else none) else (if (p0.length : Int) ≥ 1 then (if (p0.length : Int) ≤ 16 then (Option.bind (R.C2 p0) (fun a4 => some a4)) else some false) else some false))))
theorem C3.body {Γ : Ent} {K : Nat} {R : Ag} (hR : R.Ok) {p0 : List Aa} {r : Bool} (h : C3.F K R p0 = some r) : AWp V P 59 100 Γ (Tryz.f121.body.getD .skip) (EndsE P V Tryz.f121 (.B r) []) ⟨args0 0 [.cv (.ro .Ad p0)], []⟩ := by
 unfold C3.F at h
 refine sg0 L 200 <| awp_seq <| sg0 L 202 ?_
 obtain ⟨o1, hp1, h⟩ := bind_some h
 refine awp_seq (awp_mono (Q' := fun e S => (e = .normal ∧ ∃ xt17_6 : Bool, S = ⟨[(0, .cv (.ro .Ad p0)), (3, .I (IntKind.i64.wrap ((p0.length : Int) - 1))), (17, .B xt17_6)], []⟩ ∧ xt17_6 = o1)) ?_ ?_)
 ·clear h
  replace h := hp1
  rcases ite_some h with ⟨c1, h⟩ | ⟨c1, h⟩
  ·obtain ⟨g1, h⟩ := guard_some h
   refine ar L 207 [(2, true)] [] [] (cs := [(decide ((IntKind.i64.wrap ((p0.length : Int) - 1)) ≥ 0)) = true, (0 : Int) ≤ (IntKind.i64.wrap ((p0.length : Int) - 1)), ((IntKind.i64.wrap ((p0.length : Int) - 1)) : Int) < (p0.length : Int)]) (S' := ⟨[(0, .cv (.ro .Ad p0)), (3, .I (IntKind.i64.wrap ((p0.length : Int) - 1))), (17, .B ((decide ((p0.getD (Int.toNat (IntKind.i64.wrap ((p0.length : Int) - 1))) Ai).Op = 51))))], []⟩) (And.intro (decide_eq_true c1) (And.intro g1.1 g1.2)) ?_
   cases h
   exact ⟨rfl, _, rfl, rfl⟩
  refine ar L 207 [(2, false)] [] [] (cs := [(decide ((IntKind.i64.wrap ((p0.length : Int) - 1)) ≥ 0)) = false]) (S' := ⟨[(0, .cv (.ro .Ad p0)), (3, .I (IntKind.i64.wrap ((p0.length : Int) - 1))), (17, .B false)], []⟩) (decide_eq_false c1) ?_
  cases h
  exact ⟨rfl, _, rfl, rfl⟩
 ·rintro e S ⟨rfl, xt17_6, rfl, rfl⟩
  rcases ite_some h with ⟨c2, h⟩ | ⟨c2, h⟩
  ·refine tt c2 <| awp_seq <| awp_seq ?_
   obtain ⟨g2, h⟩ := guard_some h
   refine rg L 218 [] [] [] (pl2 g2.1 g2.2) ?_
   refine awp_seq ?_
   obtain ⟨a1, h1, h⟩ := bind_some h
   rcases ite_some h with ⟨c3, h⟩ | ⟨c3, h⟩
   ·rcases ite_some h with ⟨c4, h⟩ | ⟨c4, h⟩
    ·refine rg L 225 [(3, false), (9, true)] [(1, .B a1)] [] (plc (Av.ok h1) (plc trivial (plc (show (!a1) = false from congrArg Bool.not (c3)) (pl1 (decide_eq_true c4))))) ?_
     refine tt (b := true) (rfl) ?_
     refine sg0 L 243 <| awp_ret ?_
     cases h
     exact er0
    obtain ⟨g3, h⟩ := guard_some h
    obtain ⟨a2, h2, h⟩ := bind_some h
    refine rg L 225 [(3, false), (9, false)] [(1, .B a1), (14, .B a2)] [] (plc (Av.ok h1) (plc trivial (plc (show (!a1) = false from congrArg Bool.not (c3)) (plc (decide_eq_false c4) (plc (show (0 : Int) ≤ 0 from by decide) (plc g3 (plc (A3.okR hR h2) (pl1 trivial)))))))) ?_
    rcases ite_some h with ⟨c5, h⟩ | ⟨c5, h⟩
    ·refine ff (b := (!a2)) (congrArg Bool.not (c5)) ?_
     refine awp_skip' <| awp_seq ?_
     rcases ite_some h with ⟨c6, h⟩ | ⟨c6, h⟩
     ·obtain ⟨g4, h⟩ := guard_some h
      obtain ⟨a3, h3, h⟩ := bind_some h
      refine rg L 245 [(2, true)] [(6, .B a3)] [] (plc (decide_eq_true c6) (plc (show (0 : Int) ≤ 0 from Int.le_refl _) (plc g2.1 (plc g4 (plc (C2.okR hR h3) (pl1 trivial)))))) ?_
      refine awp_ret ?_
      cases h
      exact er0
     refine rg L 245 [(2, false)] [] [] (pl1 (decide_eq_false c6)) ?_
     refine awp_ret ?_
     cases h
     exact er0
    refine tt (b := (!a2)) (congrArg Bool.not (eq_false_of_ne_true c5)) ?_
    refine sg0 L 243 <| awp_ret ?_
    cases h
    exact er0
   refine rg L 225 [(3, true)] [(1, .B a1)] [] (plc (Av.ok h1) (plc trivial (pl1 (show (!a1) = true from congrArg Bool.not (eq_false_of_ne_true c3))))) ?_
   refine tt (b := true) (rfl) ?_
   refine sg0 L 243 <| awp_ret ?_
   cases h
   exact er0
  refine fN c2 <| awp_skip' <| awp_seq ?_
  rcases ite_some h with ⟨c7, h⟩ | ⟨c7, h⟩
  ·rcases ite_some h with ⟨c8, h⟩ | ⟨c8, h⟩
   ·obtain ⟨a4, h4, h⟩ := bind_some h
    refine rg L 255 [(3, true), (8, true)] [(10, .B a4)] [] (plc (decide_eq_true c7) (plc (decide_eq_true c8) (plc (C2.okR hR h4) (pl1 trivial)))) ?_
    refine awp_ret ?_
    cases h
    exact er0
   refine rg L 255 [(3, true), (8, false)] [] [] (pl2 (decide_eq_true c7) (decide_eq_false c8)) ?_
   refine awp_ret ?_
   cases h
   exact er0
  refine rg L 255 [(3, false)] [] [] (pl1 (decide_eq_false c7)) ?_
  refine awp_ret ?_
  cases h
  exact er0
def Ce.F (K : Nat) (R : Ag) (p0 : Aa) : Option Bool := (Option.bind ((if p0.Op = 40 then some (decide (p0.Op = 40)) else some (decide (p0.Op = 41))) : Option Bool) (fun xt8_9 => (if xt8_9 = true then (Option.bind (Av K p0 true false false) (fun a1 => (if a1 = true then (Option.bind (A8 K p0.Name) (fun a2 => (if a2 = true then (if (p0.Kids.length : Int) = 1 then (if (0 : Int) < (p0.Kids.length : Int) then (Option.bind (A0 K (p0.Kids.getD (Int.toNat 0) Ai)) (fun a3 => some a3)) else none) else some false) else some false))) else some false))) else (if p0.Op = 42 then (Option.bind (Av K p0 false false false) (fun a4 => (if a4 = true then (Option.bind (R.Ds p0.Kids) (fun a5 => some a5)) else some false))) else (if p0.Op = 43 then (Option.bind (Av K p0 false false false) (fun a6 => (if a6 = true then (if (p0.Kids.length : Int) = 2 then (if (0 : Int) < (p0.Kids.length : Int) then (Option.bind (A0 K (p0.Kids.getD (Int.toNat 0) Ai)) (fun a7 => (if a7 = true then (if (1 : Int) < (p0.Kids.length : Int) then (Option.bind (R.A3 (p0.Kids.getD (Int.toNat 1) Ai)) (fun a8 => some a8)) else none) else some false))) else none) else some false) else some false))) else (if p0.Op = 44 then (Option.bind (Av K p0 false false false) (fun a9 => (if a9 = true then (if (p0.Kids.length : Int) ≤ 1 then (Option.bind (Ch K p0.Kids) (fun a10 => some a10)) else some false) else some false))) else (Option.bind ((if p0.Op = 45 then some (decide (p0.Op = 45)) else some (decide (p0.Op = 52))) : Option Bool) (fun xt71_37 => (if xt71_37 = true then (Option.bind (Av K p0 false false false) (fun a11 => (if a11 = true then (if (p0.Kids.length : Int) = 1 then (if (0 : Int) < (p0.Kids.length : Int) then (Option.bind (A0 K (p0.Kids.getD (Int.toNat 0) Ai)) (fun a12 => some a12)) else none) else some false) else some false))) else (if p0.Op = 46 then (Option.bind (Av K p0 true false false) (fun a13 => (if a13 = true then (Option.bind (A8 K p0.Name) (fun a14 => (if a14 = true then (if (p0.Kids.length : Int) = 2 then (Option.bind (R.C0 p0.Kids) (fun a15 => some a15)) else some false) else some false))) else some false))) else (if p0.Op = 47 then (Option.bind (Av K p0 false false false) (fun a16 => (if a16 = true then (if (p0.Kids.length : Int) = 1 then (if (0 : Int) < (p0.Kids.length : Int) then (Option.bind (R.A3 (p0.Kids.getD (Int.toNat 0) Ai)) (fun a17 => some a17)) else none) else some false) else some false))) else (if p0.Op = 48 then (Option.bind (Av K p0 true false false) (fun a18 => (if a18 = true then (Option.bind (A8 K p0.Name) (fun a19 => (if a19 = true then (Option.bind (Ch K p0.Kids) (fun a20 => some a20)) else some false))) else some false))) else (if p0.Op = 49 then (Option.bind (Av K p0 false false false) (fun a21 => (if a21 = true then (Option.bind (R.C3 p0.Kids) (fun a22 => some a22)) else some false))) else (if p0.Op = 53 then some false else some false))))))))))))))
theorem Ce.body {Γ : Ent} {K : Nat} {R : Ag} (hR : R.Ok) {p0 : Aa} {r : Bool} (h : Ce.F K R p0 = some r) : AWp V P 143 100 Γ (Tryz.f92.body.getD .skip) (EndsE P V Tryz.f92 (.B r) []) ⟨args0 0 [.agg (Ae p0)], []⟩ := by
 unfold Ce.F at h
 refine sg0 L 200 <| sg0 L 203 <| awp_seq <| sg0 L 207 <| awp_block ?_
 obtain ⟨o1, hp1, h⟩ := bind_some h
 refine awp_seq (awp_mono (Q' := fun e S => (e = .normal ∧ ∃ xt8_9 : Bool, S = ⟨[(1, .P 21800), (3, .cv (.ro .Ad p0.Kids)), (7, .I p0.Op), (8, .B xt8_9)], [(21800, .raw (Ae p0))]⟩ ∧ xt8_9 = o1)) ?_ ?_)
 ·clear h
  replace h := hp1
  refine sg0 L 210 ?_
  rcases ite_some h with ⟨c1, h⟩ | ⟨c1, h⟩
  ·refine tT c1 <| awp_turn (Turns.trans (Turns.kk [1, 3, 7, 8] [200]) (Turns.rr [(200, 21800)])) ?_
   refine sk (S' := ⟨[(1, .P 21800), (3, .cv (.ro .Ad p0.Kids)), (7, .I p0.Op), (8, .B (decide (p0.Op = 40)))], [(21800, .raw (Ae p0))]⟩) ?_
   cases h
   exact ⟨rfl, _, rfl, rfl⟩
  refine fF c1 <| awp_post (rg0 L 213 ⟨rfl, rfl⟩) (Turns.trans (Turns.kk [1, 3, 7, 8] [200]) (Turns.trans (Turns.rr [(200, 21800)]) (Turns.kp (S' := ⟨[(1, .P 21800), (3, .cv (.ro .Ad p0.Kids)), (7, .I p0.Op), (8, .B (decide (p0.Op = 41)))], [(21800, .raw (Ae p0))]⟩)))) ?_
  cases h
  exact ⟨rfl, _, rfl, rfl⟩
 ·rintro e S ⟨rfl, xt8_9, rfl, rfl⟩
  rcases ite_some h with ⟨c2, h⟩ | ⟨c2, h⟩
  ·refine tt c2 <| awp_seq ?_
   obtain ⟨a1, h1, h⟩ := bind_some h
   rcases ite_some h with ⟨c3, h⟩ | ⟨c3, h⟩
   ·obtain ⟨a2, h2, h⟩ := bind_some h
    rcases ite_some h with ⟨c4, h⟩ | ⟨c4, h⟩
    ·rcases ite_some h with ⟨c5, h⟩ | ⟨c5, h⟩
     ·obtain ⟨g1, h⟩ := guard_some h
      obtain ⟨a3, h3, h⟩ := bind_some h
      refine rg L 216 [(2, true), (7, true), (12, true)] [(1, .B a1), (5, .B a2), (16, .B a3)] [] (plc (Av.ok h1) (plc trivial (plc c3 (plc (A8.ok h2) (plc trivial (plc c4 (plc (decide_eq_true c5) (plc (show (0 : Int) ≤ 0 from by decide) (plc g1 (plc (A0.ok h3) (pl1 trivial))))))))))) ?_
      refine awp_ret ?_
      cases h
      exact er0
     refine rg L 216 [(2, true), (7, true), (12, false)] [(1, .B a1), (5, .B a2)] [] (plc (Av.ok h1) (plc trivial (plc c3 (plc (A8.ok h2) (plc trivial (plc c4 (pl1 (decide_eq_false c5)))))))) ?_
     refine awp_ret ?_
     cases h
     exact er0
    refine rg L 216 [(2, true), (7, false)] [(1, .B a1), (5, .B a2)] [] (plc (Av.ok h1) (plc trivial (plc c3 (plc (A8.ok h2) (plc trivial (pl1 (eq_false_of_ne_true c4))))))) ?_
    refine awp_ret ?_
    cases h
    exact er0
   refine rg L 216 [(2, false)] [(1, .B a1)] [] (plc (Av.ok h1) (plc trivial (pl1 (eq_false_of_ne_true c3)))) ?_
   refine awp_ret ?_
   cases h
   exact er0
  refine fN c2 <| sg0 L 236 ?_
  rcases ite_some h with ⟨c6, h⟩ | ⟨c6, h⟩
  ·refine tT c6 <| awp_seq ?_
   obtain ⟨a4, h4, h⟩ := bind_some h
   rcases ite_some h with ⟨c7, h⟩ | ⟨c7, h⟩
   ·obtain ⟨a5, h5, h⟩ := bind_some h
    refine rg L 239 [(2, true)] [(1, .B a4), (4, .B a5)] [] (plc (Av.ok h4) (plc trivial (plc c7 (plc (Ds.okR hR h5) (pl1 trivial))))) ?_
    refine awp_ret ?_
    cases h
    exact er0
   refine rg L 239 [(2, false)] [(1, .B a4)] [] (plc (Av.ok h4) (plc trivial (pl1 (eq_false_of_ne_true c7)))) ?_
   refine awp_ret ?_
   cases h
   exact er0
  refine fF c6 <| sg0 L 247 ?_
  rcases ite_some h with ⟨c8, h⟩ | ⟨c8, h⟩
  ·refine tT c8 <| awp_seq ?_
   obtain ⟨a6, h6, h⟩ := bind_some h
   rcases ite_some h with ⟨c9, h⟩ | ⟨c9, h⟩
   ·rcases ite_some h with ⟨c10, h⟩ | ⟨c10, h⟩
    ·obtain ⟨g2, h⟩ := guard_some h
     obtain ⟨a7, h7, h⟩ := bind_some h
     rcases ite_some h with ⟨c11, h⟩ | ⟨c11, h⟩
     ·obtain ⟨g3, h⟩ := guard_some h
      obtain ⟨a8, h8, h⟩ := bind_some h
      refine rg L 250 [(2, true), (7, true), (13, true)] [(1, .B a6), (11, .B a7), (17, .B a8)] [] (plc (Av.ok h6) (plc trivial (plc c9 (plc (decide_eq_true c10) (plc (show (0 : Int) ≤ 0 from by decide) (plc g2 (plc (A0.ok h7) (plc trivial (plc c11 (plc (show (0 : Int) ≤ 1 from by decide) (plc g3 (plc (A3.okR hR h8) (pl1 trivial))))))))))))) ?_
      refine awp_ret ?_
      cases h
      exact er0
     refine rg L 250 [(2, true), (7, true), (13, false)] [(1, .B a6), (11, .B a7)] [] (plc (Av.ok h6) (plc trivial (plc c9 (plc (decide_eq_true c10) (plc (show (0 : Int) ≤ 0 from by decide) (plc g2 (plc (A0.ok h7) (plc trivial (pl1 (eq_false_of_ne_true c11)))))))))) ?_
     refine awp_ret ?_
     cases h
     exact er0
    refine rg L 250 [(2, true), (7, false)] [(1, .B a6)] [] (plc (Av.ok h6) (plc trivial (plc c9 (pl1 (decide_eq_false c10))))) ?_
    refine awp_ret ?_
    cases h
    exact er0
   refine rg L 250 [(2, false)] [(1, .B a6)] [] (plc (Av.ok h6) (plc trivial (pl1 (eq_false_of_ne_true c9)))) ?_
   refine awp_ret ?_
   cases h
   exact er0
  refine fF c8 <| sg0 L 271 ?_
  rcases ite_some h with ⟨c12, h⟩ | ⟨c12, h⟩
  ·refine tT c12 <| awp_seq ?_
   obtain ⟨a9, h9, h⟩ := bind_some h
   rcases ite_some h with ⟨c13, h⟩ | ⟨c13, h⟩
   ·rcases ite_some h with ⟨c14, h⟩ | ⟨c14, h⟩
    ·obtain ⟨a10, h10, h⟩ := bind_some h
     refine rg L 274 [(2, true), (7, true)] [(1, .B a9), (9, .B a10)] [] (plc (Av.ok h9) (plc trivial (plc c13 (plc (decide_eq_true c14) (plc (Ch.ok h10) (pl1 trivial)))))) ?_
     refine awp_ret ?_
     cases h
     exact er0
    refine rg L 274 [(2, true), (7, false)] [(1, .B a9)] [] (plc (Av.ok h9) (plc trivial (plc c13 (pl1 (decide_eq_false c14))))) ?_
    refine awp_ret ?_
    cases h
    exact er0
   refine rg L 274 [(2, false)] [(1, .B a9)] [] (plc (Av.ok h9) (plc trivial (pl1 (eq_false_of_ne_true c13)))) ?_
   refine awp_ret ?_
   cases h
   exact er0
  refine fF c12 ?_
  obtain ⟨o2, hp2, h⟩ := bind_some h
  refine awp_seq (awp_mono (Q' := fun e S => (e = .normal ∧ ∃ xt71_37 : Bool, S = ⟨[(1, .P 27400), (3, .cv (.ro .Ad p0.Kids)), (7, .I p0.Op), (71, .B xt71_37)], [(27400, .raw (Ae p0))]⟩ ∧ xt71_37 = o2)) ?_ ?_)
  ·clear h
   replace h := hp2
   refine sg0 L 287 ?_
   rcases ite_some h with ⟨c15, h⟩ | ⟨c15, h⟩
   ·refine tT c15 <| awp_turn (Turns.trans (Turns.kk [1, 3, 7, 71] [21800]) (Turns.rr [(21800, 27400)])) ?_
    refine sk (S' := ⟨[(1, .P 27400), (3, .cv (.ro .Ad p0.Kids)), (7, .I p0.Op), (71, .B (decide (p0.Op = 45)))], [(27400, .raw (Ae p0))]⟩) ?_
    cases h
    exact ⟨rfl, _, rfl, rfl⟩
   refine fF c15 <| awp_post (rg0 L 290 ⟨rfl, rfl⟩) (Turns.trans (Turns.kk [1, 3, 7, 71] [21800]) (Turns.trans (Turns.rr [(21800, 27400)]) (Turns.kp (S' := ⟨[(1, .P 27400), (3, .cv (.ro .Ad p0.Kids)), (7, .I p0.Op), (71, .B (decide (p0.Op = 52)))], [(27400, .raw (Ae p0))]⟩)))) ?_
   cases h
   exact ⟨rfl, _, rfl, rfl⟩
  ·rintro e S ⟨rfl, xt71_37, rfl, rfl⟩
   rcases ite_some h with ⟨c16, h⟩ | ⟨c16, h⟩
   ·refine tt c16 <| awp_seq ?_
    obtain ⟨a11, h11, h⟩ := bind_some h
    rcases ite_some h with ⟨c17, h⟩ | ⟨c17, h⟩
    ·rcases ite_some h with ⟨c18, h⟩ | ⟨c18, h⟩
     ·obtain ⟨g4, h⟩ := guard_some h
      obtain ⟨a12, h12, h⟩ := bind_some h
      refine rg L 293 [(2, true), (7, true)] [(1, .B a11), (11, .B a12)] [] (plc (Av.ok h11) (plc trivial (plc c17 (plc (decide_eq_true c18) (plc (show (0 : Int) ≤ 0 from by decide) (plc g4 (plc (A0.ok h12) (pl1 trivial)))))))) ?_
      refine awp_ret ?_
      cases h
      exact er0
     refine rg L 293 [(2, true), (7, false)] [(1, .B a11)] [] (plc (Av.ok h11) (plc trivial (plc c17 (pl1 (decide_eq_false c18))))) ?_
     refine awp_ret ?_
     cases h
     exact er0
    refine rg L 293 [(2, false)] [(1, .B a11)] [] (plc (Av.ok h11) (plc trivial (pl1 (eq_false_of_ne_true c17)))) ?_
    refine awp_ret ?_
    cases h
    exact er0
   refine fN c16 <| sg0 L 308 ?_
   rcases ite_some h with ⟨c19, h⟩ | ⟨c19, h⟩
   ·refine tT c19 <| awp_seq ?_
    obtain ⟨a13, h13, h⟩ := bind_some h
    rcases ite_some h with ⟨c20, h⟩ | ⟨c20, h⟩
    ·obtain ⟨a14, h14, h⟩ := bind_some h
     rcases ite_some h with ⟨c21, h⟩ | ⟨c21, h⟩
     ·rcases ite_some h with ⟨c22, h⟩ | ⟨c22, h⟩
      ·obtain ⟨a15, h15, h⟩ := bind_some h
       refine rg L 311 [(2, true), (7, true), (12, true)] [(1, .B a13), (5, .B a14), (14, .B a15)] [] (plc (Av.ok h13) (plc trivial (plc c20 (plc (A8.ok h14) (plc trivial (plc c21 (plc (decide_eq_true c22) (plc (C0.okR hR h15) (pl1 trivial))))))))) ?_
       refine awp_ret ?_
       cases h
       exact er0
      refine rg L 311 [(2, true), (7, true), (12, false)] [(1, .B a13), (5, .B a14)] [] (plc (Av.ok h13) (plc trivial (plc c20 (plc (A8.ok h14) (plc trivial (plc c21 (pl1 (decide_eq_false c22)))))))) ?_
      refine awp_ret ?_
      cases h
      exact er0
     refine rg L 311 [(2, true), (7, false)] [(1, .B a13), (5, .B a14)] [] (plc (Av.ok h13) (plc trivial (plc c20 (plc (A8.ok h14) (plc trivial (pl1 (eq_false_of_ne_true c21))))))) ?_
     refine awp_ret ?_
     cases h
     exact er0
    refine rg L 311 [(2, false)] [(1, .B a13)] [] (plc (Av.ok h13) (plc trivial (pl1 (eq_false_of_ne_true c20)))) ?_
    refine awp_ret ?_
    cases h
    exact er0
   refine fF c19 <| sg0 L 329 ?_
   rcases ite_some h with ⟨c23, h⟩ | ⟨c23, h⟩
   ·refine tT c23 <| awp_seq ?_
    obtain ⟨a16, h16, h⟩ := bind_some h
    rcases ite_some h with ⟨c24, h⟩ | ⟨c24, h⟩
    ·rcases ite_some h with ⟨c25, h⟩ | ⟨c25, h⟩
     ·obtain ⟨g5, h⟩ := guard_some h
      obtain ⟨a17, h17, h⟩ := bind_some h
      refine rg L 332 [(2, true), (7, true)] [(1, .B a16), (11, .B a17)] [] (plc (Av.ok h16) (plc trivial (plc c24 (plc (decide_eq_true c25) (plc (show (0 : Int) ≤ 0 from by decide) (plc g5 (plc (A3.okR hR h17) (pl1 trivial)))))))) ?_
      refine awp_ret ?_
      cases h
      exact er0
     refine rg L 332 [(2, true), (7, false)] [(1, .B a16)] [] (plc (Av.ok h16) (plc trivial (plc c24 (pl1 (decide_eq_false c25))))) ?_
     refine awp_ret ?_
     cases h
     exact er0
    refine rg L 332 [(2, false)] [(1, .B a16)] [] (plc (Av.ok h16) (plc trivial (pl1 (eq_false_of_ne_true c24)))) ?_
    refine awp_ret ?_
    cases h
    exact er0
   refine fF c23 <| sg0 L 347 ?_
   rcases ite_some h with ⟨c26, h⟩ | ⟨c26, h⟩
   ·refine tT c26 <| awp_seq ?_
    obtain ⟨a18, h18, h⟩ := bind_some h
    rcases ite_some h with ⟨c27, h⟩ | ⟨c27, h⟩
    ·obtain ⟨a19, h19, h⟩ := bind_some h
     rcases ite_some h with ⟨c28, h⟩ | ⟨c28, h⟩
     ·obtain ⟨a20, h20, h⟩ := bind_some h
      refine rg L 350 [(2, true), (7, true)] [(1, .B a18), (5, .B a19), (9, .B a20)] [] (plc (Av.ok h18) (plc trivial (plc c27 (plc (A8.ok h19) (plc trivial (plc c28 (plc (Ch.ok h20) (pl1 trivial)))))))) ?_
      refine awp_ret ?_
      cases h
      exact er0
     refine rg L 350 [(2, true), (7, false)] [(1, .B a18), (5, .B a19)] [] (plc (Av.ok h18) (plc trivial (plc c27 (plc (A8.ok h19) (plc trivial (pl1 (eq_false_of_ne_true c28))))))) ?_
     refine awp_ret ?_
     cases h
     exact er0
    refine rg L 350 [(2, false)] [(1, .B a18)] [] (plc (Av.ok h18) (plc trivial (pl1 (eq_false_of_ne_true c27)))) ?_
    refine awp_ret ?_
    cases h
    exact er0
   refine fF c26 <| sg0 L 363 ?_
   rcases ite_some h with ⟨c29, h⟩ | ⟨c29, h⟩
   ·refine tT c29 <| awp_seq ?_
    obtain ⟨a21, h21, h⟩ := bind_some h
    rcases ite_some h with ⟨c30, h⟩ | ⟨c30, h⟩
    ·obtain ⟨a22, h22, h⟩ := bind_some h
     refine rg L 366 [(2, true)] [(1, .B a21), (4, .B a22)] [] (plc (Av.ok h21) (plc trivial (plc c30 (plc (C3.okR hR h22) (pl1 trivial))))) ?_
     refine awp_ret ?_
     cases h
     exact er0
    refine rg L 366 [(2, false)] [(1, .B a21)] [] (plc (Av.ok h21) (plc trivial (pl1 (eq_false_of_ne_true c30)))) ?_
    refine awp_ret ?_
    cases h
    exact er0
   refine fF c29 <| sg0 L 374 ?_
   rcases ite_some h with ⟨c31, h⟩ | ⟨c31, h⟩
   ·refine tT c31 <| sg0 L 377 <| awp_ret ?_
    cases h
    exact er0
   refine fF c31 <| awp_skip' <| sg0 L 379 <| awp_ret ?_
   cases h
   exact er0
def Cx.F (K : Nat) (R : Ag) (p0 : Aa) : Option Bool := (Option.bind (R.Ce p0) (fun a1 => some (!a1)))
theorem Cx.body {Γ : Ent} {K : Nat} {R : Ag} (hR : R.Ok) {p0 : Aa} {r : Bool} (h : Cx.F K R p0 = some r) : AWp V P 8 100 Γ (Tryz.f57.body.getD .skip) (EndsE P V Tryz.f57 (.B r) []) ⟨args0 0 [.agg (Ae p0), .cv (.pcs [.fn (.func 92) [] []] 0)], []⟩ := by
 unfold Cx.F at h
 refine sg0 L 200 <| awp_seq ?_
 obtain ⟨a1, h1, h⟩ := bind_some h
 refine rg L 203 [] [(2, .B a1)] [] (plt (Ce.okR hR h1)) ?_
 refine awp_ret ?_
 cases h
 exact er0
def Bv.l7 (K : Nat) (R : Ag) (p0 : List Aa) : Nat → Int → Option (Out Int Unit)
 | 0, _ => none
 | k + 1, xt8_7h => (if xt8_7h < (p0.length : Int) then (if (0 : Int) ≤ xt8_7h ∧ (xt8_7h : Int) < (p0.length : Int) then (Option.bind (R.Cx (p0.getD (Int.toNat xt8_7h) Ai)) (fun a1 => (if a1 = true then some (Out.done xt8_7h) else Bv.l7 K R p0 k (IntKind.i64.wrap (xt8_7h + 1))))) else none) else some (Out.go ()))
def Bv.F (K : Nat) (R : Ag) (p0 : List Aa) : Option Int := (obind (Bv.l7 K R p0 K 0 : Option (Out Int Unit)) (fun r => r) (fun _ => some (-1)))
theorem Bv.body {Γ : Ent} {K : Nat} {R : Ag} (hR : R.Ok) {p0 : List Aa} {r : Int} (h : Bv.F K R p0 = some r) : AWp V P 19 100 Γ (Tryz.f90.body.getD .skip) (EndsE P V Tryz.f90 (.I r) []) ⟨args0 0 [.cv (.ro .Ad p0), .cv (.fn (.func 57) [] [.pcs [.fn (.func 92) [] []] 0])], []⟩ := by
 unfold Bv.F at h
 refine sg0 L 200 <| awp_seq <| sg0 L 202 <| awp_block <| kp (S' := ⟨[(0, .cv (.ro .Ad p0)), (1, .cv (.fn (.func 57) [] [.pcs [.fn (.func 92) [] []] 0])), (7, .I (p0.length : Int)), (8, .I 0)], []⟩) ?_
 obtain ⟨o1, hp1, h⟩ := obind_some h
 refine awp_conseq (Q' := fun e S => (e = .exit 0 ∧ S = ⟨[], []⟩ ∧ Out.go () = o1) ∨ (e = .ret ∧ ∃ a, Out.done a = o1 ∧ EndsE P V Tryz.f90 (.I a) [] .ret S)) (awp_loop (fun k S => ∃ xt8_7h : Int, S = ⟨[(0, .cv (.ro .Ad p0)), (1, .cv (.fn (.func 57) [] [.pcs [.fn (.func 92) [] []] 0])), (7, .I (p0.length : Int)), (8, .I xt8_7h)], []⟩ ∧ Bv.l7 K R p0 k xt8_7h = some o1) ?_ ⟨_, rfl, hp1⟩) ?_
 ·clear h hp1
  intro k S hS
  obtain ⟨xt8_7h, rfl, h⟩ := hS
  cases k with
  | zero => cases h
  | succ k =>
  unfold Bv.l7 at h
  refine sg0 L 206 <| awp_seq ?_
  rcases ite_some h with ⟨c1, h⟩ | ⟨c1, h⟩
  ·refine tT c1 <| awp_skip' <| awp_seq <| awp_block <| sg0 L 208 <| awp_seq ?_
   obtain ⟨g1, h⟩ := guard_some h
   obtain ⟨a1, h1, h⟩ := bind_some h
   refine rg L 211 [] [(5, .B a1)] [] (plc g1.1 (plc g1.2 (plc (Cx.okR hR h1) (pl1 trivial)))) ?_
   rcases ite_some h with ⟨c2, h⟩ | ⟨c2, h⟩
   ·refine tt c2 <| sg0 L 218 <| awp_ret ?_
    cases h
    exact .inr ⟨rfl, _, rfl, er0⟩
   refine fN c2 <| awp_skip' <| ar0 L 221 [] [] [] (S' := ⟨[(0, .cv (.ro .Ad p0)), (1, .cv (.fn (.func 57) [] [.pcs [.fn (.func 92) [] []] 0])), (7, .I (p0.length : Int)), (8, .I (IntKind.i64.wrap (xt8_7h + 1)))], []⟩) ?_
   exact ⟨k, Nat.lt_succ_self k, _, rfl, h⟩
  refine fF c1 <| ex (S' := ⟨[], []⟩) ?_
  cases h
  exact .inl ⟨rfl, rfl, rfl⟩
 ·rintro e S (⟨rfl, rfl, rfl⟩ | ⟨rfl, a, rfl, hr⟩)
  ·rcases h with ⟨_, e1, h⟩ | ⟨_, e1, h⟩
   ·cases e1
   ·have e2 := Out.go.inj e1
    subst e2
    refine ⟨_, Turns.refl, ?_⟩
    refine sg0 L 224 <| awp_ret ?_
    cases h
    exact er0
  ·rcases h with ⟨_, e1, h⟩ | ⟨_, e1, h⟩
   ·have e2 := Out.done.inj e1
    subst e2
    subst h
    exact ⟨_, Turns.refl, hr⟩
   ·cases e1
def B9.F (K : Nat) (R : Ag) (p0 : List Aa) : Option Bool := (Option.bind (R.Bv p0) (fun a1 => some (decide (a1 ≥ 0))))
theorem B9.body {Γ : Ent} {K : Nat} {R : Ag} (hR : R.Ok) {p0 : List Aa} {r : Bool} (h : B9.F K R p0 = some r) : AWp V P 9 100 Γ (Tryz.f56.body.getD .skip) (EndsE P V Tryz.f56 (.B r) []) ⟨args0 0 [.cv (.ro .Ad p0), .cv (.fn (.func 57) [] [.pcs [.fn (.func 92) [] []] 0])], []⟩ := by
 unfold B9.F at h
 refine sg0 L 200 <| awp_seq ?_
 obtain ⟨a1, h1, h⟩ := bind_some h
 refine rg L 202 [] [(2, .I a1)] [] (plt (Bv.okR hR h1)) ?_
 refine awp_ret ?_
 cases h
 exact er0
def C8.F (K : Nat) (R : Ag) (p0 : List Aa) : Option Bool := (Option.bind (R.B9 p0) (fun a1 => some (!a1)))
theorem C8.body {Γ : Ent} {K : Nat} {R : Ag} (hR : R.Ok) {p0 : List Aa} {r : Bool} (h : C8.F K R p0 = some r) : AWp V P 9 100 Γ (Tryz.f30.body.getD .skip) (EndsE P V Tryz.f30 (.B r) []) ⟨args0 0 [.cv (.ro .Ad p0), .cv (.fn (.func 92) [] [])], []⟩ := by
 unfold C8.F at h
 refine sg0 L 200 <| awp_seq ?_
 obtain ⟨a1, h1, h⟩ := bind_some h
 refine rg L 203 [] [(2, .B a1)] [] (plt (B9.okR hR h1)) ?_
 refine awp_ret ?_
 cases h
 exact er0
def A3.F (K : Nat) (R : Ag) (p0 : Aa) : Option Bool := (if p0.Op = 53 then (Option.bind (Av K p0 false false false) (fun a1 => (if a1 = true then (Option.bind (R.C8 p0.Kids) (fun a2 => some a2)) else some false))) else some false)
theorem A3.body {Γ : Ent} {K : Nat} {R : Ag} (hR : R.Ok) {p0 : Aa} {r : Bool} (h : A3.F K R p0 = some r) : AWp V P 15 100 Γ (Tryz.f60.body.getD .skip) (EndsE P V Tryz.f60 (.B r) []) ⟨args0 0 [.agg (Ae p0)], []⟩ := by
 unfold A3.F at h
 refine sg0 L 200 <| awp_seq ?_
 rcases ite_some h with ⟨c1, h⟩ | ⟨c1, h⟩
 ·obtain ⟨a1, h1, h⟩ := bind_some h
  rcases ite_some h with ⟨c2, h⟩ | ⟨c2, h⟩
  ·obtain ⟨a2, h2, h⟩ := bind_some h
   refine rg L 203 [(3, true), (7, true)] [(5, .B a1), (10, .B a2)] [] (plc (decide_eq_true c1) (plc (Av.ok h1) (plc trivial (plc c2 (plc (C8.okR hR h2) (pl1 trivial)))))) ?_
   refine awp_ret ?_
   cases h
   exact er0
  refine rg L 203 [(3, true), (7, false)] [(5, .B a1)] [] (plc (decide_eq_true c1) (plc (Av.ok h1) (plc trivial (pl1 (eq_false_of_ne_true c2))))) ?_
  refine awp_ret ?_
  cases h
  exact er0
 refine rg L 203 [(3, false)] [] [] (pl1 (decide_eq_false c1)) ?_
 refine awp_ret ?_
 cases h
 exact er0
def Ag.upto (K : Nat) : Nat → Ag
 | 0 => ⟨fun _ => none, fun _ => none, fun _ => none, fun _ => none, fun _ => none, fun _ => none, fun _ => none, fun _ => none, fun _ => none, fun _ => none, fun _ => none, fun _ => none, fun _ => none, fun _ => none, fun _ => none, fun _ => none, fun _ => none⟩
 | k + 1 => ⟨Ds.F K (Ag.upto K k), Ct.F K (Ag.upto K k), Br.F K (Ag.upto K k), Cd.F K (Ag.upto K k), C0.F K (Ag.upto K k), C9.F K (Ag.upto K k), Cu.F K (Ag.upto K k), Bt.F K (Ag.upto K k), Cb.F K (Ag.upto K k), C2.F K (Ag.upto K k), C3.F K (Ag.upto K k), Ce.F K (Ag.upto K k), Cx.F K (Ag.upto K k), Bv.F K (Ag.upto K k), B9.F K (Ag.upto K k), C8.F K (Ag.upto K k), A3.F K (Ag.upto K k)⟩
theorem Ag.upto_ok (K : Nat) : ∀ k, (Ag.upto K k).Ok
 | 0 => ⟨fun h => (by cases h), fun h => (by cases h), fun h => (by cases h), fun h => (by cases h), fun h => (by cases h), fun h => (by cases h), fun h => (by cases h), fun h => (by cases h), fun h => (by cases h), fun h => (by cases h), fun h => (by cases h), fun h => (by cases h), fun h => (by cases h), fun h => (by cases h), fun h => (by cases h), fun h => (by cases h), fun h => (by cases h)⟩
 | k + 1 => ⟨fun {p0 r} h => eo (fn := Tryz.f120) (n := 47) (m := 100) fun Γ => Ds.body (K := K) (Ag.upto_ok K k) h, fun {p0 r} h => eo (fn := Tryz.f57) (n := 8) (m := 100) fun Γ => Ct.body (K := K) (Ag.upto_ok K k) h, fun {p0 r} h => eo (fn := Tryz.f90) (n := 19) (m := 100) fun Γ => Br.body (K := K) (Ag.upto_ok K k) h, fun {p0 r} h => eo (fn := Tryz.f56) (n := 9) (m := 100) fun Γ => Cd.body (K := K) (Ag.upto_ok K k) h, fun {p0 r} h => eo (fn := Tryz.f30) (n := 9) (m := 100) fun Γ => C0.body (K := K) (Ag.upto_ok K k) h, fun {p0 r} h => eo (fn := Tryz.f136) (n := 40) (m := 100) fun Γ => C9.body (K := K) (Ag.upto_ok K k) h, fun {p0 r} h => eo (fn := Tryz.f57) (n := 8) (m := 100) fun Γ => Cu.body (K := K) (Ag.upto_ok K k) h, fun {p0 r} h => eo (fn := Tryz.f90) (n := 19) (m := 100) fun Γ => Bt.body (K := K) (Ag.upto_ok K k) h, fun {p0 r} h => eo (fn := Tryz.f56) (n := 9) (m := 100) fun Γ => Cb.body (K := K) (Ag.upto_ok K k) h, fun {p0 r} h => eo (fn := Tryz.f30) (n := 9) (m := 100) fun Γ => C2.body (K := K) (Ag.upto_ok K k) h, fun {p0 r} h => eo (fn := Tryz.f121) (n := 59) (m := 100) fun Γ => C3.body (K := K) (Ag.upto_ok K k) h, fun {p0 r} h => eo (fn := Tryz.f92) (n := 143) (m := 100) fun Γ => Ce.body (K := K) (Ag.upto_ok K k) h, fun {p0 r} h => eo (fn := Tryz.f57) (n := 8) (m := 100) fun Γ => Cx.body (K := K) (Ag.upto_ok K k) h, fun {p0 r} h => eo (fn := Tryz.f90) (n := 19) (m := 100) fun Γ => Bv.body (K := K) (Ag.upto_ok K k) h, fun {p0 r} h => eo (fn := Tryz.f56) (n := 9) (m := 100) fun Γ => B9.body (K := K) (Ag.upto_ok K k) h, fun {p0 r} h => eo (fn := Tryz.f30) (n := 9) (m := 100) fun Γ => C8.body (K := K) (Ag.upto_ok K k) h, fun {p0 r} h => eo (fn := Tryz.f60) (n := 15) (m := 100) fun Γ => A3.body (K := K) (Ag.upto_ok K k) h⟩
def Ds (K : Nat) (p0 : List Aa) : Option Bool := (Ag.upto K K).Ds p0
theorem Ds.okE {K : Nat} {p0 : List Aa} {r : Bool} (h : Ds K p0 = some r) : ECall V P 120 [.cv (.ro .Ad p0)] [] [] (.B r) [] := (Ag.upto_ok K K).Ds h
theorem Ds.ok {K : Nat} {p0 : List Aa} {r : Bool} (h : Ds K p0 = some r) : PCall V P 120 [.cv (.ro .Ad p0)] (.B r) := (Ds.okE h).pcall (by kernel_rfl)
def Ct (K : Nat) (p0 : Aa) : Option Bool := (Ag.upto K K).Ct p0
theorem Ct.okE {K : Nat} {p0 : Aa} {r : Bool} (h : Ct K p0 = some r) : ECall V P 57 [.agg (Ae p0), .cv (.pcs [.fn (.func 60) [] []] 0)] [] [] (.B r) [] := (Ag.upto_ok K K).Ct h
theorem Ct.ok {K : Nat} {p0 : Aa} {r : Bool} (h : Ct K p0 = some r) : PCall V P 57 [.agg (Ae p0), .cv (.pcs [.fn (.func 60) [] []] 0)] (.B r) := (Ct.okE h).pcall (by kernel_rfl)
def Br (K : Nat) (p0 : List Aa) : Option Int := (Ag.upto K K).Br p0
theorem Br.okE {K : Nat} {p0 : List Aa} {r : Int} (h : Br K p0 = some r) : ECall V P 90 [.cv (.ro .Ad p0), .cv (.fn (.func 57) [] [.pcs [.fn (.func 60) [] []] 0])] [] [] (.I r) [] := (Ag.upto_ok K K).Br h
theorem Br.ok {K : Nat} {p0 : List Aa} {r : Int} (h : Br K p0 = some r) : PCall V P 90 [.cv (.ro .Ad p0), .cv (.fn (.func 57) [] [.pcs [.fn (.func 60) [] []] 0])] (.I r) := (Br.okE h).pcall (by kernel_rfl)
def Cd (K : Nat) (p0 : List Aa) : Option Bool := (Ag.upto K K).Cd p0
theorem Cd.okE {K : Nat} {p0 : List Aa} {r : Bool} (h : Cd K p0 = some r) : ECall V P 56 [.cv (.ro .Ad p0), .cv (.fn (.func 57) [] [.pcs [.fn (.func 60) [] []] 0])] [] [] (.B r) [] := (Ag.upto_ok K K).Cd h
theorem Cd.ok {K : Nat} {p0 : List Aa} {r : Bool} (h : Cd K p0 = some r) : PCall V P 56 [.cv (.ro .Ad p0), .cv (.fn (.func 57) [] [.pcs [.fn (.func 60) [] []] 0])] (.B r) := (Cd.okE h).pcall (by kernel_rfl)
def C0 (K : Nat) (p0 : List Aa) : Option Bool := (Ag.upto K K).C0 p0
theorem C0.okE {K : Nat} {p0 : List Aa} {r : Bool} (h : C0 K p0 = some r) : ECall V P 30 [.cv (.ro .Ad p0), .cv (.fn (.func 60) [] [])] [] [] (.B r) [] := (Ag.upto_ok K K).C0 h
theorem C0.ok {K : Nat} {p0 : List Aa} {r : Bool} (h : C0 K p0 = some r) : PCall V P 30 [.cv (.ro .Ad p0), .cv (.fn (.func 60) [] [])] (.B r) := (C0.okE h).pcall (by kernel_rfl)
def C9 (K : Nat) (p0 : Aa) : Option Bool := (Ag.upto K K).C9 p0
theorem C9.okE {K : Nat} {p0 : Aa} {r : Bool} (h : C9 K p0 = some r) : ECall V P 136 [.agg (Ae p0)] [] [] (.B r) [] := (Ag.upto_ok K K).C9 h
theorem C9.ok {K : Nat} {p0 : Aa} {r : Bool} (h : C9 K p0 = some r) : PCall V P 136 [.agg (Ae p0)] (.B r) := (C9.okE h).pcall (by kernel_rfl)
def Cu (K : Nat) (p0 : Aa) : Option Bool := (Ag.upto K K).Cu p0
theorem Cu.okE {K : Nat} {p0 : Aa} {r : Bool} (h : Cu K p0 = some r) : ECall V P 57 [.agg (Ae p0), .cv (.pcs [.fn (.func 136) [] []] 0)] [] [] (.B r) [] := (Ag.upto_ok K K).Cu h
theorem Cu.ok {K : Nat} {p0 : Aa} {r : Bool} (h : Cu K p0 = some r) : PCall V P 57 [.agg (Ae p0), .cv (.pcs [.fn (.func 136) [] []] 0)] (.B r) := (Cu.okE h).pcall (by kernel_rfl)
def Bt (K : Nat) (p0 : List Aa) : Option Int := (Ag.upto K K).Bt p0
theorem Bt.okE {K : Nat} {p0 : List Aa} {r : Int} (h : Bt K p0 = some r) : ECall V P 90 [.cv (.ro .Ad p0), .cv (.fn (.func 57) [] [.pcs [.fn (.func 136) [] []] 0])] [] [] (.I r) [] := (Ag.upto_ok K K).Bt h
theorem Bt.ok {K : Nat} {p0 : List Aa} {r : Int} (h : Bt K p0 = some r) : PCall V P 90 [.cv (.ro .Ad p0), .cv (.fn (.func 57) [] [.pcs [.fn (.func 136) [] []] 0])] (.I r) := (Bt.okE h).pcall (by kernel_rfl)
def Cb (K : Nat) (p0 : List Aa) : Option Bool := (Ag.upto K K).Cb p0
theorem Cb.okE {K : Nat} {p0 : List Aa} {r : Bool} (h : Cb K p0 = some r) : ECall V P 56 [.cv (.ro .Ad p0), .cv (.fn (.func 57) [] [.pcs [.fn (.func 136) [] []] 0])] [] [] (.B r) [] := (Ag.upto_ok K K).Cb h
theorem Cb.ok {K : Nat} {p0 : List Aa} {r : Bool} (h : Cb K p0 = some r) : PCall V P 56 [.cv (.ro .Ad p0), .cv (.fn (.func 57) [] [.pcs [.fn (.func 136) [] []] 0])] (.B r) := (Cb.okE h).pcall (by kernel_rfl)
def C2 (K : Nat) (p0 : List Aa) : Option Bool := (Ag.upto K K).C2 p0
theorem C2.okE {K : Nat} {p0 : List Aa} {r : Bool} (h : C2 K p0 = some r) : ECall V P 30 [.cv (.ro .Ad p0), .cv (.fn (.func 136) [] [])] [] [] (.B r) [] := (Ag.upto_ok K K).C2 h
theorem C2.ok {K : Nat} {p0 : List Aa} {r : Bool} (h : C2 K p0 = some r) : PCall V P 30 [.cv (.ro .Ad p0), .cv (.fn (.func 136) [] [])] (.B r) := (C2.okE h).pcall (by kernel_rfl)
def C3 (K : Nat) (p0 : List Aa) : Option Bool := (Ag.upto K K).C3 p0
theorem C3.okE {K : Nat} {p0 : List Aa} {r : Bool} (h : C3 K p0 = some r) : ECall V P 121 [.cv (.ro .Ad p0)] [] [] (.B r) [] := (Ag.upto_ok K K).C3 h
theorem C3.ok {K : Nat} {p0 : List Aa} {r : Bool} (h : C3 K p0 = some r) : PCall V P 121 [.cv (.ro .Ad p0)] (.B r) := (C3.okE h).pcall (by kernel_rfl)
def Ce (K : Nat) (p0 : Aa) : Option Bool := (Ag.upto K K).Ce p0
theorem Ce.okE {K : Nat} {p0 : Aa} {r : Bool} (h : Ce K p0 = some r) : ECall V P 92 [.agg (Ae p0)] [] [] (.B r) [] := (Ag.upto_ok K K).Ce h
theorem Ce.ok {K : Nat} {p0 : Aa} {r : Bool} (h : Ce K p0 = some r) : PCall V P 92 [.agg (Ae p0)] (.B r) := (Ce.okE h).pcall (by kernel_rfl)
def Cx (K : Nat) (p0 : Aa) : Option Bool := (Ag.upto K K).Cx p0
theorem Cx.okE {K : Nat} {p0 : Aa} {r : Bool} (h : Cx K p0 = some r) : ECall V P 57 [.agg (Ae p0), .cv (.pcs [.fn (.func 92) [] []] 0)] [] [] (.B r) [] := (Ag.upto_ok K K).Cx h
theorem Cx.ok {K : Nat} {p0 : Aa} {r : Bool} (h : Cx K p0 = some r) : PCall V P 57 [.agg (Ae p0), .cv (.pcs [.fn (.func 92) [] []] 0)] (.B r) := (Cx.okE h).pcall (by kernel_rfl)
def Bv (K : Nat) (p0 : List Aa) : Option Int := (Ag.upto K K).Bv p0
theorem Bv.okE {K : Nat} {p0 : List Aa} {r : Int} (h : Bv K p0 = some r) : ECall V P 90 [.cv (.ro .Ad p0), .cv (.fn (.func 57) [] [.pcs [.fn (.func 92) [] []] 0])] [] [] (.I r) [] := (Ag.upto_ok K K).Bv h
theorem Bv.ok {K : Nat} {p0 : List Aa} {r : Int} (h : Bv K p0 = some r) : PCall V P 90 [.cv (.ro .Ad p0), .cv (.fn (.func 57) [] [.pcs [.fn (.func 92) [] []] 0])] (.I r) := (Bv.okE h).pcall (by kernel_rfl)
def B9 (K : Nat) (p0 : List Aa) : Option Bool := (Ag.upto K K).B9 p0
theorem B9.okE {K : Nat} {p0 : List Aa} {r : Bool} (h : B9 K p0 = some r) : ECall V P 56 [.cv (.ro .Ad p0), .cv (.fn (.func 57) [] [.pcs [.fn (.func 92) [] []] 0])] [] [] (.B r) [] := (Ag.upto_ok K K).B9 h
theorem B9.ok {K : Nat} {p0 : List Aa} {r : Bool} (h : B9 K p0 = some r) : PCall V P 56 [.cv (.ro .Ad p0), .cv (.fn (.func 57) [] [.pcs [.fn (.func 92) [] []] 0])] (.B r) := (B9.okE h).pcall (by kernel_rfl)
def C8 (K : Nat) (p0 : List Aa) : Option Bool := (Ag.upto K K).C8 p0
theorem C8.okE {K : Nat} {p0 : List Aa} {r : Bool} (h : C8 K p0 = some r) : ECall V P 30 [.cv (.ro .Ad p0), .cv (.fn (.func 92) [] [])] [] [] (.B r) [] := (Ag.upto_ok K K).C8 h
theorem C8.ok {K : Nat} {p0 : List Aa} {r : Bool} (h : C8 K p0 = some r) : PCall V P 30 [.cv (.ro .Ad p0), .cv (.fn (.func 92) [] [])] (.B r) := (C8.okE h).pcall (by kernel_rfl)
def A3 (K : Nat) (p0 : Aa) : Option Bool := (Ag.upto K K).A3 p0
theorem A3.okE {K : Nat} {p0 : Aa} {r : Bool} (h : A3 K p0 = some r) : ECall V P 60 [.agg (Ae p0)] [] [] (.B r) [] := (Ag.upto_ok K K).A3 h
theorem A3.ok {K : Nat} {p0 : Aa} {r : Bool} (h : A3 K p0 = some r) : PCall V P 60 [.agg (Ae p0)] (.B r) := (A3.okE h).pcall (by kernel_rfl)
def Dq (K : Nat) (p0 : Aa) : Option Bool := (if p0.Op = 6 then (Option.bind (A0 K p0) (fun a1 => some a1)) else some false)
theorem Dq.body {Γ : Ent} {K : Nat} {p0 : Aa} {r : Bool} (h : Dq K p0 = some r) : AWp V P 10 100 Γ (Tryz.f61.body.getD .skip) (EndsE P V Tryz.f61 (.B r) []) ⟨args0 0 [.agg (Ae p0)], []⟩ := by
 unfold Dq at h
 refine sg0 L 200 <| awp_seq ?_
 rcases ite_some h with ⟨c1, h⟩ | ⟨c1, h⟩
 ·obtain ⟨a1, h1, h⟩ := bind_some h
  refine rg L 203 [(3, true)] [(5, .B a1)] [] (plc (decide_eq_true c1) (plc (A0.ok h1) (pl1 trivial))) ?_
  refine awp_ret ?_
  cases h
  exact er0
 refine rg L 203 [(3, false)] [] [] (pl1 (decide_eq_false c1)) ?_
 refine awp_ret ?_
 cases h
 exact er0
theorem Dq.ok {K : Nat} {p0 : Aa} {r : Bool} (h : Dq K p0 = some r) : PCall V P 61 [.agg (Ae p0)] (.B r) := ECall.pcall (eo (fn := Tryz.f61) (n := 10) (m := 100) fun Γ => Dq.body h) (by kernel_rfl)
def Ek (K : Nat) (p0 : Aa) : Option Bool := (Option.bind (Dq K p0) (fun a1 => some (!a1)))
theorem Ek.body {Γ : Ent} {K : Nat} {p0 : Aa} {r : Bool} (h : Ek K p0 = some r) : AWp V P 8 100 Γ (Tryz.f57.body.getD .skip) (EndsE P V Tryz.f57 (.B r) []) ⟨args0 0 [.agg (Ae p0), .cv (.pcs [.fn (.func 61) [] []] 0)], []⟩ := by
 unfold Ek at h
 refine sg0 L 200 <| awp_seq ?_
 obtain ⟨a1, h1, h⟩ := bind_some h
 refine rg L 203 [] [(2, .B a1)] [] (plt (Dq.ok h1)) ?_
 refine awp_ret ?_
 cases h
 exact er0
theorem Ek.ok {K : Nat} {p0 : Aa} {r : Bool} (h : Ek K p0 = some r) : PCall V P 57 [.agg (Ae p0), .cv (.pcs [.fn (.func 61) [] []] 0)] (.B r) := ECall.pcall (eo (fn := Tryz.f57) (n := 8) (m := 100) fun Γ => Ek.body h) (by kernel_rfl)
def C7.l7 (K : Nat) (p0 : List Aa) : Nat → Int → Option (Out Int Unit)
 | 0, _ => none
 | k + 1, xt8_7h => (if xt8_7h < (p0.length : Int) then (if (0 : Int) ≤ xt8_7h ∧ (xt8_7h : Int) < (p0.length : Int) then (Option.bind (Ek K (p0.getD (Int.toNat xt8_7h) Ai)) (fun a1 => (if a1 = true then some (Out.done xt8_7h) else C7.l7 K p0 k (IntKind.i64.wrap (xt8_7h + 1))))) else none) else some (Out.go ()))
def C7 (K : Nat) (p0 : List Aa) : Option Int := (obind (C7.l7 K p0 K 0 : Option (Out Int Unit)) (fun r => r) (fun _ => some (-1)))
theorem C7.body {Γ : Ent} {K : Nat} {p0 : List Aa} {r : Int} (h : C7 K p0 = some r) : AWp V P 19 100 Γ (Tryz.f90.body.getD .skip) (EndsE P V Tryz.f90 (.I r) []) ⟨args0 0 [.cv (.ro .Ad p0), .cv (.fn (.func 57) [] [.pcs [.fn (.func 61) [] []] 0])], []⟩ := by
 unfold C7 at h
 refine sg0 L 200 <| awp_seq <| sg0 L 202 <| awp_block <| kp (S' := ⟨[(0, .cv (.ro .Ad p0)), (1, .cv (.fn (.func 57) [] [.pcs [.fn (.func 61) [] []] 0])), (7, .I (p0.length : Int)), (8, .I 0)], []⟩) ?_
 obtain ⟨o1, hp1, h⟩ := obind_some h
 refine awp_conseq (Q' := fun e S => (e = .exit 0 ∧ S = ⟨[], []⟩ ∧ Out.go () = o1) ∨ (e = .ret ∧ ∃ a, Out.done a = o1 ∧ EndsE P V Tryz.f90 (.I a) [] .ret S)) (awp_loop (fun k S => ∃ xt8_7h : Int, S = ⟨[(0, .cv (.ro .Ad p0)), (1, .cv (.fn (.func 57) [] [.pcs [.fn (.func 61) [] []] 0])), (7, .I (p0.length : Int)), (8, .I xt8_7h)], []⟩ ∧ C7.l7 K p0 k xt8_7h = some o1) ?_ ⟨_, rfl, hp1⟩) ?_
 ·clear h hp1
  intro k S hS
  obtain ⟨xt8_7h, rfl, h⟩ := hS
  cases k with
  | zero => cases h
  | succ k =>
  unfold C7.l7 at h
  refine sg0 L 206 <| awp_seq ?_
  rcases ite_some h with ⟨c1, h⟩ | ⟨c1, h⟩
  ·refine tT c1 <| awp_skip' <| awp_seq <| awp_block <| sg0 L 208 <| awp_seq ?_
   obtain ⟨g1, h⟩ := guard_some h
   obtain ⟨a1, h1, h⟩ := bind_some h
   refine rg L 211 [] [(5, .B a1)] [] (plc g1.1 (plc g1.2 (plc (Ek.ok h1) (pl1 trivial)))) ?_
   rcases ite_some h with ⟨c2, h⟩ | ⟨c2, h⟩
   ·refine tt c2 <| sg0 L 218 <| awp_ret ?_
    cases h
    exact .inr ⟨rfl, _, rfl, er0⟩
   refine fN c2 <| awp_skip' <| ar0 L 221 [] [] [] (S' := ⟨[(0, .cv (.ro .Ad p0)), (1, .cv (.fn (.func 57) [] [.pcs [.fn (.func 61) [] []] 0])), (7, .I (p0.length : Int)), (8, .I (IntKind.i64.wrap (xt8_7h + 1)))], []⟩) ?_
   exact ⟨k, Nat.lt_succ_self k, _, rfl, h⟩
  refine fF c1 <| ex (S' := ⟨[], []⟩) ?_
  cases h
  exact .inl ⟨rfl, rfl, rfl⟩
 ·rintro e S (⟨rfl, rfl, rfl⟩ | ⟨rfl, a, rfl, hr⟩)
  ·rcases h with ⟨_, e1, h⟩ | ⟨_, e1, h⟩
   ·cases e1
   ·have e2 := Out.go.inj e1
    subst e2
    refine ⟨_, Turns.refl, ?_⟩
    refine sg0 L 224 <| awp_ret ?_
    cases h
    exact er0
  ·rcases h with ⟨_, e1, h⟩ | ⟨_, e1, h⟩
   ·have e2 := Out.done.inj e1
    subst e2
    subst h
    exact ⟨_, Turns.refl, hr⟩
   ·cases e1
theorem C7.ok {K : Nat} {p0 : List Aa} {r : Int} (h : C7 K p0 = some r) : PCall V P 90 [.cv (.ro .Ad p0), .cv (.fn (.func 57) [] [.pcs [.fn (.func 61) [] []] 0])] (.I r) := ECall.pcall (eo (fn := Tryz.f90) (n := 19) (m := 100) fun Γ => C7.body h) (by kernel_rfl)
def Dy (K : Nat) (p0 : List Aa) : Option Bool := (Option.bind (C7 K p0) (fun a1 => some (decide (a1 ≥ 0))))
theorem Dy.body {Γ : Ent} {K : Nat} {p0 : List Aa} {r : Bool} (h : Dy K p0 = some r) : AWp V P 9 100 Γ (Tryz.f56.body.getD .skip) (EndsE P V Tryz.f56 (.B r) []) ⟨args0 0 [.cv (.ro .Ad p0), .cv (.fn (.func 57) [] [.pcs [.fn (.func 61) [] []] 0])], []⟩ := by
 unfold Dy at h
 refine sg0 L 200 <| awp_seq ?_
 obtain ⟨a1, h1, h⟩ := bind_some h
 refine rg L 202 [] [(2, .I a1)] [] (plt (C7.ok h1)) ?_
 refine awp_ret ?_
 cases h
 exact er0
theorem Dy.ok {K : Nat} {p0 : List Aa} {r : Bool} (h : Dy K p0 = some r) : PCall V P 56 [.cv (.ro .Ad p0), .cv (.fn (.func 57) [] [.pcs [.fn (.func 61) [] []] 0])] (.B r) := ECall.pcall (eo (fn := Tryz.f56) (n := 9) (m := 100) fun Γ => Dy.body h) (by kernel_rfl)
def Et (K : Nat) (p0 : List Aa) : Option Bool := (Option.bind (Dy K p0) (fun a1 => some (!a1)))
theorem Et.body {Γ : Ent} {K : Nat} {p0 : List Aa} {r : Bool} (h : Et K p0 = some r) : AWp V P 9 100 Γ (Tryz.f30.body.getD .skip) (EndsE P V Tryz.f30 (.B r) []) ⟨args0 0 [.cv (.ro .Ad p0), .cv (.fn (.func 61) [] [])], []⟩ := by
 unfold Et at h
 refine sg0 L 200 <| awp_seq ?_
 obtain ⟨a1, h1, h⟩ := bind_some h
 refine rg L 203 [] [(2, .B a1)] [] (plt (Dy.ok h1)) ?_
 refine awp_ret ?_
 cases h
 exact er0
theorem Et.ok {K : Nat} {p0 : List Aa} {r : Bool} (h : Et K p0 = some r) : PCall V P 30 [.cv (.ro .Ad p0), .cv (.fn (.func 61) [] [])] (.B r) := ECall.pcall (eo (fn := Tryz.f30) (n := 9) (m := 100) fun Γ => Et.body h) (by kernel_rfl)
def Dv (K : Nat) (p0 : Aa) : Option Bool := (if (IntKind.i64.wrap ((p0.Kids.length : Int) - 1)) < 0 then some false else (Option.bind (A8 K p0.Name) (fun a1 => (if a1 = true then (if p0.Op = 61 then (Option.bind (Av K p0 true false false) (fun a2 => (if a2 = true then (if (IntKind.i64.wrap ((p0.Kids.length : Int) - 1)) = 0 then (if (0 : Int) < (p0.Kids.length : Int) then (Option.bind (D3 K (p0.Kids.getD (Int.toNat 0) Ai)) (fun a3 => some a3)) else none) else some false) else some false))) else (if p0.Op = 62 then (Option.bind (Av K p0 true false false) (fun a4 => (if a4 = true then (if (0 : Int) ≤ (IntKind.i64.wrap ((p0.Kids.length : Int) - 1)) ∧ ((IntKind.i64.wrap ((p0.Kids.length : Int) - 1)) : Int) < (p0.Kids.length : Int) then (Option.bind (A3 K (p0.Kids.getD (Int.toNat (IntKind.i64.wrap ((p0.Kids.length : Int) - 1))) Ai)) (fun a5 => (if a5 = true then (if (IntKind.i64.wrap ((p0.Kids.length : Int) - 1)) ≤ (p0.Kids.length : Int) then (Option.bind (Et K (slc p0.Kids 0 (IntKind.i64.wrap ((p0.Kids.length : Int) - 1)))) (fun a6 => some a6)) else none) else some false))) else none) else some false))) else (Option.bind ((if p0.Op = 63 then some (decide (p0.Op = 63)) else some (decide (p0.Op = 64))) : Option Bool) (fun xt52_29 => (if xt52_29 = true then (Option.bind (Av K p0 true true false) (fun a7 => (if a7 = true then (Option.bind (A8 K p0.Text) (fun a8 => (if a8 = true then (if (IntKind.i64.wrap ((p0.Kids.length : Int) - 1)) = 0 then (if (0 : Int) < (p0.Kids.length : Int) then (Option.bind (A3 K (p0.Kids.getD (Int.toNat 0) Ai)) (fun a9 => some a9)) else none) else some false) else some false))) else some false))) else (if p0.Op = 65 then (Option.bind (Av K p0 true true false) (fun a10 => (if a10 = true then (Option.bind (A8 K p0.Text) (fun a11 => (if a11 = true then (if (IntKind.i64.wrap ((p0.Kids.length : Int) - 1)) ≤ 1 then (Option.bind (C0 K p0.Kids) (fun a12 => some a12)) else some false) else some false))) else some false))) else some false)))))) else some false))))
theorem Dv.body {Γ : Ent} {K : Nat} {p0 : Aa} {r : Bool} (h : Dv K p0 = some r) : AWp V P 91 100 Γ (Tryz.f31.body.getD .skip) (EndsE P V Tryz.f31 (.B r) []) ⟨args0 0 [.agg (Ae p0)], []⟩ := by
 unfold Dv at h
 refine sg0 L 200 <| sg0 L 203 <| awp_seq <| awp_seq ?_
 rcases ite_some h with ⟨c1, h⟩ | ⟨c1, h⟩
 ·refine rg L 209 [(2, true)] [] [] (pl1 (decide_eq_true c1)) ?_
  refine tt (b := true) (rfl) ?_
  refine sg0 L 218 <| awp_ret ?_
  cases h
  exact er0
 obtain ⟨a1, h1, h⟩ := bind_some h
 refine rg L 209 [(2, false)] [(5, .B a1)] [] (plc (decide_eq_false c1) (plc (A8.ok h1) (pl1 trivial))) ?_
 rcases ite_some h with ⟨c2, h⟩ | ⟨c2, h⟩
 ·refine ff (b := (!a1)) (congrArg Bool.not (c2)) ?_
  refine awp_skip' <| awp_seq <| sg0 L 220 <| awp_block <| sg0 L 223 ?_
  rcases ite_some h with ⟨c3, h⟩ | ⟨c3, h⟩
  ·refine tT c3 <| awp_seq ?_
   obtain ⟨a2, h2, h⟩ := bind_some h
   rcases ite_some h with ⟨c4, h⟩ | ⟨c4, h⟩
   ·rcases ite_some h with ⟨c5, h⟩ | ⟨c5, h⟩
    ·obtain ⟨g1, h⟩ := guard_some h
     obtain ⟨a3, h3, h⟩ := bind_some h
     refine rg L 226 [(2, true), (6, true)] [(1, .B a2), (11, .B a3)] [] (plc (Av.ok h2) (plc trivial (plc c4 (plc (decide_eq_true c5) (plc (show (0 : Int) ≤ 0 from by decide) (plc g1 (plc (D3.ok h3) (pl1 trivial)))))))) ?_
     refine awp_ret ?_
     cases h
     exact er0
    refine rg L 226 [(2, true), (6, false)] [(1, .B a2)] [] (plc (Av.ok h2) (plc trivial (plc c4 (pl1 (decide_eq_false c5))))) ?_
    refine awp_ret ?_
    cases h
    exact er0
   refine rg L 226 [(2, false)] [(1, .B a2)] [] (plc (Av.ok h2) (plc trivial (pl1 (eq_false_of_ne_true c4)))) ?_
   refine awp_ret ?_
   cases h
   exact er0
  refine fF c3 <| sg0 L 241 ?_
  rcases ite_some h with ⟨c6, h⟩ | ⟨c6, h⟩
  ·refine tT c6 <| awp_seq ?_
   obtain ⟨a4, h4, h⟩ := bind_some h
   rcases ite_some h with ⟨c7, h⟩ | ⟨c7, h⟩
   ·obtain ⟨g2, h⟩ := guard_some h
    obtain ⟨a5, h5, h⟩ := bind_some h
    rcases ite_some h with ⟨c8, h⟩ | ⟨c8, h⟩
    ·obtain ⟨g3, h⟩ := guard_some h
     obtain ⟨a6, h6, h⟩ := bind_some h
     refine rg L 244 [(2, true), (10, true)] [(1, .B a4), (8, .B a5), (15, .B a6)] [] (plc (Av.ok h4) (plc trivial (plc c7 (plc g2.1 (plc g2.2 (plc (A3.ok h5) (plc trivial (plc c8 (plc (show (0 : Int) ≤ 0 from Int.le_refl _) (plc g2.1 (plc g3 (plc (Et.ok h6) (pl1 trivial))))))))))))) ?_
     refine awp_ret ?_
     cases h
     exact er0
    refine rg L 244 [(2, true), (10, false)] [(1, .B a4), (8, .B a5)] [] (plc (Av.ok h4) (plc trivial (plc c7 (plc g2.1 (plc g2.2 (plc (A3.ok h5) (plc trivial (pl1 (eq_false_of_ne_true c8))))))))) ?_
    refine awp_ret ?_
    cases h
    exact er0
   refine rg L 244 [(2, false)] [(1, .B a4)] [] (plc (Av.ok h4) (plc trivial (pl1 (eq_false_of_ne_true c7)))) ?_
   refine awp_ret ?_
   cases h
   exact er0
  refine fF c6 ?_
  obtain ⟨o1, hp1, h⟩ := bind_some h
  refine awp_seq (awp_mono (Q' := fun e S => (e = .normal ∧ ∃ xt52_29 : Bool, S = ⟨[(1, .P 25800), (3, .I (IntKind.i64.wrap ((p0.Kids.length : Int) - 1))), (17, .I p0.Op), (52, .B xt52_29)], [(25800, .raw (Ae p0))]⟩ ∧ xt52_29 = o1)) ?_ ?_)
  ·clear h
   replace h := hp1
   refine sg0 L 263 ?_
   rcases ite_some h with ⟨c9, h⟩ | ⟨c9, h⟩
   ·refine tT c9 <| awp_turn (Turns.trans (Turns.kk [1, 3, 17, 52] [200]) (Turns.rr [(200, 25800)])) ?_
    refine sk (S' := ⟨[(1, .P 25800), (3, .I (IntKind.i64.wrap ((p0.Kids.length : Int) - 1))), (17, .I p0.Op), (52, .B (decide (p0.Op = 63)))], [(25800, .raw (Ae p0))]⟩) ?_
    cases h
    exact ⟨rfl, _, rfl, rfl⟩
   refine fF c9 <| awp_post (rg0 L 266 ⟨rfl, rfl⟩) (Turns.trans (Turns.kk [1, 3, 17, 52] [200]) (Turns.trans (Turns.rr [(200, 25800)]) (Turns.kp (S' := ⟨[(1, .P 25800), (3, .I (IntKind.i64.wrap ((p0.Kids.length : Int) - 1))), (17, .I p0.Op), (52, .B (decide (p0.Op = 64)))], [(25800, .raw (Ae p0))]⟩)))) ?_
   cases h
   exact ⟨rfl, _, rfl, rfl⟩
  ·rintro e S ⟨rfl, xt52_29, rfl, rfl⟩
   rcases ite_some h with ⟨c10, h⟩ | ⟨c10, h⟩
   ·refine tt c10 <| awp_seq ?_
    obtain ⟨a7, h7, h⟩ := bind_some h
    rcases ite_some h with ⟨c11, h⟩ | ⟨c11, h⟩
    ·obtain ⟨a8, h8, h⟩ := bind_some h
     rcases ite_some h with ⟨c12, h⟩ | ⟨c12, h⟩
     ·rcases ite_some h with ⟨c13, h⟩ | ⟨c13, h⟩
      ·obtain ⟨g4, h⟩ := guard_some h
       obtain ⟨a9, h9, h⟩ := bind_some h
       refine rg L 269 [(2, true), (7, true), (11, true)] [(1, .B a7), (5, .B a8), (16, .B a9)] [] (plc (Av.ok h7) (plc trivial (plc c11 (plc (A8.ok h8) (plc trivial (plc c12 (plc (decide_eq_true c13) (plc (show (0 : Int) ≤ 0 from by decide) (plc g4 (plc (A3.ok h9) (pl1 trivial))))))))))) ?_
       refine awp_ret ?_
       cases h
       exact er0
      refine rg L 269 [(2, true), (7, true), (11, false)] [(1, .B a7), (5, .B a8)] [] (plc (Av.ok h7) (plc trivial (plc c11 (plc (A8.ok h8) (plc trivial (plc c12 (pl1 (decide_eq_false c13)))))))) ?_
      refine awp_ret ?_
      cases h
      exact er0
     refine rg L 269 [(2, true), (7, false)] [(1, .B a7), (5, .B a8)] [] (plc (Av.ok h7) (plc trivial (plc c11 (plc (A8.ok h8) (plc trivial (pl1 (eq_false_of_ne_true c12))))))) ?_
     refine awp_ret ?_
     cases h
     exact er0
    refine rg L 269 [(2, false)] [(1, .B a7)] [] (plc (Av.ok h7) (plc trivial (pl1 (eq_false_of_ne_true c11)))) ?_
    refine awp_ret ?_
    cases h
    exact er0
   refine fN c10 <| sg0 L 289 ?_
   rcases ite_some h with ⟨c14, h⟩ | ⟨c14, h⟩
   ·refine tT c14 <| awp_seq ?_
    obtain ⟨a10, h10, h⟩ := bind_some h
    rcases ite_some h with ⟨c15, h⟩ | ⟨c15, h⟩
    ·obtain ⟨a11, h11, h⟩ := bind_some h
     rcases ite_some h with ⟨c16, h⟩ | ⟨c16, h⟩
     ·rcases ite_some h with ⟨c17, h⟩ | ⟨c17, h⟩
      ·obtain ⟨a12, h12, h⟩ := bind_some h
       refine rg L 292 [(2, true), (7, true), (11, true)] [(1, .B a10), (5, .B a11), (14, .B a12)] [] (plc (Av.ok h10) (plc trivial (plc c15 (plc (A8.ok h11) (plc trivial (plc c16 (plc (decide_eq_true c17) (plc (C0.ok h12) (pl1 trivial))))))))) ?_
       refine awp_ret ?_
       cases h
       exact er0
      refine rg L 292 [(2, true), (7, true), (11, false)] [(1, .B a10), (5, .B a11)] [] (plc (Av.ok h10) (plc trivial (plc c15 (plc (A8.ok h11) (plc trivial (plc c16 (pl1 (decide_eq_false c17)))))))) ?_
      refine awp_ret ?_
      cases h
      exact er0
     refine rg L 292 [(2, true), (7, false)] [(1, .B a10), (5, .B a11)] [] (plc (Av.ok h10) (plc trivial (plc c15 (plc (A8.ok h11) (plc trivial (pl1 (eq_false_of_ne_true c16))))))) ?_
     refine awp_ret ?_
     cases h
     exact er0
    refine rg L 292 [(2, false)] [(1, .B a10)] [] (plc (Av.ok h10) (plc trivial (pl1 (eq_false_of_ne_true c15)))) ?_
    refine awp_ret ?_
    cases h
    exact er0
   refine fF c14 <| awp_skip' <| sg0 L 310 <| awp_ret ?_
   cases h
   exact er0
 refine tt (b := (!a1)) (congrArg Bool.not (eq_false_of_ne_true c2)) ?_
 refine sg0 L 218 <| awp_ret ?_
 cases h
 exact er0
theorem Dv.ok {K : Nat} {p0 : Aa} {r : Bool} (h : Dv K p0 = some r) : PCall V P 31 [.agg (Ae p0)] (.B r) := ECall.pcall (eo (fn := Tryz.f31) (n := 91) (m := 100) fun Γ => Dv.body h) (by kernel_rfl)
def Eq (K : Nat) (p0 : Aa) : Option Bool := (Option.bind (Dv K p0) (fun a1 => some (!a1)))
theorem Eq.body {Γ : Ent} {K : Nat} {p0 : Aa} {r : Bool} (h : Eq K p0 = some r) : AWp V P 8 100 Γ (Tryz.f57.body.getD .skip) (EndsE P V Tryz.f57 (.B r) []) ⟨args0 0 [.agg (Ae p0), .cv (.pcs [.fn (.func 31) [] []] 0)], []⟩ := by
 unfold Eq at h
 refine sg0 L 200 <| awp_seq ?_
 obtain ⟨a1, h1, h⟩ := bind_some h
 refine rg L 203 [] [(2, .B a1)] [] (plt (Dv.ok h1)) ?_
 refine awp_ret ?_
 cases h
 exact er0
theorem Eq.ok {K : Nat} {p0 : Aa} {r : Bool} (h : Eq K p0 = some r) : PCall V P 57 [.agg (Ae p0), .cv (.pcs [.fn (.func 31) [] []] 0)] (.B r) := ECall.pcall (eo (fn := Tryz.f57) (n := 8) (m := 100) fun Γ => Eq.body h) (by kernel_rfl)
def Dk.l7 (K : Nat) (p0 : List Aa) : Nat → Int → Option (Out Int Unit)
 | 0, _ => none
 | k + 1, xt8_7h => (if xt8_7h < (p0.length : Int) then (if (0 : Int) ≤ xt8_7h ∧ (xt8_7h : Int) < (p0.length : Int) then (Option.bind (Eq K (p0.getD (Int.toNat xt8_7h) Ai)) (fun a1 => (if a1 = true then some (Out.done xt8_7h) else Dk.l7 K p0 k (IntKind.i64.wrap (xt8_7h + 1))))) else none) else some (Out.go ()))
def Dk (K : Nat) (p0 : List Aa) : Option Int := (obind (Dk.l7 K p0 K 0 : Option (Out Int Unit)) (fun r => r) (fun _ => some (-1)))
theorem Dk.body {Γ : Ent} {K : Nat} {p0 : List Aa} {r : Int} (h : Dk K p0 = some r) : AWp V P 19 100 Γ (Tryz.f90.body.getD .skip) (EndsE P V Tryz.f90 (.I r) []) ⟨args0 0 [.cv (.ro .Ad p0), .cv (.fn (.func 57) [] [.pcs [.fn (.func 31) [] []] 0])], []⟩ := by
 unfold Dk at h
 refine sg0 L 200 <| awp_seq <| sg0 L 202 <| awp_block <| kp (S' := ⟨[(0, .cv (.ro .Ad p0)), (1, .cv (.fn (.func 57) [] [.pcs [.fn (.func 31) [] []] 0])), (7, .I (p0.length : Int)), (8, .I 0)], []⟩) ?_
 obtain ⟨o1, hp1, h⟩ := obind_some h
 refine awp_conseq (Q' := fun e S => (e = .exit 0 ∧ S = ⟨[], []⟩ ∧ Out.go () = o1) ∨ (e = .ret ∧ ∃ a, Out.done a = o1 ∧ EndsE P V Tryz.f90 (.I a) [] .ret S)) (awp_loop (fun k S => ∃ xt8_7h : Int, S = ⟨[(0, .cv (.ro .Ad p0)), (1, .cv (.fn (.func 57) [] [.pcs [.fn (.func 31) [] []] 0])), (7, .I (p0.length : Int)), (8, .I xt8_7h)], []⟩ ∧ Dk.l7 K p0 k xt8_7h = some o1) ?_ ⟨_, rfl, hp1⟩) ?_
 ·clear h hp1
  intro k S hS
  obtain ⟨xt8_7h, rfl, h⟩ := hS
  cases k with
  | zero => cases h
  | succ k =>
  unfold Dk.l7 at h
  refine sg0 L 206 <| awp_seq ?_
  rcases ite_some h with ⟨c1, h⟩ | ⟨c1, h⟩
  ·refine tT c1 <| awp_skip' <| awp_seq <| awp_block <| sg0 L 208 <| awp_seq ?_
   obtain ⟨g1, h⟩ := guard_some h
   obtain ⟨a1, h1, h⟩ := bind_some h
   refine rg L 211 [] [(5, .B a1)] [] (plc g1.1 (plc g1.2 (plc (Eq.ok h1) (pl1 trivial)))) ?_
   rcases ite_some h with ⟨c2, h⟩ | ⟨c2, h⟩
   ·refine tt c2 <| sg0 L 218 <| awp_ret ?_
    cases h
    exact .inr ⟨rfl, _, rfl, er0⟩
   refine fN c2 <| awp_skip' <| ar0 L 221 [] [] [] (S' := ⟨[(0, .cv (.ro .Ad p0)), (1, .cv (.fn (.func 57) [] [.pcs [.fn (.func 31) [] []] 0])), (7, .I (p0.length : Int)), (8, .I (IntKind.i64.wrap (xt8_7h + 1)))], []⟩) ?_
   exact ⟨k, Nat.lt_succ_self k, _, rfl, h⟩
  refine fF c1 <| ex (S' := ⟨[], []⟩) ?_
  cases h
  exact .inl ⟨rfl, rfl, rfl⟩
 ·rintro e S (⟨rfl, rfl, rfl⟩ | ⟨rfl, a, rfl, hr⟩)
  ·rcases h with ⟨_, e1, h⟩ | ⟨_, e1, h⟩
   ·cases e1
   ·have e2 := Out.go.inj e1
    subst e2
    refine ⟨_, Turns.refl, ?_⟩
    refine sg0 L 224 <| awp_ret ?_
    cases h
    exact er0
  ·rcases h with ⟨_, e1, h⟩ | ⟨_, e1, h⟩
   ·have e2 := Out.done.inj e1
    subst e2
    subst h
    exact ⟨_, Turns.refl, hr⟩
   ·cases e1
theorem Dk.ok {K : Nat} {p0 : List Aa} {r : Int} (h : Dk K p0 = some r) : PCall V P 90 [.cv (.ro .Ad p0), .cv (.fn (.func 57) [] [.pcs [.fn (.func 31) [] []] 0])] (.I r) := ECall.pcall (eo (fn := Tryz.f90) (n := 19) (m := 100) fun Γ => Dk.body h) (by kernel_rfl)
def D8 (K : Nat) (p0 : List Aa) : Option Bool := (Option.bind (Dk K p0) (fun a1 => some (decide (a1 ≥ 0))))
theorem D8.body {Γ : Ent} {K : Nat} {p0 : List Aa} {r : Bool} (h : D8 K p0 = some r) : AWp V P 9 100 Γ (Tryz.f56.body.getD .skip) (EndsE P V Tryz.f56 (.B r) []) ⟨args0 0 [.cv (.ro .Ad p0), .cv (.fn (.func 57) [] [.pcs [.fn (.func 31) [] []] 0])], []⟩ := by
 unfold D8 at h
 refine sg0 L 200 <| awp_seq ?_
 obtain ⟨a1, h1, h⟩ := bind_some h
 refine rg L 202 [] [(2, .I a1)] [] (plt (Dk.ok h1)) ?_
 refine awp_ret ?_
 cases h
 exact er0
theorem D8.ok {K : Nat} {p0 : List Aa} {r : Bool} (h : D8 K p0 = some r) : PCall V P 56 [.cv (.ro .Ad p0), .cv (.fn (.func 57) [] [.pcs [.fn (.func 31) [] []] 0])] (.B r) := ECall.pcall (eo (fn := Tryz.f56) (n := 9) (m := 100) fun Γ => D8.body h) (by kernel_rfl)
def E4 (K : Nat) (p0 : List Aa) : Option Bool := (Option.bind (D8 K p0) (fun a1 => some (!a1)))
theorem E4.body {Γ : Ent} {K : Nat} {p0 : List Aa} {r : Bool} (h : E4 K p0 = some r) : AWp V P 9 100 Γ (Tryz.f30.body.getD .skip) (EndsE P V Tryz.f30 (.B r) []) ⟨args0 0 [.cv (.ro .Ad p0), .cv (.fn (.func 31) [] [])], []⟩ := by
 unfold E4 at h
 refine sg0 L 200 <| awp_seq ?_
 obtain ⟨a1, h1, h⟩ := bind_some h
 refine rg L 203 [] [(2, .B a1)] [] (plt (D8.ok h1)) ?_
 refine awp_ret ?_
 cases h
 exact er0
theorem E4.ok {K : Nat} {p0 : List Aa} {r : Bool} (h : E4 K p0 = some r) : PCall V P 30 [.cv (.ro .Ad p0), .cv (.fn (.func 31) [] [])] (.B r) := ECall.pcall (eo (fn := Tryz.f30) (n := 9) (m := 100) fun Γ => E4.body h) (by kernel_rfl)
def D9 (K : Nat) (p0 : Aa) : Option Bool := (Option.bind (Ee K p0) (fun a1 => (if a1 = true then (if p0.Op = 60 then (Option.bind (Av K p0 false false false) (fun a2 => (if a2 = true then (Option.bind (E4 K p0.Kids) (fun a3 => some a3)) else some false))) else some false) else some false)))
theorem D9.body {Γ : Ent} {K : Nat} {p0 : Aa} {r : Bool} (h : D9 K p0 = some r) : AWp V P 19 100 Γ (Tryz.f13.body.getD .skip) (EndsE P V Tryz.f13 (.B r) []) ⟨args0 0 [.agg (Ae p0)], []⟩ := by
 unfold D9 at h
 refine sg0 L 200 <| awp_seq ?_
 obtain ⟨a1, h1, h⟩ := bind_some h
 rcases ite_some h with ⟨c1, h⟩ | ⟨c1, h⟩
 ·rcases ite_some h with ⟨c2, h⟩ | ⟨c2, h⟩
  ·obtain ⟨a2, h2, h⟩ := bind_some h
   rcases ite_some h with ⟨c3, h⟩ | ⟨c3, h⟩
   ·obtain ⟨a3, h3, h⟩ := bind_some h
    refine rg L 203 [(2, true), (7, true), (11, true)] [(1, .B a1), (9, .B a2), (14, .B a3)] [] (plc (Ee.ok h1) (plc trivial (plc c1 (plc (decide_eq_true c2) (plc (Av.ok h2) (plc trivial (plc c3 (plc (E4.ok h3) (pl1 trivial))))))))) ?_
    refine awp_ret ?_
    cases h
    exact er0
   refine rg L 203 [(2, true), (7, true), (11, false)] [(1, .B a1), (9, .B a2)] [] (plc (Ee.ok h1) (plc trivial (plc c1 (plc (decide_eq_true c2) (plc (Av.ok h2) (plc trivial (pl1 (eq_false_of_ne_true c3)))))))) ?_
   refine awp_ret ?_
   cases h
   exact er0
  refine rg L 203 [(2, true), (7, false)] [(1, .B a1)] [] (plc (Ee.ok h1) (plc trivial (plc c1 (pl1 (decide_eq_false c2))))) ?_
  refine awp_ret ?_
  cases h
  exact er0
 refine rg L 203 [(2, false)] [(1, .B a1)] [] (plc (Ee.ok h1) (plc trivial (pl1 (eq_false_of_ne_true c1)))) ?_
 refine awp_ret ?_
 cases h
 exact er0
theorem D9.ok {K : Nat} {p0 : Aa} {r : Bool} (h : D9 K p0 = some r) : PCall V P 13 [.agg (Ae p0)] (.B r) := ECall.pcall (eo (fn := Tryz.f13) (n := 19) (m := 100) fun Γ => D9.body h) (by kernel_rfl)
def Dt (K : Nat) : Option Bool := (Option.bind (E6 K ([97, 32, 43, 32, 98, 32, 42, 32, 50] : List UInt8)) (fun (a1_0, a1_1, a1_2) => (Option.bind (E6 K ([97, 32, 60, 32, 98, 32, 60, 32, 99] : List UInt8)) (fun (a2_0, a2_1, a2_2) => (Option.bind (E8 K ([102, 117, 110, 99, 32, 102, 40, 120, 41, 32, 123, 32, 114, 101, 116, 117, 114, 110, 32, 120, 59, 32, 125] : List UInt8)) (fun (a3_0, a3_1, a3_2) => (if a1_2 = 0 then (Option.bind (B5 K a1_0 ((⟨18, [], 0, [], ([(⟨6, ([97] : List UInt8), 0, [], ([] : List Aa)⟩ : Aa), (⟨15, [], 0, [], ([(⟨6, ([98] : List UInt8), 0, [], ([] : List Aa)⟩ : Aa), (⟨4, [], 2, [], ([] : List Aa)⟩ : Aa)] : List Aa)⟩ : Aa)] : List Aa)⟩ : Aa))) (fun a4 => (if a4 = true then (if a2_1 = 6 then (if a2_2 = 29 then (if a3_2 = 0 then (Option.bind (D9 K a3_0) (fun a5 => (if a5 = true then (Option.bind (Co K a3_0) (fun a6 => some (decide (a6 = 6)))) else some false))) else some false) else some false) else some false) else some false))) else some false)))))))
theorem Dt.body {Γ : Ent} {K : Nat} {r : Bool} (h : Dt K = some r) : AWp V P 61 100 Γ (Tryz.f9.body.getD .skip) (EndsE P V Tryz.f9 (.B r) []) ⟨args0 0 [], []⟩ := by
 unfold Dt at h
 refine sg0 L 200 <| awp_seq ?_
 obtain ⟨⟨a1_0, a1_1, a1_2⟩, h1, h⟩ := bind_some h
 dsimp only at h
 refine rg L 202 [] [(0, .tup [.agg (Ae a1_0), .I a1_1, .I a1_2])] [] (plt (E6.ok h1)) ?_
 refine awp_seq ?_
 obtain ⟨⟨a2_0, a2_1, a2_2⟩, h2, h⟩ := bind_some h
 dsimp only at h
 refine rg L 212 [] [(0, .tup [.agg (Ae a2_0), .I a2_1, .I a2_2])] [] (plt (E6.ok h2)) ?_
 refine awp_seq ?_
 obtain ⟨⟨a3_0, a3_1, a3_2⟩, h3, h⟩ := bind_some h
 dsimp only at h
 refine rg L 222 [] [(0, .tup [.agg (Ae a3_0), .I a3_1, .I a3_2])] [] (plt (E8.ok h3)) ?_
 refine sg0 L 232 <| awp_seq ?_
 rcases ite_some h with ⟨c1, h⟩ | ⟨c1, h⟩
 ·obtain ⟨a4, h4, h⟩ := bind_some h
  rcases ite_some h with ⟨c2, h⟩ | ⟨c2, h⟩
  ·rcases ite_some h with ⟨c3, h⟩ | ⟨c3, h⟩
   ·rcases ite_some h with ⟨c4, h⟩ | ⟨c4, h⟩
    ·rcases ite_some h with ⟨c5, h⟩ | ⟨c5, h⟩
     ·obtain ⟨a5, h5, h⟩ := bind_some h
      rcases ite_some h with ⟨c6, h⟩ | ⟨c6, h⟩
      ·obtain ⟨a6, h6, h⟩ := bind_some h
       refine rg L 242 [(2, true), (7, true), (11, true), (15, true), (19, true), (23, true)] [(5, .B a4), (21, .B a5), (25, .I a6)] [] (plc (decide_eq_true c1) (plc (B5.ok h4) (plc trivial (plc c2 (plc (decide_eq_true c3) (plc (decide_eq_true c4) (plc (decide_eq_true c5) (plc (D9.ok h5) (plc trivial (plc c6 (plc (Co.ok h6) (pl1 trivial)))))))))))) ?_
       refine awp_ret ?_
       cases h
       exact er0
      refine rg L 242 [(2, true), (7, true), (11, true), (15, true), (19, true), (23, false)] [(5, .B a4), (21, .B a5)] [] (plc (decide_eq_true c1) (plc (B5.ok h4) (plc trivial (plc c2 (plc (decide_eq_true c3) (plc (decide_eq_true c4) (plc (decide_eq_true c5) (plc (D9.ok h5) (plc trivial (pl1 (eq_false_of_ne_true c6))))))))))) ?_
      refine awp_ret ?_
      cases h
      exact er0
     refine rg L 242 [(2, true), (7, true), (11, true), (15, true), (19, false)] [(5, .B a4)] [] (plc (decide_eq_true c1) (plc (B5.ok h4) (plc trivial (plc c2 (plc (decide_eq_true c3) (plc (decide_eq_true c4) (pl1 (decide_eq_false c5)))))))) ?_
     refine awp_ret ?_
     cases h
     exact er0
    refine rg L 242 [(2, true), (7, true), (11, true), (15, false)] [(5, .B a4)] [] (plc (decide_eq_true c1) (plc (B5.ok h4) (plc trivial (plc c2 (plc (decide_eq_true c3) (pl1 (decide_eq_false c4))))))) ?_
    refine awp_ret ?_
    cases h
    exact er0
   refine rg L 242 [(2, true), (7, true), (11, false)] [(5, .B a4)] [] (plc (decide_eq_true c1) (plc (B5.ok h4) (plc trivial (plc c2 (pl1 (decide_eq_false c3)))))) ?_
   refine awp_ret ?_
   cases h
   exact er0
  refine rg L 242 [(2, true), (7, false)] [(5, .B a4)] [] (plc (decide_eq_true c1) (plc (B5.ok h4) (plc trivial (pl1 (eq_false_of_ne_true c2))))) ?_
  refine awp_ret ?_
  cases h
  exact er0
 refine rg L 242 [(2, false)] [] [] (pl1 (decide_eq_false c1)) ?_
 refine awp_ret ?_
 cases h
 exact er0
theorem Dt.ok {K : Nat} {r : Bool} (h : Dt K = some r) : PCall V P 9 [] (.B r) := ECall.pcall (eo (fn := Tryz.f9) (n := 61) (m := 100) fun Γ => Dt.body h) (by kernel_rfl)
def Dz (K : Nat) : Option (List (List UInt8)) := some ([([97, 110, 100] : List UInt8), ([97, 119, 97, 105, 116] : List UInt8), ([99, 97, 115, 101] : List UInt8), ([99, 97, 116, 99, 104] : List UInt8), ([99, 104, 101, 99, 107] : List UInt8), ([101, 108, 115, 101] : List UInt8), ([102, 97, 108, 115, 101] : List UInt8), ([102, 117, 110, 99] : List UInt8), ([103, 111] : List UInt8), ([105, 102] : List UInt8), ([108, 101, 116] : List UInt8), ([110, 111, 116] : List UInt8), ([110, 117, 108, 108] : List UInt8), ([111, 110] : List UInt8), ([111, 114] : List UInt8), ([113, 117, 101, 114, 121] : List UInt8), ([114, 101, 116, 117, 114, 110] : List UInt8), ([115, 97, 103, 97] : List UInt8), ([115, 101, 108, 101, 99, 116] : List UInt8), ([115, 105, 103, 110, 97, 108] : List UInt8), ([116, 104, 114, 111, 119] : List UInt8), ([116, 114, 117, 101] : List UInt8), ([116, 114, 121] : List UInt8), ([117, 110, 100, 111] : List UInt8), ([117, 112, 100, 97, 116, 101] : List UInt8), ([118, 97, 114] : List UInt8), ([119, 104, 105, 108, 101] : List UInt8)] : List (List UInt8))
theorem Dz.body {Γ : Ent} {K : Nat} {r : List (List UInt8)} (h : Dz K = some r) : AWp V P 2 100 Γ (Tryz.f123.body.getD .skip) (EndsE P V Tryz.f123 (.cv (.ro .C4 r)) []) ⟨args0 0 [], []⟩ := by
 unfold Dz at h
 refine sg0 L 200 <| sg0 L 202 <| awp_ret ?_
 cases h
 exact er0
theorem Dz.ok {K : Nat} {r : List (List UInt8)} (h : Dz K = some r) : PCall V P 123 [] (.cv (.ro .C4 r)) := ECall.pcall (eo (fn := Tryz.f123) (n := 2) (m := 100) fun Γ => Dz.body h) (by kernel_rfl)
def Cq.l7 (K : Nat) (p0 : List UInt8) (a1 : List (List UInt8)) : Nat → Int → Option (Out Bool Unit)
 | 0, _ => none
 | k + 1, xt7_7h => (if xt7_7h < (a1.length : Int) then (if (0 : Int) ≤ xt7_7h ∧ (xt7_7h : Int) < (a1.length : Int) then (if (a1.getD (Int.toNat xt7_7h) ([] : List UInt8)) = p0 then some (Out.done true) else Cq.l7 K p0 a1 k (IntKind.i64.wrap (xt7_7h + 1))) else none) else some (Out.go ()))
def Cq (K : Nat) (p0 : List UInt8) : Option Bool := (Option.bind (Dz K) (fun a1 => (obind (Cq.l7 K p0 a1 K 0 : Option (Out Bool Unit)) (fun r => r) (fun _ => some false))))
theorem Cq.body {Γ : Ent} {K : Nat} {p0 : List UInt8} {r : Bool} (h : Cq K p0 = some r) : AWp V P 15 100 Γ (Tryz.f95.body.getD .skip) (EndsE P V Tryz.f95 (.B r) []) ⟨args0 0 [.cv (.str p0)], []⟩ := by
 unfold Cq at h
 refine sg0 L 200 <| awp_seq <| awp_seq ?_
 obtain ⟨a1, h1, h⟩ := bind_some h
 refine rg L 202 [] [(0, .cv (.ro .C4 a1))] [] (plt (Dz.ok h1)) ?_
 refine awp_block <| kp (S' := ⟨[(0, .cv (.str p0)), (5, .cv (.ro .C4 a1)), (6, .I (a1.length : Int)), (7, .I 0)], []⟩) ?_
 obtain ⟨o1, hp1, h⟩ := obind_some h
 refine awp_conseq (Q' := fun e S => (e = .exit 0 ∧ S = ⟨[], []⟩ ∧ Out.go () = o1) ∨ (e = .ret ∧ ∃ a, Out.done a = o1 ∧ EndsE P V Tryz.f95 (.B a) [] .ret S)) (awp_loop (fun k S => ∃ xt7_7h : Int, S = ⟨[(0, .cv (.str p0)), (5, .cv (.ro .C4 a1)), (6, .I (a1.length : Int)), (7, .I xt7_7h)], []⟩ ∧ Cq.l7 K p0 a1 k xt7_7h = some o1) ?_ ⟨_, rfl, hp1⟩) ?_
 ·clear h hp1
  intro k S hS
  obtain ⟨xt7_7h, rfl, h⟩ := hS
  cases k with
  | zero => cases h
  | succ k =>
  unfold Cq.l7 at h
  refine sg0 L 206 <| awp_seq ?_
  rcases ite_some h with ⟨c1, h⟩ | ⟨c1, h⟩
  ·refine tT c1 <| awp_skip' <| awp_seq <| awp_block <| awp_seq ?_
   obtain ⟨g1, h⟩ := guard_some h
   refine rg L 208 [] [] [] (pl2 g1.1 g1.2) ?_
   refine sg0 L 212 ?_
   rcases ite_some h with ⟨c2, h⟩ | ⟨c2, h⟩
   ·refine tT c2 <| sg0 L 216 <| awp_ret ?_
    cases h
    exact .inr ⟨rfl, _, rfl, er0⟩
   refine fF c2 <| awp_skip' <| ar0 L 218 [] [] [] (S' := ⟨[(0, .cv (.str p0)), (5, .cv (.ro .C4 a1)), (6, .I (a1.length : Int)), (7, .I (IntKind.i64.wrap (xt7_7h + 1)))], []⟩) ?_
   exact ⟨k, Nat.lt_succ_self k, _, rfl, h⟩
  refine fF c1 <| ex (S' := ⟨[], []⟩) ?_
  cases h
  exact .inl ⟨rfl, rfl, rfl⟩
 ·rintro e S (⟨rfl, rfl, rfl⟩ | ⟨rfl, a, rfl, hr⟩)
  ·rcases h with ⟨_, e1, h⟩ | ⟨_, e1, h⟩
   ·cases e1
   ·have e2 := Out.go.inj e1
    subst e2
    refine ⟨_, Turns.refl, ?_⟩
    refine sg0 L 221 <| awp_ret ?_
    cases h
    exact er0
  ·rcases h with ⟨_, e1, h⟩ | ⟨_, e1, h⟩
   ·have e2 := Out.done.inj e1
    subst e2
    subst h
    exact ⟨_, Turns.refl, hr⟩
   ·cases e1
theorem Cq.ok {K : Nat} {p0 : List UInt8} {r : Bool} (h : Cq K p0 = some r) : PCall V P 95 [.cv (.str p0)] (.B r) := ECall.pcall (eo (fn := Tryz.f95) (n := 15) (m := 100) fun Γ => Cq.body h) (by kernel_rfl)
end Go.Proofs.YtifjagfmfkemmaaGreatDoor
