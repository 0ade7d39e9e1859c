/- What functions of the program compute, as Lean functions, and that they compute it. -/
import Derived.Test.YtifjagfmfkemmaaGreatDoorFn2
set_option linter.unusedVariables false
set_option maxHeartbeats 0
namespace Go.Proofs.YtifjagfmfkemmaaGreatDoor
open Eng
def D6.F (K : Nat) (R : Ak) (p0 : Aa) : Option Bool := (if p0.Op = 50 then (Option.bind (Az K p0 true false false) (fun a1 => (if a1 = true then (if p0.Name = ([] : List UInt8) then (if (p0.Kids.length : Int) = 2 then (if (0 : Int) < (p0.Kids.length : Int) then (Option.bind (B2 K (p0.Kids.getD (Int.toNat 0) Ay)) (fun a2 => (if a2 = true then (if (1 : Int) < (p0.Kids.length : Int) then (Option.bind (R.Cj (p0.Kids.getD (Int.toNat 1) Ay)) (fun a3 => some a3)) else none) else some false))) else none) else some false) else (Option.bind (Bv K p0.Name) (fun a4 => (if a4 = true then (if (p0.Kids.length : Int) = 2 then (if (0 : Int) < (p0.Kids.length : Int) then (Option.bind (B2 K (p0.Kids.getD (Int.toNat 0) Ay)) (fun a5 => (if a5 = true then (if (1 : Int) < (p0.Kids.length : Int) then (Option.bind (R.Cj (p0.Kids.getD (Int.toNat 1) Ay)) (fun a6 => some a6)) else none) else some false))) else none) else some false) else some false)))) else some false))) else some false)
theorem D6.body {Γ : Ent} {K : Nat} {R : Ak} (hR : R.Ok) {p0 : Aa} {r : Bool} (h : D6.F K R p0 = some r) : AWp V P 40 100 Γ (Tryz.f136.body.getD .skip) (EndsE P V Tryz.f136 (.B r) []) ⟨args0 0 [.agg (Ag p0)], []⟩ := by
 unfold D6.F at h
 refine sg0 L 200 <| awp_seq ?_
 rcases ite_some h with ⟨c1, h⟩ | ⟨c1, h⟩
 ·obtain ⟨a1, h1, h⟩ := bind_some h
  rcases ite_some h with ⟨c2, h⟩ | ⟨c2, h⟩
  ·rcases ite_some h with ⟨c3, h⟩ | ⟨c3, h⟩
   ·rcases ite_some h with ⟨c4, h⟩ | ⟨c4, h⟩
    ·obtain ⟨g1, h⟩ := guard_some h
     obtain ⟨a2, h2, h⟩ := bind_some h
     rcases ite_some h with ⟨c5, h⟩ | ⟨c5, h⟩
     ·obtain ⟨g2, h⟩ := guard_some h
      obtain ⟨a3, h3, h⟩ := bind_some h
      refine rg L 203 [(3, true), (7, true), (11, true), (23, true), (30, true)] [(5, .B a1), (28, .B a2), (35, .B a3)] [] (plc (decide_eq_true c1) (plc (Az.ok h1) (plc trivial (plc c2 (plc (decide_eq_true c3) (plc (decide_eq_true c4) (plc (show (0 : Int) ≤ 0 from by decide) (plc g1 (plc (B2.ok h2) (plc trivial (plc c5 (plc (show (0 : Int) ≤ 1 from by decide) (plc g2 (plc (Cj.okR hR h3) (pl1 trivial))))))))))))))) ?_
      refine awp_ret ?_
      cases h
      exact er0
     refine rg L 203 [(3, true), (7, true), (11, true), (23, true), (30, false)] [(5, .B a1), (28, .B a2)] [] (plc (decide_eq_true c1) (plc (Az.ok h1) (plc trivial (plc c2 (plc (decide_eq_true c3) (plc (decide_eq_true c4) (plc (show (0 : Int) ≤ 0 from by decide) (plc g1 (plc (B2.ok h2) (plc trivial (pl1 (eq_false_of_ne_true c5)))))))))))) ?_
     refine awp_ret ?_
     cases h
     exact er0
    refine rg L 203 [(3, true), (7, true), (11, true), (23, false)] [(5, .B a1)] [] (plc (decide_eq_true c1) (plc (Az.ok h1) (plc trivial (plc c2 (plc (decide_eq_true c3) (pl1 (decide_eq_false c4))))))) ?_
    refine awp_ret ?_
    cases h
    exact er0
   obtain ⟨a4, h4, h⟩ := bind_some h
   rcases ite_some h with ⟨c6, h⟩ | ⟨c6, h⟩
   ·rcases ite_some h with ⟨c7, h⟩ | ⟨c7, h⟩
    ·obtain ⟨g3, h⟩ := guard_some h
     obtain ⟨a5, h5, h⟩ := bind_some h
     rcases ite_some h with ⟨c8, h⟩ | ⟨c8, h⟩
     ·obtain ⟨g4, h⟩ := guard_some h
      obtain ⟨a6, h6, h⟩ := bind_some h
      refine rg L 203 [(3, true), (7, true), (11, false), (17, true), (23, true), (30, true)] [(5, .B a1), (14, .B a4), (28, .B a5), (35, .B a6)] [] (plc (decide_eq_true c1) (plc (Az.ok h1) (plc trivial (plc c2 (plc (decide_eq_false c3) (plc (Bv.ok h4) (plc trivial (plc c6 (plc (decide_eq_true c7) (plc (show (0 : Int) ≤ 0 from by decide) (plc g3 (plc (B2.ok h5) (plc trivial (plc c8 (plc (show (0 : Int) ≤ 1 from by decide) (plc g4 (plc (Cj.okR hR h6) (pl1 trivial)))))))))))))))))) ?_
      refine awp_ret ?_
      cases h
      exact er0
     refine rg L 203 [(3, true), (7, true), (11, false), (17, true), (23, true), (30, false)] [(5, .B a1), (14, .B a4), (28, .B a5)] [] (plc (decide_eq_true c1) (plc (Az.ok h1) (plc trivial (plc c2 (plc (decide_eq_false c3) (plc (Bv.ok h4) (plc trivial (plc c6 (plc (decide_eq_true c7) (plc (show (0 : Int) ≤ 0 from by decide) (plc g3 (plc (B2.ok h5) (plc trivial (pl1 (eq_false_of_ne_true c8))))))))))))))) ?_
     refine awp_ret ?_
     cases h
     exact er0
    refine rg L 203 [(3, true), (7, true), (11, false), (17, true), (23, false)] [(5, .B a1), (14, .B a4)] [] (plc (decide_eq_true c1) (plc (Az.ok h1) (plc trivial (plc c2 (plc (decide_eq_false c3) (plc (Bv.ok h4) (plc trivial (plc c6 (pl1 (decide_eq_false c7)))))))))) ?_
    refine awp_ret ?_
    cases h
    exact er0
   refine rg L 203 [(3, true), (7, true), (11, false), (17, false)] [(5, .B a1), (14, .B a4)] [] (plc (decide_eq_true c1) (plc (Az.ok h1) (plc trivial (plc c2 (plc (decide_eq_false c3) (plc (Bv.ok h4) (plc trivial (pl1 (eq_false_of_ne_true c6))))))))) ?_
   refine awp_ret ?_
   cases h
   exact er0
  refine rg L 203 [(3, true), (7, false)] [(5, .B a1)] [] (plc (decide_eq_true c1) (plc (Az.ok h1) (plc trivial (pl1 (eq_false_of_ne_true c2))))) ?_
  refine awp_ret ?_
  cases h
  exact er0
 refine rg L 203 [(3, false)] [] [] (pl1 (decide_eq_false c1)) ?_
 refine awp_ret ?_
 cases h
 exact er0
def Dc.F (K : Nat) (R : Ak) (p0 : Aa) : Option Bool := (Option.bind (R.D6 p0) (fun a1 => some (!a1)))
theorem Dc.body {Γ : Ent} {K : Nat} {R : Ak} (hR : R.Ok) {p0 : Aa} {r : Bool} (h : Dc.F K R p0 = some r) : AWp V P 8 100 Γ (Tryz.f57.body.getD .skip) (EndsE P V Tryz.f57 (.B r) []) ⟨args0 0 [.agg (Ag p0), .cv (.pcs [.fn (.func 136) [] []] 0)], []⟩ := by
 unfold Dc.F at h
 refine sg0 L 200 <| awp_seq ?_
 obtain ⟨a1, h1, h⟩ := bind_some h
 refine rg L 203 [] [(2, .B a1)] [] (plt (D6.okR hR h1)) ?_
 refine awp_ret ?_
 cases h
 exact er0
def Cd.l7 (K : Nat) (R : Ak) (p0 : List Aa) : Nat → Int → Option (Out Int Unit)
 | 0, _ => none
 | k + 1, xt8_7h => (if xt8_7h < (p0.length : Int) then (if (0 : Int) ≤ xt8_7h ∧ (xt8_7h : Int) < (p0.length : Int) then (Option.bind (R.Dc (p0.getD (Int.toNat xt8_7h) Ay)) (fun a1 => (if a1 = true then some (Out.done xt8_7h) else Cd.l7 K R p0 k (IntKind.i64.wrap (xt8_7h + 1))))) else none) else some (Out.go ()))
def Cd.F (K : Nat) (R : Ak) (p0 : List Aa) : Option Int := (obind (Cd.l7 K R p0 K 0 : Option (Out Int Unit)) (fun r => r) (fun _ => some (-1)))
theorem Cd.body {Γ : Ent} {K : Nat} {R : Ak} (hR : R.Ok) {p0 : List Aa} {r : Int} (h : Cd.F K R p0 = some r) : AWp V P 19 100 Γ (Tryz.f90.body.getD .skip) (EndsE P V Tryz.f90 (.I r) []) ⟨args0 0 [.cv (.ro .Ae p0), .cv (.fn (.func 57) [] [.pcs [.fn (.func 136) [] []] 0])], []⟩ := by
 unfold Cd.F at h
 refine sg0 L 200 <| awp_seq <| sg0 L 202 <| awp_block <| kp (S' := ⟨[(0, .cv (.ro .Ae p0)), (1, .cv (.fn (.func 57) [] [.pcs [.fn (.func 136) [] []] 0])), (7, .I (p0.length : Int)), (8, .I 0)], []⟩) ?_
 obtain ⟨o1, hp1, h⟩ := obind_some h
 refine awp_conseq (Q' := fun e S => (e = .exit 0 ∧ S = ⟨[], []⟩ ∧ Out.go () = o1) ∨ (e = .ret ∧ ∃ a, Out.done a = o1 ∧ EndsE P V Tryz.f90 (.I a) [] .ret S)) (awp_loop (fun k S => ∃ xt8_7h : Int, S = ⟨[(0, .cv (.ro .Ae p0)), (1, .cv (.fn (.func 57) [] [.pcs [.fn (.func 136) [] []] 0])), (7, .I (p0.length : Int)), (8, .I xt8_7h)], []⟩ ∧ Cd.l7 K R p0 k xt8_7h = some o1) ?_ ⟨_, rfl, hp1⟩) ?_
 ·clear h hp1
  intro k S hS
  obtain ⟨xt8_7h, rfl, h⟩ := hS
  cases k with
  | zero => cases h
  | succ k =>
  unfold Cd.l7 at h
  refine sg0 L 206 <| awp_seq ?_
  rcases ite_some h with ⟨c1, h⟩ | ⟨c1, h⟩
  ·refine tT c1 <| awp_skip' <| awp_seq <| awp_block <| sg0 L 208 <| awp_seq ?_
   obtain ⟨g1, h⟩ := guard_some h
   obtain ⟨a1, h1, h⟩ := bind_some h
   refine rg L 211 [] [(5, .B a1)] [] (plc g1.1 (plc g1.2 (plc (Dc.okR hR h1) (pl1 trivial)))) ?_
   rcases ite_some h with ⟨c2, h⟩ | ⟨c2, h⟩
   ·refine tt c2 <| sg0 L 218 <| awp_ret ?_
    cases h
    exact .inr ⟨rfl, _, rfl, er0⟩
   refine fN c2 <| awp_skip' <| ar0 L 221 [] [] [] (S' := ⟨[(0, .cv (.ro .Ae p0)), (1, .cv (.fn (.func 57) [] [.pcs [.fn (.func 136) [] []] 0])), (7, .I (p0.length : Int)), (8, .I (IntKind.i64.wrap (xt8_7h + 1)))], []⟩) ?_
   exact ⟨k, Nat.lt_succ_self k, _, rfl, h⟩
  refine fF c1 <| ex (S' := ⟨[], []⟩) ?_
  cases h
  exact .inl ⟨rfl, rfl, rfl⟩
 ·rintro e S (⟨rfl, rfl, rfl⟩ | ⟨rfl, a, rfl, hr⟩)
  ·rcases h with ⟨_, e1, h⟩ | ⟨_, e1, h⟩
   ·cases e1
   ·have e2 := Out.go.inj e1
    subst e2
    refine ⟨_, Turns.refl, ?_⟩
    refine sg0 L 224 <| awp_ret ?_
    cases h
    exact er0
  ·rcases h with ⟨_, e1, h⟩ | ⟨_, e1, h⟩
   ·have e2 := Out.done.inj e1
    subst e2
    subst h
    exact ⟨_, Turns.refl, hr⟩
   ·cases e1
def Ck.F (K : Nat) (R : Ak) (p0 : List Aa) : Option Bool := (Option.bind (R.Cd p0) (fun a1 => some (decide (a1 ≥ 0))))
theorem Ck.body {Γ : Ent} {K : Nat} {R : Ak} (hR : R.Ok) {p0 : List Aa} {r : Bool} (h : Ck.F K R p0 = some r) : AWp V P 9 100 Γ (Tryz.f56.body.getD .skip) (EndsE P V Tryz.f56 (.B r) []) ⟨args0 0 [.cv (.ro .Ae p0), .cv (.fn (.func 57) [] [.pcs [.fn (.func 136) [] []] 0])], []⟩ := by
 unfold Ck.F at h
 refine sg0 L 200 <| awp_seq ?_
 obtain ⟨a1, h1, h⟩ := bind_some h
 refine rg L 202 [] [(2, .I a1)] [] (plt (Cd.okR hR h1)) ?_
 refine awp_ret ?_
 cases h
 exact er0
def Dm.F (K : Nat) (R : Ak) (p0 : List Aa) : Option Bool := (Option.bind (R.Ck p0) (fun a1 => some (!a1)))
theorem Dm.body {Γ : Ent} {K : Nat} {R : Ak} (hR : R.Ok) {p0 : List Aa} {r : Bool} (h : Dm.F K R p0 = some r) : AWp V P 9 100 Γ (Tryz.f30.body.getD .skip) (EndsE P V Tryz.f30 (.B r) []) ⟨args0 0 [.cv (.ro .Ae p0), .cv (.fn (.func 136) [] [])], []⟩ := by
 unfold Dm.F at h
 refine sg0 L 200 <| awp_seq ?_
 obtain ⟨a1, h1, h⟩ := bind_some h
 refine rg L 203 [] [(2, .B a1)] [] (plt (Ck.okR hR h1)) ?_
 refine awp_ret ?_
 cases h
 exact er0
def Dr.F (K : Nat) (R : Ak) (p0 : List Aa) : Option Bool := (Option.bind (((if (IntKind.i64.wrap ((p0.length : Int) - 1)) ≥ 0 then (if (0 : Int) ≤ (IntKind.i64.wrap ((p0.length : Int) - 1)) ∧ ((IntKind.i64.wrap ((p0.length : Int) - 1)) : Int) < (p0.length : Int) then some ((decide ((p0.getD (Int.toNat (IntKind.i64.wrap ((p0.length : Int) - 1))) Ay).Op = 51))) else none) else some false)) : Option Bool) (fun xt17_6 => (if xt17_6 = true then (if (0 : Int) ≤ (IntKind.i64.wrap ((p0.length : Int) - 1)) ∧ ((IntKind.i64.wrap ((p0.length : Int) - 1)) : Int) < (p0.length : Int) then (Option.bind (Az K (p0.getD (Int.toNat (IntKind.i64.wrap ((p0.length : Int) - 1))) Ay) false false false) (fun a1 => (if a1 = true then (if (((p0.getD (Int.toNat (IntKind.i64.wrap ((p0.length : Int) - 1))) Ay).Kids).length : Int) ≠ 1 then some false else (if (0 : Int) < (((p0.getD (Int.toNat (IntKind.i64.wrap ((p0.length : Int) - 1))) Ay).Kids).length : Int) then (Option.bind (R.Cj ((((p0.getD (Int.toNat (IntKind.i64.wrap ((p0.length : Int) - 1))) Ay).Kids).getD (Int.toNat 0) Ay))) (fun a2 => (if a2 = true then (if (IntKind.i64.wrap ((p0.length : Int) - 1)) ≤ 16 then (if (IntKind.i64.wrap ((p0.length : Int) - 1)) ≤ (p0.length : Int) then (Option.bind (R.Dm (slc p0 0 (IntKind.i64.wrap ((p0.length : Int) - 1)))) (fun a3 => some a3)) else none) else some false) else some false))) else none)) else some false))) else none) else (if (p0.length : Int) ≥ 1 then (if (p0.length : Int) ≤ 16 then (Option.bind (R.Dm p0) (fun a4 => some a4)) else some false) else some false))))
theorem Dr.body {Γ : Ent} {K : Nat} {R : Ak} (hR : R.Ok) {p0 : List Aa} {r : Bool} (h : Dr.F K R p0 = some r) : AWp V P 59 100 Γ (Tryz.f121.body.getD .skip) (EndsE P V Tryz.f121 (.B r) []) ⟨args0 0 [.cv (.ro .Ae p0)], []⟩ := by
 unfold Dr.F at h
 refine sg0 L 200 <| awp_seq <| sg0 L 202 ?_
 obtain ⟨o1, hp1, h⟩ := bind_some h
 refine awp_seq (awp_mono (Q' := fun e S => (e = .normal ∧ ∃ xt17_6 : Bool, S = ⟨[(0, .cv (.ro .Ae p0)), (3, .I (IntKind.i64.wrap ((p0.length : Int) - 1))), (17, .B xt17_6)], []⟩ ∧ xt17_6 = o1)) ?_ ?_)
 ·clear h
  replace h := hp1
  rcases ite_some h with ⟨c1, h⟩ | ⟨c1, h⟩
  ·obtain ⟨g1, h⟩ := guard_some h
   refine ar L 207 [(2, true)] [] [] (cs := [(decide ((IntKind.i64.wrap ((p0.length : Int) - 1)) ≥ 0)) = true, (0 : Int) ≤ (IntKind.i64.wrap ((p0.length : Int) - 1)), ((IntKind.i64.wrap ((p0.length : Int) - 1)) : Int) < (p0.length : Int)]) (S' := ⟨[(0, .cv (.ro .Ae p0)), (3, .I (IntKind.i64.wrap ((p0.length : Int) - 1))), (17, .B ((decide ((p0.getD (Int.toNat (IntKind.i64.wrap ((p0.length : Int) - 1))) Ay).Op = 51))))], []⟩) (And.intro (decide_eq_true c1) (And.intro g1.1 g1.2)) ?_
   cases h
   exact ⟨rfl, _, rfl, rfl⟩
  refine ar L 207 [(2, false)] [] [] (cs := [(decide ((IntKind.i64.wrap ((p0.length : Int) - 1)) ≥ 0)) = false]) (S' := ⟨[(0, .cv (.ro .Ae p0)), (3, .I (IntKind.i64.wrap ((p0.length : Int) - 1))), (17, .B false)], []⟩) (decide_eq_false c1) ?_
  cases h
  exact ⟨rfl, _, rfl, rfl⟩
 ·rintro e S ⟨rfl, xt17_6, rfl, rfl⟩
  rcases ite_some h with ⟨c2, h⟩ | ⟨c2, h⟩
  ·refine tt c2 <| awp_seq <| awp_seq ?_
   obtain ⟨g2, h⟩ := guard_some h
   refine rg L 218 [] [] [] (pl2 g2.1 g2.2) ?_
   refine awp_seq ?_
   obtain ⟨a1, h1, h⟩ := bind_some h
   rcases ite_some h with ⟨c3, h⟩ | ⟨c3, h⟩
   ·rcases ite_some h with ⟨c4, h⟩ | ⟨c4, h⟩
    ·refine rg L 225 [(3, false), (9, true)] [(1, .B a1)] [] (plc (Az.ok h1) (plc trivial (plc (show (!a1) = false from congrArg Bool.not (c3)) (pl1 (decide_eq_true c4))))) ?_
     refine tt (b := true) (rfl) ?_
     refine sg0 L 243 <| awp_ret ?_
     cases h
     exact er0
    obtain ⟨g3, h⟩ := guard_some h
    obtain ⟨a2, h2, h⟩ := bind_some h
    refine rg L 225 [(3, false), (9, false)] [(1, .B a1), (14, .B a2)] [] (plc (Az.ok h1) (plc trivial (plc (show (!a1) = false from congrArg Bool.not (c3)) (plc (decide_eq_false c4) (plc (show (0 : Int) ≤ 0 from by decide) (plc g3 (plc (Cj.okR hR h2) (pl1 trivial)))))))) ?_
    rcases ite_some h with ⟨c5, h⟩ | ⟨c5, h⟩
    ·refine ff (b := (!a2)) (congrArg Bool.not (c5)) ?_
     refine awp_skip' <| awp_seq ?_
     rcases ite_some h with ⟨c6, h⟩ | ⟨c6, h⟩
     ·obtain ⟨g4, h⟩ := guard_some h
      obtain ⟨a3, h3, h⟩ := bind_some h
      refine rg L 245 [(2, true)] [(6, .B a3)] [] (plc (decide_eq_true c6) (plc (show (0 : Int) ≤ 0 from Int.le_refl _) (plc g2.1 (plc g4 (plc (Dm.okR hR h3) (pl1 trivial)))))) ?_
      refine awp_ret ?_
      cases h
      exact er0
     refine rg L 245 [(2, false)] [] [] (pl1 (decide_eq_false c6)) ?_
     refine awp_ret ?_
     cases h
     exact er0
    refine tt (b := (!a2)) (congrArg Bool.not (eq_false_of_ne_true c5)) ?_
    refine sg0 L 243 <| awp_ret ?_
    cases h
    exact er0
   refine rg L 225 [(3, true)] [(1, .B a1)] [] (plc (Az.ok h1) (plc trivial (pl1 (show (!a1) = true from congrArg Bool.not (eq_false_of_ne_true c3))))) ?_
   refine tt (b := true) (rfl) ?_
   refine sg0 L 243 <| awp_ret ?_
   cases h
   exact er0
  refine fN c2 <| awp_skip' <| awp_seq ?_
  rcases ite_some h with ⟨c7, h⟩ | ⟨c7, h⟩
  ·rcases ite_some h with ⟨c8, h⟩ | ⟨c8, h⟩
   ·obtain ⟨a4, h4, h⟩ := bind_some h
    refine rg L 255 [(3, true), (8, true)] [(10, .B a4)] [] (plc (decide_eq_true c7) (plc (decide_eq_true c8) (plc (Dm.okR hR h4) (pl1 trivial)))) ?_
    refine awp_ret ?_
    cases h
    exact er0
   refine rg L 255 [(3, true), (8, false)] [] [] (pl2 (decide_eq_true c7) (decide_eq_false c8)) ?_
   refine awp_ret ?_
   cases h
   exact er0
  refine rg L 255 [(3, false)] [] [] (pl1 (decide_eq_false c7)) ?_
  refine awp_ret ?_
  cases h
  exact er0
def C8.F (K : Nat) (R : Ak) (p0 : Aa) : Option Bool := (Option.bind ((if p0.Op = 40 then some (decide (p0.Op = 40)) else some (decide (p0.Op = 41))) : Option Bool) (fun xt8_9 => (if xt8_9 = true then (Option.bind (Az K p0 true false false) (fun a1 => (if a1 = true then (Option.bind (Bv K p0.Name) (fun a2 => (if a2 = true then (if (p0.Kids.length : Int) = 1 then (if (0 : Int) < (p0.Kids.length : Int) then (Option.bind (B2 K (p0.Kids.getD (Int.toNat 0) Ay)) (fun a3 => some a3)) else none) else some false) else some false))) else some false))) else (if p0.Op = 42 then (Option.bind (Az K p0 false false false) (fun a4 => (if a4 = true then (Option.bind (R.Eh p0.Kids) (fun a5 => some a5)) else some false))) else (if p0.Op = 43 then (Option.bind (Az K p0 false false false) (fun a6 => (if a6 = true then (if (p0.Kids.length : Int) = 2 then (if (0 : Int) < (p0.Kids.length : Int) then (Option.bind (B2 K (p0.Kids.getD (Int.toNat 0) Ay)) (fun a7 => (if a7 = true then (if (1 : Int) < (p0.Kids.length : Int) then (Option.bind (R.Cj (p0.Kids.getD (Int.toNat 1) Ay)) (fun a8 => some a8)) else none) else some false))) else none) else some false) else some false))) else (if p0.Op = 44 then (Option.bind (Az K p0 false false false) (fun a9 => (if a9 = true then (if (p0.Kids.length : Int) ≤ 1 then (Option.bind (C7 K p0.Kids) (fun a10 => some a10)) else some false) else some false))) else (Option.bind ((if p0.Op = 45 then some (decide (p0.Op = 45)) else some (decide (p0.Op = 52))) : Option Bool) (fun xt71_37 => (if xt71_37 = true then (Option.bind (Az K p0 false false false) (fun a11 => (if a11 = true then (if (p0.Kids.length : Int) = 1 then (if (0 : Int) < (p0.Kids.length : Int) then (Option.bind (B2 K (p0.Kids.getD (Int.toNat 0) Ay)) (fun a12 => some a12)) else none) else some false) else some false))) else (if p0.Op = 46 then (Option.bind (Az K p0 true false false) (fun a13 => (if a13 = true then (Option.bind (Bv K p0.Name) (fun a14 => (if a14 = true then (if (p0.Kids.length : Int) = 2 then (Option.bind (R.Dn p0.Kids) (fun a15 => some a15)) else some false) else some false))) else some false))) else (if p0.Op = 47 then (Option.bind (Az K p0 false false false) (fun a16 => (if a16 = true then (if (p0.Kids.length : Int) = 1 then (if (0 : Int) < (p0.Kids.length : Int) then (Option.bind (R.Cj (p0.Kids.getD (Int.toNat 0) Ay)) (fun a17 => some a17)) else none) else some false) else some false))) else (if p0.Op = 48 then (Option.bind (Az K p0 true false false) (fun a18 => (if a18 = true then (Option.bind (Bv K p0.Name) (fun a19 => (if a19 = true then (Option.bind (C7 K p0.Kids) (fun a20 => some a20)) else some false))) else some false))) else (if p0.Op = 49 then (Option.bind (Az K p0 false false false) (fun a21 => (if a21 = true then (Option.bind (R.Dr p0.Kids) (fun a22 => some a22)) else some false))) else (if p0.Op = 53 then some false else some false))))))))))))))
theorem C8.body {Γ : Ent} {K : Nat} {R : Ak} (hR : R.Ok) {p0 : Aa} {r : Bool} (h : C8.F K R p0 = some r) : AWp V P 143 100 Γ (Tryz.f92.body.getD .skip) (EndsE P V Tryz.f92 (.B r) []) ⟨args0 0 [.agg (Ag p0)], []⟩ := by
 unfold C8.F at h
 refine sg0 L 200 <| sg0 L 203 <| awp_seq <| sg0 L 207 <| awp_block ?_
 obtain ⟨o1, hp1, h⟩ := bind_some h
 refine awp_seq (awp_mono (Q' := fun e S => (e = .normal ∧ ∃ xt8_9 : Bool, S = ⟨[(1, .P 21800), (3, .cv (.ro .Ae p0.Kids)), (7, .I p0.Op), (8, .B xt8_9)], [(21800, .raw (Ag p0))]⟩ ∧ xt8_9 = o1)) ?_ ?_)
 ·clear h
  replace h := hp1
  refine sg0 L 210 ?_
  rcases ite_some h with ⟨c1, h⟩ | ⟨c1, h⟩
  ·refine tT c1 <| awp_turn (Turns.trans (Turns.kk [1, 3, 7, 8] [200]) (Turns.rr [(200, 21800)])) ?_
   refine sk (S' := ⟨[(1, .P 21800), (3, .cv (.ro .Ae p0.Kids)), (7, .I p0.Op), (8, .B (decide (p0.Op = 40)))], [(21800, .raw (Ag p0))]⟩) ?_
   cases h
   exact ⟨rfl, _, rfl, rfl⟩
  refine fF c1 <| awp_post (rg0 L 213 ⟨rfl, rfl⟩) (Turns.trans (Turns.kk [1, 3, 7, 8] [200]) (Turns.trans (Turns.rr [(200, 21800)]) (Turns.kp (S' := ⟨[(1, .P 21800), (3, .cv (.ro .Ae p0.Kids)), (7, .I p0.Op), (8, .B (decide (p0.Op = 41)))], [(21800, .raw (Ag p0))]⟩)))) ?_
  cases h
  exact ⟨rfl, _, rfl, rfl⟩
 ·rintro e S ⟨rfl, xt8_9, rfl, rfl⟩
  rcases ite_some h with ⟨c2, h⟩ | ⟨c2, h⟩
  ·refine tt c2 <| awp_seq ?_
   obtain ⟨a1, h1, h⟩ := bind_some h
   rcases ite_some h with ⟨c3, h⟩ | ⟨c3, h⟩
   ·obtain ⟨a2, h2, h⟩ := bind_some h
    rcases ite_some h with ⟨c4, h⟩ | ⟨c4, h⟩
    ·rcases ite_some h with ⟨c5, h⟩ | ⟨c5, h⟩
     ·obtain ⟨g1, h⟩ := guard_some h
      obtain ⟨a3, h3, h⟩ := bind_some h
      refine rg L 216 [(2, true), (7, true), (12, true)] [(1, .B a1), (5, .B a2), (16, .B a3)] [] (plc (Az.ok h1) (plc trivial (plc c3 (plc (Bv.ok h2) (plc trivial (plc c4 (plc (decide_eq_true c5) (plc (show (0 : Int) ≤ 0 from by decide) (plc g1 (plc (B2.ok h3) (pl1 trivial))))))))))) ?_
      refine awp_ret ?_
      cases h
      exact er0
     refine rg L 216 [(2, true), (7, true), (12, false)] [(1, .B a1), (5, .B a2)] [] (plc (Az.ok h1) (plc trivial (plc c3 (plc (Bv.ok h2) (plc trivial (plc c4 (pl1 (decide_eq_false c5)))))))) ?_
     refine awp_ret ?_
     cases h
     exact er0
    refine rg L 216 [(2, true), (7, false)] [(1, .B a1), (5, .B a2)] [] (plc (Az.ok h1) (plc trivial (plc c3 (plc (Bv.ok h2) (plc trivial (pl1 (eq_false_of_ne_true c4))))))) ?_
    refine awp_ret ?_
    cases h
    exact er0
   refine rg L 216 [(2, false)] [(1, .B a1)] [] (plc (Az.ok h1) (plc trivial (pl1 (eq_false_of_ne_true c3)))) ?_
   refine awp_ret ?_
   cases h
   exact er0
  refine fN c2 <| sg0 L 236 ?_
  rcases ite_some h with ⟨c6, h⟩ | ⟨c6, h⟩
  ·refine tT c6 <| awp_seq ?_
   obtain ⟨a4, h4, h⟩ := bind_some h
   rcases ite_some h with ⟨c7, h⟩ | ⟨c7, h⟩
   ·obtain ⟨a5, h5, h⟩ := bind_some h
    refine rg L 239 [(2, true)] [(1, .B a4), (4, .B a5)] [] (plc (Az.ok h4) (plc trivial (plc c7 (plc (Eh.okR hR h5) (pl1 trivial))))) ?_
    refine awp_ret ?_
    cases h
    exact er0
   refine rg L 239 [(2, false)] [(1, .B a4)] [] (plc (Az.ok h4) (plc trivial (pl1 (eq_false_of_ne_true c7)))) ?_
   refine awp_ret ?_
   cases h
   exact er0
  refine fF c6 <| sg0 L 247 ?_
  rcases ite_some h with ⟨c8, h⟩ | ⟨c8, h⟩
  ·refine tT c8 <| awp_seq ?_
   obtain ⟨a6, h6, h⟩ := bind_some h
   rcases ite_some h with ⟨c9, h⟩ | ⟨c9, h⟩
   ·rcases ite_some h with ⟨c10, h⟩ | ⟨c10, h⟩
    ·obtain ⟨g2, h⟩ := guard_some h
     obtain ⟨a7, h7, h⟩ := bind_some h
     rcases ite_some h with ⟨c11, h⟩ | ⟨c11, h⟩
     ·obtain ⟨g3, h⟩ := guard_some h
      obtain ⟨a8, h8, h⟩ := bind_some h
      refine rg L 250 [(2, true), (7, true), (13, true)] [(1, .B a6), (11, .B a7), (17, .B a8)] [] (plc (Az.ok h6) (plc trivial (plc c9 (plc (decide_eq_true c10) (plc (show (0 : Int) ≤ 0 from by decide) (plc g2 (plc (B2.ok h7) (plc trivial (plc c11 (plc (show (0 : Int) ≤ 1 from by decide) (plc g3 (plc (Cj.okR hR h8) (pl1 trivial))))))))))))) ?_
      refine awp_ret ?_
      cases h
      exact er0
     refine rg L 250 [(2, true), (7, true), (13, false)] [(1, .B a6), (11, .B a7)] [] (plc (Az.ok h6) (plc trivial (plc c9 (plc (decide_eq_true c10) (plc (show (0 : Int) ≤ 0 from by decide) (plc g2 (plc (B2.ok h7) (plc trivial (pl1 (eq_false_of_ne_true c11)))))))))) ?_
     refine awp_ret ?_
     cases h
     exact er0
    refine rg L 250 [(2, true), (7, false)] [(1, .B a6)] [] (plc (Az.ok h6) (plc trivial (plc c9 (pl1 (decide_eq_false c10))))) ?_
    refine awp_ret ?_
    cases h
    exact er0
   refine rg L 250 [(2, false)] [(1, .B a6)] [] (plc (Az.ok h6) (plc trivial (pl1 (eq_false_of_ne_true c9)))) ?_
   refine awp_ret ?_
   cases h
   exact er0
  refine fF c8 <| sg0 L 271 ?_
  rcases ite_some h with ⟨c12, h⟩ | ⟨c12, h⟩
  ·refine tT c12 <| awp_seq ?_
   obtain ⟨a9, h9, h⟩ := bind_some h
   rcases ite_some h with ⟨c13, h⟩ | ⟨c13, h⟩
   ·rcases ite_some h with ⟨c14, h⟩ | ⟨c14, h⟩
    ·obtain ⟨a10, h10, h⟩ := bind_some h
     refine rg L 274 [(2, true), (7, true)] [(1, .B a9), (9, .B a10)] [] (plc (Az.ok h9) (plc trivial (plc c13 (plc (decide_eq_true c14) (plc (C7.ok h10) (pl1 trivial)))))) ?_
     refine awp_ret ?_
     cases h
     exact er0
    refine rg L 274 [(2, true), (7, false)] [(1, .B a9)] [] (plc (Az.ok h9) (plc trivial (plc c13 (pl1 (decide_eq_false c14))))) ?_
    refine awp_ret ?_
    cases h
    exact er0
   refine rg L 274 [(2, false)] [(1, .B a9)] [] (plc (Az.ok h9) (plc trivial (pl1 (eq_false_of_ne_true c13)))) ?_
   refine awp_ret ?_
   cases h
   exact er0
  refine fF c12 ?_
  obtain ⟨o2, hp2, h⟩ := bind_some h
  refine awp_seq (awp_mono (Q' := fun e S => (e = .normal ∧ ∃ xt71_37 : Bool, S = ⟨[(1, .P 27400), (3, .cv (.ro .Ae p0.Kids)), (7, .I p0.Op), (71, .B xt71_37)], [(27400, .raw (Ag p0))]⟩ ∧ xt71_37 = o2)) ?_ ?_)
  ·clear h
   replace h := hp2
   refine sg0 L 287 ?_
   rcases ite_some h with ⟨c15, h⟩ | ⟨c15, h⟩
   ·refine tT c15 <| awp_turn (Turns.trans (Turns.kk [1, 3, 7, 71] [21800]) (Turns.rr [(21800, 27400)])) ?_
    refine sk (S' := ⟨[(1, .P 27400), (3, .cv (.ro .Ae p0.Kids)), (7, .I p0.Op), (71, .B (decide (p0.Op = 45)))], [(27400, .raw (Ag p0))]⟩) ?_
    cases h
    exact ⟨rfl, _, rfl, rfl⟩
   refine fF c15 <| awp_post (rg0 L 290 ⟨rfl, rfl⟩) (Turns.trans (Turns.kk [1, 3, 7, 71] [21800]) (Turns.trans (Turns.rr [(21800, 27400)]) (Turns.kp (S' := ⟨[(1, .P 27400), (3, .cv (.ro .Ae p0.Kids)), (7, .I p0.Op), (71, .B (decide (p0.Op = 52)))], [(27400, .raw (Ag p0))]⟩)))) ?_
   cases h
   exact ⟨rfl, _, rfl, rfl⟩
  ·rintro e S ⟨rfl, xt71_37, rfl, rfl⟩
   rcases ite_some h with ⟨c16, h⟩ | ⟨c16, h⟩
   ·refine tt c16 <| awp_seq ?_
    obtain ⟨a11, h11, h⟩ := bind_some h
    rcases ite_some h with ⟨c17, h⟩ | ⟨c17, h⟩
    ·rcases ite_some h with ⟨c18, h⟩ | ⟨c18, h⟩
     ·obtain ⟨g4, h⟩ := guard_some h
      obtain ⟨a12, h12, h⟩ := bind_some h
      refine rg L 293 [(2, true), (7, true)] [(1, .B a11), (11, .B a12)] [] (plc (Az.ok h11) (plc trivial (plc c17 (plc (decide_eq_true c18) (plc (show (0 : Int) ≤ 0 from by decide) (plc g4 (plc (B2.ok h12) (pl1 trivial)))))))) ?_
      refine awp_ret ?_
      cases h
      exact er0
     refine rg L 293 [(2, true), (7, false)] [(1, .B a11)] [] (plc (Az.ok h11) (plc trivial (plc c17 (pl1 (decide_eq_false c18))))) ?_
     refine awp_ret ?_
     cases h
     exact er0
    refine rg L 293 [(2, false)] [(1, .B a11)] [] (plc (Az.ok h11) (plc trivial (pl1 (eq_false_of_ne_true c17)))) ?_
    refine awp_ret ?_
    cases h
    exact er0
   refine fN c16 <| sg0 L 308 ?_
   rcases ite_some h with ⟨c19, h⟩ | ⟨c19, h⟩
   ·refine tT c19 <| awp_seq ?_
    obtain ⟨a13, h13, h⟩ := bind_some h
    rcases ite_some h with ⟨c20, h⟩ | ⟨c20, h⟩
    ·obtain ⟨a14, h14, h⟩ := bind_some h
     rcases ite_some h with ⟨c21, h⟩ | ⟨c21, h⟩
     ·rcases ite_some h with ⟨c22, h⟩ | ⟨c22, h⟩
      ·obtain ⟨a15, h15, h⟩ := bind_some h
       refine rg L 311 [(2, true), (7, true), (12, true)] [(1, .B a13), (5, .B a14), (14, .B a15)] [] (plc (Az.ok h13) (plc trivial (plc c20 (plc (Bv.ok h14) (plc trivial (plc c21 (plc (decide_eq_true c22) (plc (Dn.okR hR h15) (pl1 trivial))))))))) ?_
       refine awp_ret ?_
       cases h
       exact er0
      refine rg L 311 [(2, true), (7, true), (12, false)] [(1, .B a13), (5, .B a14)] [] (plc (Az.ok h13) (plc trivial (plc c20 (plc (Bv.ok h14) (plc trivial (plc c21 (pl1 (decide_eq_false c22)))))))) ?_
      refine awp_ret ?_
      cases h
      exact er0
     refine rg L 311 [(2, true), (7, false)] [(1, .B a13), (5, .B a14)] [] (plc (Az.ok h13) (plc trivial (plc c20 (plc (Bv.ok h14) (plc trivial (pl1 (eq_false_of_ne_true c21))))))) ?_
     refine awp_ret ?_
     cases h
     exact er0
    refine rg L 311 [(2, false)] [(1, .B a13)] [] (plc (Az.ok h13) (plc trivial (pl1 (eq_false_of_ne_true c20)))) ?_
    refine awp_ret ?_
    cases h
    exact er0
   refine fF c19 <| sg0 L 329 ?_
   rcases ite_some h with ⟨c23, h⟩ | ⟨c23, h⟩
   ·refine tT c23 <| awp_seq ?_
    obtain ⟨a16, h16, h⟩ := bind_some h
    rcases ite_some h with ⟨c24, h⟩ | ⟨c24, h⟩
    ·rcases ite_some h with ⟨c25, h⟩ | ⟨c25, h⟩
     ·obtain ⟨g5, h⟩ := guard_some h
      obtain ⟨a17, h17, h⟩ := bind_some h
      refine rg L 332 [(2, true), (7, true)] [(1, .B a16), (11, .B a17)] [] (plc (Az.ok h16) (plc trivial (plc c24 (plc (decide_eq_true c25) (plc (show (0 : Int) ≤ 0 from by decide) (plc g5 (plc (Cj.okR hR h17) (pl1 trivial)))))))) ?_
      refine awp_ret ?_
      cases h
      exact er0
     refine rg L 332 [(2, true), (7, false)] [(1, .B a16)] [] (plc (Az.ok h16) (plc trivial (plc c24 (pl1 (decide_eq_false c25))))) ?_
     refine awp_ret ?_
     cases h
     exact er0
    refine rg L 332 [(2, false)] [(1, .B a16)] [] (plc (Az.ok h16) (plc trivial (pl1 (eq_false_of_ne_true c24)))) ?_
    refine awp_ret ?_
    cases h
    exact er0
   refine fF c23 <| sg0 L 347 ?_
   rcases ite_some h with ⟨c26, h⟩ | ⟨c26, h⟩
   ·refine tT c26 <| awp_seq ?_
    obtain ⟨a18, h18, h⟩ := bind_some h
    rcases ite_some h with ⟨c27, h⟩ | ⟨c27, h⟩
    ·obtain ⟨a19, h19, h⟩ := bind_some h
     rcases ite_some h with ⟨c28, h⟩ | ⟨c28, h⟩
     ·obtain ⟨a20, h20, h⟩ := bind_some h
      refine rg L 350 [(2, true), (7, true)] [(1, .B a18), (5, .B a19), (9, .B a20)] [] (plc (Az.ok h18) (plc trivial (plc c27 (plc (Bv.ok h19) (plc trivial (plc c28 (plc (C7.ok h20) (pl1 trivial)))))))) ?_
      refine awp_ret ?_
      cases h
      exact er0
     refine rg L 350 [(2, true), (7, false)] [(1, .B a18), (5, .B a19)] [] (plc (Az.ok h18) (plc trivial (plc c27 (plc (Bv.ok h19) (plc trivial (pl1 (eq_false_of_ne_true c28))))))) ?_
     refine awp_ret ?_
     cases h
     exact er0
    refine rg L 350 [(2, false)] [(1, .B a18)] [] (plc (Az.ok h18) (plc trivial (pl1 (eq_false_of_ne_true c27)))) ?_
    refine awp_ret ?_
    cases h
    exact er0
   refine fF c26 <| sg0 L 363 ?_
   rcases ite_some h with ⟨c29, h⟩ | ⟨c29, h⟩
   ·refine tT c29 <| awp_seq ?_
    obtain ⟨a21, h21, h⟩ := bind_some h
    rcases ite_some h with ⟨c30, h⟩ | ⟨c30, h⟩
    ·obtain ⟨a22, h22, h⟩ := bind_some h
     refine rg L 366 [(2, true)] [(1, .B a21), (4, .B a22)] [] (plc (Az.ok h21) (plc trivial (plc c30 (plc (Dr.okR hR h22) (pl1 trivial))))) ?_
     refine awp_ret ?_
     cases h
     exact er0
    refine rg L 366 [(2, false)] [(1, .B a21)] [] (plc (Az.ok h21) (plc trivial (pl1 (eq_false_of_ne_true c30)))) ?_
    refine awp_ret ?_
    cases h
    exact er0
   refine fF c29 <| sg0 L 374 ?_
   rcases ite_some h with ⟨c31, h⟩ | ⟨c31, h⟩
   ·refine tT c31 <| sg0 L 377 <| awp_ret ?_
    cases h
    exact er0
   refine fF c31 <| awp_skip' <| sg0 L 379 <| awp_ret ?_
   cases h
   exact er0
def De.F (K : Nat) (R : Ak) (p0 : Aa) : Option Bool := (Option.bind (R.C8 p0) (fun a1 => some (!a1)))
theorem De.body {Γ : Ent} {K : Nat} {R : Ak} (hR : R.Ok) {p0 : Aa} {r : Bool} (h : De.F K R p0 = some r) : AWp V P 8 100 Γ (Tryz.f57.body.getD .skip) (EndsE P V Tryz.f57 (.B r) []) ⟨args0 0 [.agg (Ag p0), .cv (.pcs [.fn (.func 92) [] []] 0)], []⟩ := by
 unfold De.F at h
 refine sg0 L 200 <| awp_seq ?_
 obtain ⟨a1, h1, h⟩ := bind_some h
 refine rg L 203 [] [(2, .B a1)] [] (plt (C8.okR hR h1)) ?_
 refine awp_ret ?_
 cases h
 exact er0
def Ca.l7 (K : Nat) (R : Ak) (p0 : List Aa) : Nat → Int → Option (Out Int Unit)
 | 0, _ => none
 | k + 1, xt8_7h => (if xt8_7h < (p0.length : Int) then (if (0 : Int) ≤ xt8_7h ∧ (xt8_7h : Int) < (p0.length : Int) then (Option.bind (R.De (p0.getD (Int.toNat xt8_7h) Ay)) (fun a1 => (if a1 = true then some (Out.done xt8_7h) else Ca.l7 K R p0 k (IntKind.i64.wrap (xt8_7h + 1))))) else none) else some (Out.go ()))
def Ca.F (K : Nat) (R : Ak) (p0 : List Aa) : Option Int := (obind (Ca.l7 K R p0 K 0 : Option (Out Int Unit)) (fun r => r) (fun _ => some (-1)))
theorem Ca.body {Γ : Ent} {K : Nat} {R : Ak} (hR : R.Ok) {p0 : List Aa} {r : Int} (h : Ca.F K R p0 = some r) : AWp V P 19 100 Γ (Tryz.f90.body.getD .skip) (EndsE P V Tryz.f90 (.I r) []) ⟨args0 0 [.cv (.ro .Ae p0), .cv (.fn (.func 57) [] [.pcs [.fn (.func 92) [] []] 0])], []⟩ := by
 unfold Ca.F at h
 refine sg0 L 200 <| awp_seq <| sg0 L 202 <| awp_block <| kp (S' := ⟨[(0, .cv (.ro .Ae p0)), (1, .cv (.fn (.func 57) [] [.pcs [.fn (.func 92) [] []] 0])), (7, .I (p0.length : Int)), (8, .I 0)], []⟩) ?_
 obtain ⟨o1, hp1, h⟩ := obind_some h
 refine awp_conseq (Q' := fun e S => (e = .exit 0 ∧ S = ⟨[], []⟩ ∧ Out.go () = o1) ∨ (e = .ret ∧ ∃ a, Out.done a = o1 ∧ EndsE P V Tryz.f90 (.I a) [] .ret S)) (awp_loop (fun k S => ∃ xt8_7h : Int, S = ⟨[(0, .cv (.ro .Ae p0)), (1, .cv (.fn (.func 57) [] [.pcs [.fn (.func 92) [] []] 0])), (7, .I (p0.length : Int)), (8, .I xt8_7h)], []⟩ ∧ Ca.l7 K R p0 k xt8_7h = some o1) ?_ ⟨_, rfl, hp1⟩) ?_
 ·clear h hp1
  intro k S hS
  obtain ⟨xt8_7h, rfl, h⟩ := hS
  cases k with
  | zero => cases h
  | succ k =>
  unfold Ca.l7 at h
  refine sg0 L 206 <| awp_seq ?_
  rcases ite_some h with ⟨c1, h⟩ | ⟨c1, h⟩
  ·refine tT c1 <| awp_skip' <| awp_seq <| awp_block <| sg0 L 208 <| awp_seq ?_
   obtain ⟨g1, h⟩ := guard_some h
   obtain ⟨a1, h1, h⟩ := bind_some h
   refine rg L 211 [] [(5, .B a1)] [] (plc g1.1 (plc g1.2 (plc (De.okR hR h1) (pl1 trivial)))) ?_
   rcases ite_some h with ⟨c2, h⟩ | ⟨c2, h⟩
   ·refine tt c2 <| sg0 L 218 <| awp_ret ?_
    cases h
    exact .inr ⟨rfl, _, rfl, er0⟩
   refine fN c2 <| awp_skip' <| ar0 L 221 [] [] [] (S' := ⟨[(0, .cv (.ro .Ae p0)), (1, .cv (.fn (.func 57) [] [.pcs [.fn (.func 92) [] []] 0])), (7, .I (p0.length : Int)), (8, .I (IntKind.i64.wrap (xt8_7h + 1)))], []⟩) ?_
   exact ⟨k, Nat.lt_succ_self k, _, rfl, h⟩
  refine fF c1 <| ex (S' := ⟨[], []⟩) ?_
  cases h
  exact .inl ⟨rfl, rfl, rfl⟩
 ·rintro e S (⟨rfl, rfl, rfl⟩ | ⟨rfl, a, rfl, hr⟩)
  ·rcases h with ⟨_, e1, h⟩ | ⟨_, e1, h⟩
   ·cases e1
   ·have e2 := Out.go.inj e1
    subst e2
    refine ⟨_, Turns.refl, ?_⟩
    refine sg0 L 224 <| awp_ret ?_
    cases h
    exact er0
  ·rcases h with ⟨_, e1, h⟩ | ⟨_, e1, h⟩
   ·have e2 := Out.done.inj e1
    subst e2
    subst h
    exact ⟨_, Turns.refl, hr⟩
   ·cases e1
def Cm.F (K : Nat) (R : Ak) (p0 : List Aa) : Option Bool := (Option.bind (R.Ca p0) (fun a1 => some (decide (a1 ≥ 0))))
theorem Cm.body {Γ : Ent} {K : Nat} {R : Ak} (hR : R.Ok) {p0 : List Aa} {r : Bool} (h : Cm.F K R p0 = some r) : AWp V P 9 100 Γ (Tryz.f56.body.getD .skip) (EndsE P V Tryz.f56 (.B r) []) ⟨args0 0 [.cv (.ro .Ae p0), .cv (.fn (.func 57) [] [.pcs [.fn (.func 92) [] []] 0])], []⟩ := by
 unfold Cm.F at h
 refine sg0 L 200 <| awp_seq ?_
 obtain ⟨a1, h1, h⟩ := bind_some h
 refine rg L 202 [] [(2, .I a1)] [] (plt (Ca.okR hR h1)) ?_
 refine awp_ret ?_
 cases h
 exact er0
def Ds.F (K : Nat) (R : Ak) (p0 : List Aa) : Option Bool := (Option.bind (R.Cm p0) (fun a1 => some (!a1)))
theorem Ds.body {Γ : Ent} {K : Nat} {R : Ak} (hR : R.Ok) {p0 : List Aa} {r : Bool} (h : Ds.F K R p0 = some r) : AWp V P 9 100 Γ (Tryz.f30.body.getD .skip) (EndsE P V Tryz.f30 (.B r) []) ⟨args0 0 [.cv (.ro .Ae p0), .cv (.fn (.func 92) [] [])], []⟩ := by
 unfold Ds.F at h
 refine sg0 L 200 <| awp_seq ?_
 obtain ⟨a1, h1, h⟩ := bind_some h
 refine rg L 203 [] [(2, .B a1)] [] (plt (Cm.okR hR h1)) ?_
 refine awp_ret ?_
 cases h
 exact er0
def Cj.F (K : Nat) (R : Ak) (p0 : Aa) : Option Bool := (if p0.Op = 53 then (Option.bind (Az K p0 false false false) (fun a1 => (if a1 = true then (Option.bind (R.Ds p0.Kids) (fun a2 => some a2)) else some false))) else some false)
theorem Cj.body {Γ : Ent} {K : Nat} {R : Ak} (hR : R.Ok) {p0 : Aa} {r : Bool} (h : Cj.F K R p0 = some r) : AWp V P 15 100 Γ (Tryz.f60.body.getD .skip) (EndsE P V Tryz.f60 (.B r) []) ⟨args0 0 [.agg (Ag p0)], []⟩ := by
 unfold Cj.F at h
 refine sg0 L 200 <| awp_seq ?_
 rcases ite_some h with ⟨c1, h⟩ | ⟨c1, h⟩
 ·obtain ⟨a1, h1, h⟩ := bind_some h
  rcases ite_some h with ⟨c2, h⟩ | ⟨c2, h⟩
  ·obtain ⟨a2, h2, h⟩ := bind_some h
   refine rg L 203 [(3, true), (7, true)] [(5, .B a1), (10, .B a2)] [] (plc (decide_eq_true c1) (plc (Az.ok h1) (plc trivial (plc c2 (plc (Ds.okR hR h2) (pl1 trivial)))))) ?_
   refine awp_ret ?_
   cases h
   exact er0
  refine rg L 203 [(3, true), (7, false)] [(5, .B a1)] [] (plc (decide_eq_true c1) (plc (Az.ok h1) (plc trivial (pl1 (eq_false_of_ne_true c2))))) ?_
  refine awp_ret ?_
  cases h
  exact er0
 refine rg L 203 [(3, false)] [] [] (pl1 (decide_eq_false c1)) ?_
 refine awp_ret ?_
 cases h
 exact er0
def Ak.upto (K : Nat) : Nat → Ak
 | 0 => ⟨fun _ => none, fun _ => none, fun _ => none, fun _ => none, fun _ => none, fun _ => none, fun _ => none, fun _ => none, fun _ => none, fun _ => none, fun _ => none, fun _ => none, fun _ => none, fun _ => none, fun _ => none, fun _ => none, fun _ => none⟩
 | k + 1 => ⟨Eh.F K (Ak.upto K k), Da.F K (Ak.upto K k), Cb.F K (Ak.upto K k), Cl.F K (Ak.upto K k), Dn.F K (Ak.upto K k), D6.F K (Ak.upto K k), Dc.F K (Ak.upto K k), Cd.F K (Ak.upto K k), Ck.F K (Ak.upto K k), Dm.F K (Ak.upto K k), Dr.F K (Ak.upto K k), C8.F K (Ak.upto K k), De.F K (Ak.upto K k), Ca.F K (Ak.upto K k), Cm.F K (Ak.upto K k), Ds.F K (Ak.upto K k), Cj.F K (Ak.upto K k)⟩
theorem Ak.upto_ok (K : Nat) : ∀ k, (Ak.upto K k).Ok
 | 0 => ⟨fun h => (by cases h), fun h => (by cases h), fun h => (by cases h), fun h => (by cases h), fun h => (by cases h), fun h => (by cases h), fun h => (by cases h), fun h => (by cases h), fun h => (by cases h), fun h => (by cases h), fun h => (by cases h), fun h => (by cases h), fun h => (by cases h), fun h => (by cases h), fun h => (by cases h), fun h => (by cases h), fun h => (by cases h)⟩
 | k + 1 => ⟨fun {p0 r} h => eo (fn := Tryz.f120) (n := 47) (m := 100) fun Γ => Eh.body (K := K) (Ak.upto_ok K k) h, fun {p0 r} h => eo (fn := Tryz.f57) (n := 8) (m := 100) fun Γ => Da.body (K := K) (Ak.upto_ok K k) h, fun {p0 r} h => eo (fn := Tryz.f90) (n := 19) (m := 100) fun Γ => Cb.body (K := K) (Ak.upto_ok K k) h, fun {p0 r} h => eo (fn := Tryz.f56) (n := 9) (m := 100) fun Γ => Cl.body (K := K) (Ak.upto_ok K k) h, fun {p0 r} h => eo (fn := Tryz.f30) (n := 9) (m := 100) fun Γ => Dn.body (K := K) (Ak.upto_ok K k) h, fun {p0 r} h => eo (fn := Tryz.f136) (n := 40) (m := 100) fun Γ => D6.body (K := K) (Ak.upto_ok K k) h, fun {p0 r} h => eo (fn := Tryz.f57) (n := 8) (m := 100) fun Γ => Dc.body (K := K) (Ak.upto_ok K k) h, fun {p0 r} h => eo (fn := Tryz.f90) (n := 19) (m := 100) fun Γ => Cd.body (K := K) (Ak.upto_ok K k) h, fun {p0 r} h => eo (fn := Tryz.f56) (n := 9) (m := 100) fun Γ => Ck.body (K := K) (Ak.upto_ok K k) h, fun {p0 r} h => eo (fn := Tryz.f30) (n := 9) (m := 100) fun Γ => Dm.body (K := K) (Ak.upto_ok K k) h, fun {p0 r} h => eo (fn := Tryz.f121) (n := 59) (m := 100) fun Γ => Dr.body (K := K) (Ak.upto_ok K k) h, fun {p0 r} h => eo (fn := Tryz.f92) (n := 143) (m := 100) fun Γ => C8.body (K := K) (Ak.upto_ok K k) h, fun {p0 r} h => eo (fn := Tryz.f57) (n := 8) (m := 100) fun Γ => De.body (K := K) (Ak.upto_ok K k) h, fun {p0 r} h => eo (fn := Tryz.f90) (n := 19) (m := 100) fun Γ => Ca.body (K := K) (Ak.upto_ok K k) h, fun {p0 r} h => eo (fn := Tryz.f56) (n := 9) (m := 100) fun Γ => Cm.body (K := K) (Ak.upto_ok K k) h, fun {p0 r} h => eo (fn := Tryz.f30) (n := 9) (m := 100) fun Γ => Ds.body (K := K) (Ak.upto_ok K k) h, fun {p0 r} h => eo (fn := Tryz.f60) (n := 15) (m := 100) fun Γ => Cj.body (K := K) (Ak.upto_ok K k) h⟩
def Eh (K : Nat) (p0 : List Aa) : Option Bool := (Ak.upto K K).Eh p0
theorem Eh.okE {K : Nat} {p0 : List Aa} {r : Bool} (h : Eh K p0 = some r) : ECall V P 120 [.cv (.ro .Ae p0)] [] [] (.B r) [] := (Ak.upto_ok K K).Eh h
theorem Eh.ok {K : Nat} {p0 : List Aa} {r : Bool} (h : Eh K p0 = some r) : PCall V P 120 [.cv (.ro .Ae p0)] (.B r) := (Eh.okE h).pcall (by kernel_rfl)
def Da (K : Nat) (p0 : Aa) : Option Bool := (Ak.upto K K).Da p0
theorem Da.okE {K : Nat} {p0 : Aa} {r : Bool} (h : Da K p0 = some r) : ECall V P 57 [.agg (Ag p0), .cv (.pcs [.fn (.func 60) [] []] 0)] [] [] (.B r) [] := (Ak.upto_ok K K).Da h
theorem Da.ok {K : Nat} {p0 : Aa} {r : Bool} (h : Da K p0 = some r) : PCall V P 57 [.agg (Ag p0), .cv (.pcs [.fn (.func 60) [] []] 0)] (.B r) := (Da.okE h).pcall (by kernel_rfl)
def Cb (K : Nat) (p0 : List Aa) : Option Int := (Ak.upto K K).Cb p0
theorem Cb.okE {K : Nat} {p0 : List Aa} {r : Int} (h : Cb K p0 = some r) : ECall V P 90 [.cv (.ro .Ae p0), .cv (.fn (.func 57) [] [.pcs [.fn (.func 60) [] []] 0])] [] [] (.I r) [] := (Ak.upto_ok K K).Cb h
theorem Cb.ok {K : Nat} {p0 : List Aa} {r : Int} (h : Cb K p0 = some r) : PCall V P 90 [.cv (.ro .Ae p0), .cv (.fn (.func 57) [] [.pcs [.fn (.func 60) [] []] 0])] (.I r) := (Cb.okE h).pcall (by kernel_rfl)
def Cl (K : Nat) (p0 : List Aa) : Option Bool := (Ak.upto K K).Cl p0
theorem Cl.okE {K : Nat} {p0 : List Aa} {r : Bool} (h : Cl K p0 = some r) : ECall V P 56 [.cv (.ro .Ae p0), .cv (.fn (.func 57) [] [.pcs [.fn (.func 60) [] []] 0])] [] [] (.B r) [] := (Ak.upto_ok K K).Cl h
theorem Cl.ok {K : Nat} {p0 : List Aa} {r : Bool} (h : Cl K p0 = some r) : PCall V P 56 [.cv (.ro .Ae p0), .cv (.fn (.func 57) [] [.pcs [.fn (.func 60) [] []] 0])] (.B r) := (Cl.okE h).pcall (by kernel_rfl)
def Dn (K : Nat) (p0 : List Aa) : Option Bool := (Ak.upto K K).Dn p0
theorem Dn.okE {K : Nat} {p0 : List Aa} {r : Bool} (h : Dn K p0 = some r) : ECall V P 30 [.cv (.ro .Ae p0), .cv (.fn (.func 60) [] [])] [] [] (.B r) [] := (Ak.upto_ok K K).Dn h
theorem Dn.ok {K : Nat} {p0 : List Aa} {r : Bool} (h : Dn K p0 = some r) : PCall V P 30 [.cv (.ro .Ae p0), .cv (.fn (.func 60) [] [])] (.B r) := (Dn.okE h).pcall (by kernel_rfl)
def D6 (K : Nat) (p0 : Aa) : Option Bool := (Ak.upto K K).D6 p0
theorem D6.okE {K : Nat} {p0 : Aa} {r : Bool} (h : D6 K p0 = some r) : ECall V P 136 [.agg (Ag p0)] [] [] (.B r) [] := (Ak.upto_ok K K).D6 h
theorem D6.ok {K : Nat} {p0 : Aa} {r : Bool} (h : D6 K p0 = some r) : PCall V P 136 [.agg (Ag p0)] (.B r) := (D6.okE h).pcall (by kernel_rfl)
def Dc (K : Nat) (p0 : Aa) : Option Bool := (Ak.upto K K).Dc p0
theorem Dc.okE {K : Nat} {p0 : Aa} {r : Bool} (h : Dc K p0 = some r) : ECall V P 57 [.agg (Ag p0), .cv (.pcs [.fn (.func 136) [] []] 0)] [] [] (.B r) [] := (Ak.upto_ok K K).Dc h
theorem Dc.ok {K : Nat} {p0 : Aa} {r : Bool} (h : Dc K p0 = some r) : PCall V P 57 [.agg (Ag p0), .cv (.pcs [.fn (.func 136) [] []] 0)] (.B r) := (Dc.okE h).pcall (by kernel_rfl)
def Cd (K : Nat) (p0 : List Aa) : Option Int := (Ak.upto K K).Cd p0
theorem Cd.okE {K : Nat} {p0 : List Aa} {r : Int} (h : Cd K p0 = some r) : ECall V P 90 [.cv (.ro .Ae p0), .cv (.fn (.func 57) [] [.pcs [.fn (.func 136) [] []] 0])] [] [] (.I r) [] := (Ak.upto_ok K K).Cd h
theorem Cd.ok {K : Nat} {p0 : List Aa} {r : Int} (h : Cd K p0 = some r) : PCall V P 90 [.cv (.ro .Ae p0), .cv (.fn (.func 57) [] [.pcs [.fn (.func 136) [] []] 0])] (.I r) := (Cd.okE h).pcall (by kernel_rfl)
def Ck (K : Nat) (p0 : List Aa) : Option Bool := (Ak.upto K K).Ck p0
theorem Ck.okE {K : Nat} {p0 : List Aa} {r : Bool} (h : Ck K p0 = some r) : ECall V P 56 [.cv (.ro .Ae p0), .cv (.fn (.func 57) [] [.pcs [.fn (.func 136) [] []] 0])] [] [] (.B r) [] := (Ak.upto_ok K K).Ck h
theorem Ck.ok {K : Nat} {p0 : List Aa} {r : Bool} (h : Ck K p0 = some r) : PCall V P 56 [.cv (.ro .Ae p0), .cv (.fn (.func 57) [] [.pcs [.fn (.func 136) [] []] 0])] (.B r) := (Ck.okE h).pcall (by kernel_rfl)
def Dm (K : Nat) (p0 : List Aa) : Option Bool := (Ak.upto K K).Dm p0
theorem Dm.okE {K : Nat} {p0 : List Aa} {r : Bool} (h : Dm K p0 = some r) : ECall V P 30 [.cv (.ro .Ae p0), .cv (.fn (.func 136) [] [])] [] [] (.B r) [] := (Ak.upto_ok K K).Dm h
theorem Dm.ok {K : Nat} {p0 : List Aa} {r : Bool} (h : Dm K p0 = some r) : PCall V P 30 [.cv (.ro .Ae p0), .cv (.fn (.func 136) [] [])] (.B r) := (Dm.okE h).pcall (by kernel_rfl)
def Dr (K : Nat) (p0 : List Aa) : Option Bool := (Ak.upto K K).Dr p0
theorem Dr.okE {K : Nat} {p0 : List Aa} {r : Bool} (h : Dr K p0 = some r) : ECall V P 121 [.cv (.ro .Ae p0)] [] [] (.B r) [] := (Ak.upto_ok K K).Dr h
theorem Dr.ok {K : Nat} {p0 : List Aa} {r : Bool} (h : Dr K p0 = some r) : PCall V P 121 [.cv (.ro .Ae p0)] (.B r) := (Dr.okE h).pcall (by kernel_rfl)
def C8 (K : Nat) (p0 : Aa) : Option Bool := (Ak.upto K K).C8 p0
theorem C8.okE {K : Nat} {p0 : Aa} {r : Bool} (h : C8 K p0 = some r) : ECall V P 92 [.agg (Ag p0)] [] [] (.B r) [] := (Ak.upto_ok K K).C8 h
theorem C8.ok {K : Nat} {p0 : Aa} {r : Bool} (h : C8 K p0 = some r) : PCall V P 92 [.agg (Ag p0)] (.B r) := (C8.okE h).pcall (by kernel_rfl)
def De (K : Nat) (p0 : Aa) : Option Bool := (Ak.upto K K).De p0
theorem De.okE {K : Nat} {p0 : Aa} {r : Bool} (h : De K p0 = some r) : ECall V P 57 [.agg (Ag p0), .cv (.pcs [.fn (.func 92) [] []] 0)] [] [] (.B r) [] := (Ak.upto_ok K K).De h
theorem De.ok {K : Nat} {p0 : Aa} {r : Bool} (h : De K p0 = some r) : PCall V P 57 [.agg (Ag p0), .cv (.pcs [.fn (.func 92) [] []] 0)] (.B r) := (De.okE h).pcall (by kernel_rfl)
def Ca (K : Nat) (p0 : List Aa) : Option Int := (Ak.upto K K).Ca p0
theorem Ca.okE {K : Nat} {p0 : List Aa} {r : Int} (h : Ca K p0 = some r) : ECall V P 90 [.cv (.ro .Ae p0), .cv (.fn (.func 57) [] [.pcs [.fn (.func 92) [] []] 0])] [] [] (.I r) [] := (Ak.upto_ok K K).Ca h
theorem Ca.ok {K : Nat} {p0 : List Aa} {r : Int} (h : Ca K p0 = some r) : PCall V P 90 [.cv (.ro .Ae p0), .cv (.fn (.func 57) [] [.pcs [.fn (.func 92) [] []] 0])] (.I r) := (Ca.okE h).pcall (by kernel_rfl)
def Cm (K : Nat) (p0 : List Aa) : Option Bool := (Ak.upto K K).Cm p0
theorem Cm.okE {K : Nat} {p0 : List Aa} {r : Bool} (h : Cm K p0 = some r) : ECall V P 56 [.cv (.ro .Ae p0), .cv (.fn (.func 57) [] [.pcs [.fn (.func 92) [] []] 0])] [] [] (.B r) [] := (Ak.upto_ok K K).Cm h
theorem Cm.ok {K : Nat} {p0 : List Aa} {r : Bool} (h : Cm K p0 = some r) : PCall V P 56 [.cv (.ro .Ae p0), .cv (.fn (.func 57) [] [.pcs [.fn (.func 92) [] []] 0])] (.B r) := (Cm.okE h).pcall (by kernel_rfl)
def Ds (K : Nat) (p0 : List Aa) : Option Bool := (Ak.upto K K).Ds p0
theorem Ds.okE {K : Nat} {p0 : List Aa} {r : Bool} (h : Ds K p0 = some r) : ECall V P 30 [.cv (.ro .Ae p0), .cv (.fn (.func 92) [] [])] [] [] (.B r) [] := (Ak.upto_ok K K).Ds h
theorem Ds.ok {K : Nat} {p0 : List Aa} {r : Bool} (h : Ds K p0 = some r) : PCall V P 30 [.cv (.ro .Ae p0), .cv (.fn (.func 92) [] [])] (.B r) := (Ds.okE h).pcall (by kernel_rfl)
def Cj (K : Nat) (p0 : Aa) : Option Bool := (Ak.upto K K).Cj p0
theorem Cj.okE {K : Nat} {p0 : Aa} {r : Bool} (h : Cj K p0 = some r) : ECall V P 60 [.agg (Ag p0)] [] [] (.B r) [] := (Ak.upto_ok K K).Cj h
theorem Cj.ok {K : Nat} {p0 : Aa} {r : Bool} (h : Cj K p0 = some r) : PCall V P 60 [.agg (Ag p0)] (.B r) := (Cj.okE h).pcall (by kernel_rfl)
def Ej (K : Nat) (p0 : Aa) : Option Bool := (if p0.Op = 6 then (Option.bind (B2 K p0) (fun a1 => some a1)) else some false)
theorem Ej.body {Γ : Ent} {K : Nat} {p0 : Aa} {r : Bool} (h : Ej K p0 = some r) : AWp V P 10 100 Γ (Tryz.f61.body.getD .skip) (EndsE P V Tryz.f61 (.B r) []) ⟨args0 0 [.agg (Ag p0)], []⟩ := by
 unfold Ej at h
 refine sg0 L 200 <| awp_seq ?_
 rcases ite_some h with ⟨c1, h⟩ | ⟨c1, h⟩
 ·obtain ⟨a1, h1, h⟩ := bind_some h
  refine rg L 203 [(3, true)] [(5, .B a1)] [] (plc (decide_eq_true c1) (plc (B2.ok h1) (pl1 trivial))) ?_
  refine awp_ret ?_
  cases h
  exact er0
 refine rg L 203 [(3, false)] [] [] (pl1 (decide_eq_false c1)) ?_
 refine awp_ret ?_
 cases h
 exact er0
theorem Ej.ok {K : Nat} {p0 : Aa} {r : Bool} (h : Ej K p0 = some r) : PCall V P 61 [.agg (Ag p0)] (.B r) := ECall.pcall (eo (fn := Tryz.f61) (n := 10) (m := 100) fun Γ => Ej.body h) (by kernel_rfl)
def E0 (K : Nat) (p0 : Aa) : Option Bool := (Option.bind (Ej K p0) (fun a1 => some (!a1)))
theorem E0.body {Γ : Ent} {K : Nat} {p0 : Aa} {r : Bool} (h : E0 K p0 = some r) : AWp V P 8 100 Γ (Tryz.f57.body.getD .skip) (EndsE P V Tryz.f57 (.B r) []) ⟨args0 0 [.agg (Ag p0), .cv (.pcs [.fn (.func 61) [] []] 0)], []⟩ := by
 unfold E0 at h
 refine sg0 L 200 <| awp_seq ?_
 obtain ⟨a1, h1, h⟩ := bind_some h
 refine rg L 203 [] [(2, .B a1)] [] (plt (Ej.ok h1)) ?_
 refine awp_ret ?_
 cases h
 exact er0
theorem E0.ok {K : Nat} {p0 : Aa} {r : Bool} (h : E0 K p0 = some r) : PCall V P 57 [.agg (Ag p0), .cv (.pcs [.fn (.func 61) [] []] 0)] (.B r) := ECall.pcall (eo (fn := Tryz.f57) (n := 8) (m := 100) fun Γ => E0.body h) (by kernel_rfl)
def Dy.l7 (K : Nat) (p0 : List Aa) : Nat → Int → Option (Out Int Unit)
 | 0, _ => none
 | k + 1, xt8_7h => (if xt8_7h < (p0.length : Int) then (if (0 : Int) ≤ xt8_7h ∧ (xt8_7h : Int) < (p0.length : Int) then (Option.bind (E0 K (p0.getD (Int.toNat xt8_7h) Ay)) (fun a1 => (if a1 = true then some (Out.done xt8_7h) else Dy.l7 K p0 k (IntKind.i64.wrap (xt8_7h + 1))))) else none) else some (Out.go ()))
def Dy (K : Nat) (p0 : List Aa) : Option Int := (obind (Dy.l7 K p0 K 0 : Option (Out Int Unit)) (fun r => r) (fun _ => some (-1)))
theorem Dy.body {Γ : Ent} {K : Nat} {p0 : List Aa} {r : Int} (h : Dy K p0 = some r) : AWp V P 19 100 Γ (Tryz.f90.body.getD .skip) (EndsE P V Tryz.f90 (.I r) []) ⟨args0 0 [.cv (.ro .Ae p0), .cv (.fn (.func 57) [] [.pcs [.fn (.func 61) [] []] 0])], []⟩ := by
 unfold Dy at h
 refine sg0 L 200 <| awp_seq <| sg0 L 202 <| awp_block <| kp (S' := ⟨[(0, .cv (.ro .Ae p0)), (1, .cv (.fn (.func 57) [] [.pcs [.fn (.func 61) [] []] 0])), (7, .I (p0.length : Int)), (8, .I 0)], []⟩) ?_
 obtain ⟨o1, hp1, h⟩ := obind_some h
 refine awp_conseq (Q' := fun e S => (e = .exit 0 ∧ S = ⟨[], []⟩ ∧ Out.go () = o1) ∨ (e = .ret ∧ ∃ a, Out.done a = o1 ∧ EndsE P V Tryz.f90 (.I a) [] .ret S)) (awp_loop (fun k S => ∃ xt8_7h : Int, S = ⟨[(0, .cv (.ro .Ae p0)), (1, .cv (.fn (.func 57) [] [.pcs [.fn (.func 61) [] []] 0])), (7, .I (p0.length : Int)), (8, .I xt8_7h)], []⟩ ∧ Dy.l7 K p0 k xt8_7h = some o1) ?_ ⟨_, rfl, hp1⟩) ?_
 ·clear h hp1
  intro k S hS
  obtain ⟨xt8_7h, rfl, h⟩ := hS
  cases k with
  | zero => cases h
  | succ k =>
  unfold Dy.l7 at h
  refine sg0 L 206 <| awp_seq ?_
  rcases ite_some h with ⟨c1, h⟩ | ⟨c1, h⟩
  ·refine tT c1 <| awp_skip' <| awp_seq <| awp_block <| sg0 L 208 <| awp_seq ?_
   obtain ⟨g1, h⟩ := guard_some h
   obtain ⟨a1, h1, h⟩ := bind_some h
   refine rg L 211 [] [(5, .B a1)] [] (plc g1.1 (plc g1.2 (plc (E0.ok h1) (pl1 trivial)))) ?_
   rcases ite_some h with ⟨c2, h⟩ | ⟨c2, h⟩
   ·refine tt c2 <| sg0 L 218 <| awp_ret ?_
    cases h
    exact .inr ⟨rfl, _, rfl, er0⟩
   refine fN c2 <| awp_skip' <| ar0 L 221 [] [] [] (S' := ⟨[(0, .cv (.ro .Ae p0)), (1, .cv (.fn (.func 57) [] [.pcs [.fn (.func 61) [] []] 0])), (7, .I (p0.length : Int)), (8, .I (IntKind.i64.wrap (xt8_7h + 1)))], []⟩) ?_
   exact ⟨k, Nat.lt_succ_self k, _, rfl, h⟩
  refine fF c1 <| ex (S' := ⟨[], []⟩) ?_
  cases h
  exact .inl ⟨rfl, rfl, rfl⟩
 ·rintro e S (⟨rfl, rfl, rfl⟩ | ⟨rfl, a, rfl, hr⟩)
  ·rcases h with ⟨_, e1, h⟩ | ⟨_, e1, h⟩
   ·cases e1
   ·have e2 := Out.go.inj e1
    subst e2
    refine ⟨_, Turns.refl, ?_⟩
    refine sg0 L 224 <| awp_ret ?_
    cases h
    exact er0
  ·rcases h with ⟨_, e1, h⟩ | ⟨_, e1, h⟩
   ·have e2 := Out.done.inj e1
    subst e2
    subst h
    exact ⟨_, Turns.refl, hr⟩
   ·cases e1
theorem Dy.ok {K : Nat} {p0 : List Aa} {r : Int} (h : Dy K p0 = some r) : PCall V P 90 [.cv (.ro .Ae p0), .cv (.fn (.func 57) [] [.pcs [.fn (.func 61) [] []] 0])] (.I r) := ECall.pcall (eo (fn := Tryz.f90) (n := 19) (m := 100) fun Γ => Dy.body h) (by kernel_rfl)
def Ee (K : Nat) (p0 : List Aa) : Option Bool := (Option.bind (Dy K p0) (fun a1 => some (decide (a1 ≥ 0))))
theorem Ee.body {Γ : Ent} {K : Nat} {p0 : List Aa} {r : Bool} (h : Ee K p0 = some r) : AWp V P 9 100 Γ (Tryz.f56.body.getD .skip) (EndsE P V Tryz.f56 (.B r) []) ⟨args0 0 [.cv (.ro .Ae p0), .cv (.fn (.func 57) [] [.pcs [.fn (.func 61) [] []] 0])], []⟩ := by
 unfold Ee at h
 refine sg0 L 200 <| awp_seq ?_
 obtain ⟨a1, h1, h⟩ := bind_some h
 refine rg L 202 [] [(2, .I a1)] [] (plt (Dy.ok h1)) ?_
 refine awp_ret ?_
 cases h
 exact er0
theorem Ee.ok {K : Nat} {p0 : List Aa} {r : Bool} (h : Ee K p0 = some r) : PCall V P 56 [.cv (.ro .Ae p0), .cv (.fn (.func 57) [] [.pcs [.fn (.func 61) [] []] 0])] (.B r) := ECall.pcall (eo (fn := Tryz.f56) (n := 9) (m := 100) fun Γ => Ee.body h) (by kernel_rfl)
def Fa (K : Nat) (p0 : List Aa) : Option Bool := (Option.bind (Ee K p0) (fun a1 => some (!a1)))
theorem Fa.body {Γ : Ent} {K : Nat} {p0 : List Aa} {r : Bool} (h : Fa K p0 = some r) : AWp V P 9 100 Γ (Tryz.f30.body.getD .skip) (EndsE P V Tryz.f30 (.B r) []) ⟨args0 0 [.cv (.ro .Ae p0), .cv (.fn (.func 61) [] [])], []⟩ := by
 unfold Fa at h
 refine sg0 L 200 <| awp_seq ?_
 obtain ⟨a1, h1, h⟩ := bind_some h
 refine rg L 203 [] [(2, .B a1)] [] (plt (Ee.ok h1)) ?_
 refine awp_ret ?_
 cases h
 exact er0
theorem Fa.ok {K : Nat} {p0 : List Aa} {r : Bool} (h : Fa K p0 = some r) : PCall V P 30 [.cv (.ro .Ae p0), .cv (.fn (.func 61) [] [])] (.B r) := ECall.pcall (eo (fn := Tryz.f30) (n := 9) (m := 100) fun Γ => Fa.body h) (by kernel_rfl)
def Ev (K : Nat) (p0 : Aa) : Option Bool := (if (IntKind.i64.wrap ((p0.Kids.length : Int) - 1)) < 0 then some false else (Option.bind (Bv K p0.Name) (fun a1 => (if a1 = true then (if p0.Op = 61 then (Option.bind (Az K p0 true false false) (fun a2 => (if a2 = true then (if (IntKind.i64.wrap ((p0.Kids.length : Int) - 1)) = 0 then (if (0 : Int) < (p0.Kids.length : Int) then (Option.bind (E4 K (p0.Kids.getD (Int.toNat 0) Ay)) (fun a3 => some a3)) else none) else some false) else some false))) else (if p0.Op = 62 then (Option.bind (Az K p0 true false false) (fun a4 => (if a4 = true then (if (0 : Int) ≤ (IntKind.i64.wrap ((p0.Kids.length : Int) - 1)) ∧ ((IntKind.i64.wrap ((p0.Kids.length : Int) - 1)) : Int) < (p0.Kids.length : Int) then (Option.bind (Cj K (p0.Kids.getD (Int.toNat (IntKind.i64.wrap ((p0.Kids.length : Int) - 1))) Ay)) (fun a5 => (if a5 = true then (if (IntKind.i64.wrap ((p0.Kids.length : Int) - 1)) ≤ (p0.Kids.length : Int) then (Option.bind (Fa K (slc p0.Kids 0 (IntKind.i64.wrap ((p0.Kids.length : Int) - 1)))) (fun a6 => some a6)) else none) else some false))) else none) else some false))) else (Option.bind ((if p0.Op = 63 then some (decide (p0.Op = 63)) else some (decide (p0.Op = 64))) : Option Bool) (fun xt52_29 => (if xt52_29 = true then (Option.bind (Az K p0 true true false) (fun a7 => (if a7 = true then (Option.bind (Bv K p0.Text) (fun a8 => (if a8 = true then (if (IntKind.i64.wrap ((p0.Kids.length : Int) - 1)) = 0 then (if (0 : Int) < (p0.Kids.length : Int) then (Option.bind (Cj K (p0.Kids.getD (Int.toNat 0) Ay)) (fun a9 => some a9)) else none) else some false) else some false))) else some false))) else (if p0.Op = 65 then (Option.bind (Az K p0 true true false) (fun a10 => (if a10 = true then (Option.bind (Bv K p0.Text) (fun a11 => (if a11 = true then (if (IntKind.i64.wrap ((p0.Kids.length : Int) - 1)) ≤ 1 then (Option.bind (Dn K p0.Kids) (fun a12 => some a12)) else some false) else some false))) else some false))) else some false)))))) else some false))))
theorem Ev.body {Γ : Ent} {K : Nat} {p0 : Aa} {r : Bool} (h : Ev K p0 = some r) : AWp V P 91 100 Γ (Tryz.f31.body.getD .skip) (EndsE P V Tryz.f31 (.B r) []) ⟨args0 0 [.agg (Ag p0)], []⟩ := by
 unfold Ev at h
 refine sg0 L 200 <| sg0 L 203 <| awp_seq <| awp_seq ?_
 rcases ite_some h with ⟨c1, h⟩ | ⟨c1, h⟩
 ·refine rg L 209 [(2, true)] [] [] (pl1 (decide_eq_true c1)) ?_
  refine tt (b := true) (rfl) ?_
  refine sg0 L 218 <| awp_ret ?_
  cases h
  exact er0
 obtain ⟨a1, h1, h⟩ := bind_some h
 refine rg L 209 [(2, false)] [(5, .B a1)] [] (plc (decide_eq_false c1) (plc (Bv.ok h1) (pl1 trivial))) ?_
 rcases ite_some h with ⟨c2, h⟩ | ⟨c2, h⟩
 ·refine ff (b := (!a1)) (congrArg Bool.not (c2)) ?_
  refine awp_skip' <| awp_seq <| sg0 L 220 <| awp_block <| sg0 L 223 ?_
  rcases ite_some h with ⟨c3, h⟩ | ⟨c3, h⟩
  ·refine tT c3 <| awp_seq ?_
   obtain ⟨a2, h2, h⟩ := bind_some h
   rcases ite_some h with ⟨c4, h⟩ | ⟨c4, h⟩
   ·rcases ite_some h with ⟨c5, h⟩ | ⟨c5, h⟩
    ·obtain ⟨g1, h⟩ := guard_some h
     obtain ⟨a3, h3, h⟩ := bind_some h
     refine rg L 226 [(2, true), (6, true)] [(1, .B a2), (11, .B a3)] [] (plc (Az.ok h2) (plc trivial (plc c4 (plc (decide_eq_true c5) (plc (show (0 : Int) ≤ 0 from by decide) (plc g1 (plc (E4.ok h3) (pl1 trivial)))))))) ?_
     refine awp_ret ?_
     cases h
     exact er0
    refine rg L 226 [(2, true), (6, false)] [(1, .B a2)] [] (plc (Az.ok h2) (plc trivial (plc c4 (pl1 (decide_eq_false c5))))) ?_
    refine awp_ret ?_
    cases h
    exact er0
   refine rg L 226 [(2, false)] [(1, .B a2)] [] (plc (Az.ok h2) (plc trivial (pl1 (eq_false_of_ne_true c4)))) ?_
   refine awp_ret ?_
   cases h
   exact er0
  refine fF c3 <| sg0 L 241 ?_
  rcases ite_some h with ⟨c6, h⟩ | ⟨c6, h⟩
  ·refine tT c6 <| awp_seq ?_
   obtain ⟨a4, h4, h⟩ := bind_some h
   rcases ite_some h with ⟨c7, h⟩ | ⟨c7, h⟩
   ·obtain ⟨g2, h⟩ := guard_some h
    obtain ⟨a5, h5, h⟩ := bind_some h
    rcases ite_some h with ⟨c8, h⟩ | ⟨c8, h⟩
    ·obtain ⟨g3, h⟩ := guard_some h
     obtain ⟨a6, h6, h⟩ := bind_some h
     refine rg L 244 [(2, true), (10, true)] [(1, .B a4), (8, .B a5), (15, .B a6)] [] (plc (Az.ok h4) (plc trivial (plc c7 (plc g2.1 (plc g2.2 (plc (Cj.ok h5) (plc trivial (plc c8 (plc (show (0 : Int) ≤ 0 from Int.le_refl _) (plc g2.1 (plc g3 (plc (Fa.ok h6) (pl1 trivial))))))))))))) ?_
     refine awp_ret ?_
     cases h
     exact er0
    refine rg L 244 [(2, true), (10, false)] [(1, .B a4), (8, .B a5)] [] (plc (Az.ok h4) (plc trivial (plc c7 (plc g2.1 (plc g2.2 (plc (Cj.ok h5) (plc trivial (pl1 (eq_false_of_ne_true c8))))))))) ?_
    refine awp_ret ?_
    cases h
    exact er0
   refine rg L 244 [(2, false)] [(1, .B a4)] [] (plc (Az.ok h4) (plc trivial (pl1 (eq_false_of_ne_true c7)))) ?_
   refine awp_ret ?_
   cases h
   exact er0
  refine fF c6 ?_
  obtain ⟨o1, hp1, h⟩ := bind_some h
  refine awp_seq (awp_mono (Q' := fun e S => (e = .normal ∧ ∃ xt52_29 : Bool, S = ⟨[(1, .P 25800), (3, .I (IntKind.i64.wrap ((p0.Kids.length : Int) - 1))), (17, .I p0.Op), (52, .B xt52_29)], [(25800, .raw (Ag p0))]⟩ ∧ xt52_29 = o1)) ?_ ?_)
  ·clear h
   replace h := hp1
   refine sg0 L 263 ?_
   rcases ite_some h with ⟨c9, h⟩ | ⟨c9, h⟩
   ·refine tT c9 <| awp_turn (Turns.trans (Turns.kk [1, 3, 17, 52] [200]) (Turns.rr [(200, 25800)])) ?_
    refine sk (S' := ⟨[(1, .P 25800), (3, .I (IntKind.i64.wrap ((p0.Kids.length : Int) - 1))), (17, .I p0.Op), (52, .B (decide (p0.Op = 63)))], [(25800, .raw (Ag p0))]⟩) ?_
    cases h
    exact ⟨rfl, _, rfl, rfl⟩
   refine fF c9 <| awp_post (rg0 L 266 ⟨rfl, rfl⟩) (Turns.trans (Turns.kk [1, 3, 17, 52] [200]) (Turns.trans (Turns.rr [(200, 25800)]) (Turns.kp (S' := ⟨[(1, .P 25800), (3, .I (IntKind.i64.wrap ((p0.Kids.length : Int) - 1))), (17, .I p0.Op), (52, .B (decide (p0.Op = 64)))], [(25800, .raw (Ag p0))]⟩)))) ?_
   cases h
   exact ⟨rfl, _, rfl, rfl⟩
  ·rintro e S ⟨rfl, xt52_29, rfl, rfl⟩
   rcases ite_some h with ⟨c10, h⟩ | ⟨c10, h⟩
   ·refine tt c10 <| awp_seq ?_
    obtain ⟨a7, h7, h⟩ := bind_some h
    rcases ite_some h with ⟨c11, h⟩ | ⟨c11, h⟩
    ·obtain ⟨a8, h8, h⟩ := bind_some h
     rcases ite_some h with ⟨c12, h⟩ | ⟨c12, h⟩
     ·rcases ite_some h with ⟨c13, h⟩ | ⟨c13, h⟩
      ·obtain ⟨g4, h⟩ := guard_some h
       obtain ⟨a9, h9, h⟩ := bind_some h
       refine rg L 269 [(2, true), (7, true), (11, true)] [(1, .B a7), (5, .B a8), (16, .B a9)] [] (plc (Az.ok h7) (plc trivial (plc c11 (plc (Bv.ok h8) (plc trivial (plc c12 (plc (decide_eq_true c13) (plc (show (0 : Int) ≤ 0 from by decide) (plc g4 (plc (Cj.ok h9) (pl1 trivial))))))))))) ?_
       refine awp_ret ?_
       cases h
       exact er0
      refine rg L 269 [(2, true), (7, true), (11, false)] [(1, .B a7), (5, .B a8)] [] (plc (Az.ok h7) (plc trivial (plc c11 (plc (Bv.ok h8) (plc trivial (plc c12 (pl1 (decide_eq_false c13)))))))) ?_
      refine awp_ret ?_
      cases h
      exact er0
     refine rg L 269 [(2, true), (7, false)] [(1, .B a7), (5, .B a8)] [] (plc (Az.ok h7) (plc trivial (plc c11 (plc (Bv.ok h8) (plc trivial (pl1 (eq_false_of_ne_true c12))))))) ?_
     refine awp_ret ?_
     cases h
     exact er0
    refine rg L 269 [(2, false)] [(1, .B a7)] [] (plc (Az.ok h7) (plc trivial (pl1 (eq_false_of_ne_true c11)))) ?_
    refine awp_ret ?_
    cases h
    exact er0
   refine fN c10 <| sg0 L 289 ?_
   rcases ite_some h with ⟨c14, h⟩ | ⟨c14, h⟩
   ·refine tT c14 <| awp_seq ?_
    obtain ⟨a10, h10, h⟩ := bind_some h
    rcases ite_some h with ⟨c15, h⟩ | ⟨c15, h⟩
    ·obtain ⟨a11, h11, h⟩ := bind_some h
     rcases ite_some h with ⟨c16, h⟩ | ⟨c16, h⟩
     ·rcases ite_some h with ⟨c17, h⟩ | ⟨c17, h⟩
      ·obtain ⟨a12, h12, h⟩ := bind_some h
       refine rg L 292 [(2, true), (7, true), (11, true)] [(1, .B a10), (5, .B a11), (14, .B a12)] [] (plc (Az.ok h10) (plc trivial (plc c15 (plc (Bv.ok h11) (plc trivial (plc c16 (plc (decide_eq_true c17) (plc (Dn.ok h12) (pl1 trivial))))))))) ?_
       refine awp_ret ?_
       cases h
       exact er0
      refine rg L 292 [(2, true), (7, true), (11, false)] [(1, .B a10), (5, .B a11)] [] (plc (Az.ok h10) (plc trivial (plc c15 (plc (Bv.ok h11) (plc trivial (plc c16 (pl1 (decide_eq_false c17)))))))) ?_
      refine awp_ret ?_
      cases h
      exact er0
     refine rg L 292 [(2, true), (7, false)] [(1, .B a10), (5, .B a11)] [] (plc (Az.ok h10) (plc trivial (plc c15 (plc (Bv.ok h11) (plc trivial (pl1 (eq_false_of_ne_true c16))))))) ?_
     refine awp_ret ?_
     cases h
     exact er0
    refine rg L 292 [(2, false)] [(1, .B a10)] [] (plc (Az.ok h10) (plc trivial (pl1 (eq_false_of_ne_true c15)))) ?_
    refine awp_ret ?_
    cases h
    exact er0
   refine fF c14 <| awp_skip' <| sg0 L 310 <| awp_ret ?_
   cases h
   exact er0
 refine tt (b := (!a1)) (congrArg Bool.not (eq_false_of_ne_true c2)) ?_
 refine sg0 L 218 <| awp_ret ?_
 cases h
 exact er0
theorem Ev.ok {K : Nat} {p0 : Aa} {r : Bool} (h : Ev K p0 = some r) : PCall V P 31 [.agg (Ag p0)] (.B r) := ECall.pcall (eo (fn := Tryz.f31) (n := 91) (m := 100) fun Γ => Ev.body h) (by kernel_rfl)
def E9 (K : Nat) (p0 : Aa) : Option Bool := (Option.bind (Ev K p0) (fun a1 => some (!a1)))
theorem E9.body {Γ : Ent} {K : Nat} {p0 : Aa} {r : Bool} (h : E9 K p0 = some r) : AWp V P 8 100 Γ (Tryz.f57.body.getD .skip) (EndsE P V Tryz.f57 (.B r) []) ⟨args0 0 [.agg (Ag p0), .cv (.pcs [.fn (.func 31) [] []] 0)], []⟩ := by
 unfold E9 at h
 refine sg0 L 200 <| awp_seq ?_
 obtain ⟨a1, h1, h⟩ := bind_some h
 refine rg L 203 [] [(2, .B a1)] [] (plt (Ev.ok h1)) ?_
 refine awp_ret ?_
 cases h
 exact er0
theorem E9.ok {K : Nat} {p0 : Aa} {r : Bool} (h : E9 K p0 = some r) : PCall V P 57 [.agg (Ag p0), .cv (.pcs [.fn (.func 31) [] []] 0)] (.B r) := ECall.pcall (eo (fn := Tryz.f57) (n := 8) (m := 100) fun Γ => E9.body h) (by kernel_rfl)
def D9.l7 (K : Nat) (p0 : List Aa) : Nat → Int → Option (Out Int Unit)
 | 0, _ => none
 | k + 1, xt8_7h => (if xt8_7h < (p0.length : Int) then (if (0 : Int) ≤ xt8_7h ∧ (xt8_7h : Int) < (p0.length : Int) then (Option.bind (E9 K (p0.getD (Int.toNat xt8_7h) Ay)) (fun a1 => (if a1 = true then some (Out.done xt8_7h) else D9.l7 K p0 k (IntKind.i64.wrap (xt8_7h + 1))))) else none) else some (Out.go ()))
def D9 (K : Nat) (p0 : List Aa) : Option Int := (obind (D9.l7 K p0 K 0 : Option (Out Int Unit)) (fun r => r) (fun _ => some (-1)))
theorem D9.body {Γ : Ent} {K : Nat} {p0 : List Aa} {r : Int} (h : D9 K p0 = some r) : AWp V P 19 100 Γ (Tryz.f90.body.getD .skip) (EndsE P V Tryz.f90 (.I r) []) ⟨args0 0 [.cv (.ro .Ae p0), .cv (.fn (.func 57) [] [.pcs [.fn (.func 31) [] []] 0])], []⟩ := by
 unfold D9 at h
 refine sg0 L 200 <| awp_seq <| sg0 L 202 <| awp_block <| kp (S' := ⟨[(0, .cv (.ro .Ae p0)), (1, .cv (.fn (.func 57) [] [.pcs [.fn (.func 31) [] []] 0])), (7, .I (p0.length : Int)), (8, .I 0)], []⟩) ?_
 obtain ⟨o1, hp1, h⟩ := obind_some h
 refine awp_conseq (Q' := fun e S => (e = .exit 0 ∧ S = ⟨[], []⟩ ∧ Out.go () = o1) ∨ (e = .ret ∧ ∃ a, Out.done a = o1 ∧ EndsE P V Tryz.f90 (.I a) [] .ret S)) (awp_loop (fun k S => ∃ xt8_7h : Int, S = ⟨[(0, .cv (.ro .Ae p0)), (1, .cv (.fn (.func 57) [] [.pcs [.fn (.func 31) [] []] 0])), (7, .I (p0.length : Int)), (8, .I xt8_7h)], []⟩ ∧ D9.l7 K p0 k xt8_7h = some o1) ?_ ⟨_, rfl, hp1⟩) ?_
 ·clear h hp1
  intro k S hS
  obtain ⟨xt8_7h, rfl, h⟩ := hS
  cases k with
  | zero => cases h
  | succ k =>
  unfold D9.l7 at h
  refine sg0 L 206 <| awp_seq ?_
  rcases ite_some h with ⟨c1, h⟩ | ⟨c1, h⟩
  ·refine tT c1 <| awp_skip' <| awp_seq <| awp_block <| sg0 L 208 <| awp_seq ?_
   obtain ⟨g1, h⟩ := guard_some h
   obtain ⟨a1, h1, h⟩ := bind_some h
   refine rg L 211 [] [(5, .B a1)] [] (plc g1.1 (plc g1.2 (plc (E9.ok h1) (pl1 trivial)))) ?_
   rcases ite_some h with ⟨c2, h⟩ | ⟨c2, h⟩
   ·refine tt c2 <| sg0 L 218 <| awp_ret ?_
    cases h
    exact .inr ⟨rfl, _, rfl, er0⟩
   refine fN c2 <| awp_skip' <| ar0 L 221 [] [] [] (S' := ⟨[(0, .cv (.ro .Ae p0)), (1, .cv (.fn (.func 57) [] [.pcs [.fn (.func 31) [] []] 0])), (7, .I (p0.length : Int)), (8, .I (IntKind.i64.wrap (xt8_7h + 1)))], []⟩) ?_
   exact ⟨k, Nat.lt_succ_self k, _, rfl, h⟩
  refine fF c1 <| ex (S' := ⟨[], []⟩) ?_
  cases h
  exact .inl ⟨rfl, rfl, rfl⟩
 ·rintro e S (⟨rfl, rfl, rfl⟩ | ⟨rfl, a, rfl, hr⟩)
  ·rcases h with ⟨_, e1, h⟩ | ⟨_, e1, h⟩
   ·cases e1
   ·have e2 := Out.go.inj e1
    subst e2
    refine ⟨_, Turns.refl, ?_⟩
    refine sg0 L 224 <| awp_ret ?_
    cases h
    exact er0
  ·rcases h with ⟨_, e1, h⟩ | ⟨_, e1, h⟩
   ·have e2 := Out.done.inj e1
    subst e2
    subst h
    exact ⟨_, Turns.refl, hr⟩
   ·cases e1
theorem D9.ok {K : Nat} {p0 : List Aa} {r : Int} (h : D9 K p0 = some r) : PCall V P 90 [.cv (.ro .Ae p0), .cv (.fn (.func 57) [] [.pcs [.fn (.func 31) [] []] 0])] (.I r) := ECall.pcall (eo (fn := Tryz.f90) (n := 19) (m := 100) fun Γ => D9.body h) (by kernel_rfl)
def Em (K : Nat) (p0 : List Aa) : Option Bool := (Option.bind (D9 K p0) (fun a1 => some (decide (a1 ≥ 0))))
theorem Em.body {Γ : Ent} {K : Nat} {p0 : List Aa} {r : Bool} (h : Em K p0 = some r) : AWp V P 9 100 Γ (Tryz.f56.body.getD .skip) (EndsE P V Tryz.f56 (.B r) []) ⟨args0 0 [.cv (.ro .Ae p0), .cv (.fn (.func 57) [] [.pcs [.fn (.func 31) [] []] 0])], []⟩ := by
 unfold Em at h
 refine sg0 L 200 <| awp_seq ?_
 obtain ⟨a1, h1, h⟩ := bind_some h
 refine rg L 202 [] [(2, .I a1)] [] (plt (D9.ok h1)) ?_
 refine awp_ret ?_
 cases h
 exact er0
theorem Em.ok {K : Nat} {p0 : List Aa} {r : Bool} (h : Em K p0 = some r) : PCall V P 56 [.cv (.ro .Ae p0), .cv (.fn (.func 57) [] [.pcs [.fn (.func 31) [] []] 0])] (.B r) := ECall.pcall (eo (fn := Tryz.f56) (n := 9) (m := 100) fun Γ => Em.body h) (by kernel_rfl)
def Fk (K : Nat) (p0 : List Aa) : Option Bool := (Option.bind (Em K p0) (fun a1 => some (!a1)))
theorem Fk.body {Γ : Ent} {K : Nat} {p0 : List Aa} {r : Bool} (h : Fk K p0 = some r) : AWp V P 9 100 Γ (Tryz.f30.body.getD .skip) (EndsE P V Tryz.f30 (.B r) []) ⟨args0 0 [.cv (.ro .Ae p0), .cv (.fn (.func 31) [] [])], []⟩ := by
 unfold Fk at h
 refine sg0 L 200 <| awp_seq ?_
 obtain ⟨a1, h1, h⟩ := bind_some h
 refine rg L 203 [] [(2, .B a1)] [] (plt (Em.ok h1)) ?_
 refine awp_ret ?_
 cases h
 exact er0
theorem Fk.ok {K : Nat} {p0 : List Aa} {r : Bool} (h : Fk K p0 = some r) : PCall V P 30 [.cv (.ro .Ae p0), .cv (.fn (.func 31) [] [])] (.B r) := ECall.pcall (eo (fn := Tryz.f30) (n := 9) (m := 100) fun Γ => Fk.body h) (by kernel_rfl)
def Ff (K : Nat) (p0 : Aa) : Option Bool := (Option.bind (E8 K p0) (fun a1 => (if a1 = true then (if p0.Op = 60 then (Option.bind (Az K p0 false false false) (fun a2 => (if a2 = true then (Option.bind (Fk K p0.Kids) (fun a3 => some a3)) else some false))) else some false) else some false)))
theorem Ff.body {Γ : Ent} {K : Nat} {p0 : Aa} {r : Bool} (h : Ff K p0 = some r) : AWp V P 19 100 Γ (Tryz.f13.body.getD .skip) (EndsE P V Tryz.f13 (.B r) []) ⟨args0 0 [.agg (Ag p0)], []⟩ := by
 unfold Ff at h
 refine sg0 L 200 <| awp_seq ?_
 obtain ⟨a1, h1, h⟩ := bind_some h
 rcases ite_some h with ⟨c1, h⟩ | ⟨c1, h⟩
 ·rcases ite_some h with ⟨c2, h⟩ | ⟨c2, h⟩
  ·obtain ⟨a2, h2, h⟩ := bind_some h
   rcases ite_some h with ⟨c3, h⟩ | ⟨c3, h⟩
   ·obtain ⟨a3, h3, h⟩ := bind_some h
    refine rg L 203 [(2, true), (7, true), (11, true)] [(1, .B a1), (9, .B a2), (14, .B a3)] [] (plc (E8.ok h1) (plc trivial (plc c1 (plc (decide_eq_true c2) (plc (Az.ok h2) (plc trivial (plc c3 (plc (Fk.ok h3) (pl1 trivial))))))))) ?_
    refine awp_ret ?_
    cases h
    exact er0
   refine rg L 203 [(2, true), (7, true), (11, false)] [(1, .B a1), (9, .B a2)] [] (plc (E8.ok h1) (plc trivial (plc c1 (plc (decide_eq_true c2) (plc (Az.ok h2) (plc trivial (pl1 (eq_false_of_ne_true c3)))))))) ?_
   refine awp_ret ?_
   cases h
   exact er0
  refine rg L 203 [(2, true), (7, false)] [(1, .B a1)] [] (plc (E8.ok h1) (plc trivial (plc c1 (pl1 (decide_eq_false c2))))) ?_
  refine awp_ret ?_
  cases h
  exact er0
 refine rg L 203 [(2, false)] [(1, .B a1)] [] (plc (E8.ok h1) (plc trivial (pl1 (eq_false_of_ne_true c1)))) ?_
 refine awp_ret ?_
 cases h
 exact er0
theorem Ff.ok {K : Nat} {p0 : Aa} {r : Bool} (h : Ff K p0 = some r) : PCall V P 13 [.agg (Ag p0)] (.B r) := ECall.pcall (eo (fn := Tryz.f13) (n := 19) (m := 100) fun Γ => Ff.body h) (by kernel_rfl)
def Eb (K : Nat) : Option Bool := (Option.bind (Fh K ([97, 32, 43, 32, 98, 32, 42, 32, 50] : List UInt8)) (fun (a1_0, a1_1, a1_2) => (Option.bind (Fh K ([97, 32, 60, 32, 98, 32, 60, 32, 99] : List UInt8)) (fun (a2_0, a2_1, a2_2) => (Option.bind (Fj K ([102, 117, 110, 99, 32, 102, 40, 120, 41, 32, 123, 32, 114, 101, 116, 117, 114, 110, 32, 120, 59, 32, 125] : List UInt8)) (fun (a3_0, a3_1, a3_2) => (if a1_2 = 0 then (Option.bind (Bf K a1_0 ((⟨18, [], 0, [], ([(⟨6, ([97] : List UInt8), 0, [], ([] : List Aa)⟩ : Aa), (⟨15, [], 0, [], ([(⟨6, ([98] : List UInt8), 0, [], ([] : List Aa)⟩ : Aa), (⟨4, [], 2, [], ([] : List Aa)⟩ : Aa)] : List Aa)⟩ : Aa)] : List Aa)⟩ : Aa))) (fun a4 => (if a4 = true then (if a2_1 = 6 then (if a2_2 = 29 then (if a3_2 = 0 then (Option.bind (Ff K a3_0) (fun a5 => (if a5 = true then (Option.bind (Di K a3_0) (fun a6 => some (decide (a6 = 6)))) else some false))) else some false) else some false) else some false) else some false))) else some false)))))))
theorem Eb.body {Γ : Ent} {K : Nat} {r : Bool} (h : Eb K = some r) : AWp V P 61 100 Γ (Tryz.f9.body.getD .skip) (EndsE P V Tryz.f9 (.B r) []) ⟨args0 0 [], []⟩ := by
 unfold Eb at h
 refine sg0 L 200 <| awp_seq ?_
 obtain ⟨⟨a1_0, a1_1, a1_2⟩, h1, h⟩ := bind_some h
 dsimp only at h
 refine rg L 202 [] [(0, .tup [.agg (Ag a1_0), .I a1_1, .I a1_2])] [] (plt (Fh.ok h1)) ?_
 refine awp_seq ?_
 obtain ⟨⟨a2_0, a2_1, a2_2⟩, h2, h⟩ := bind_some h
 dsimp only at h
 refine rg L 212 [] [(0, .tup [.agg (Ag a2_0), .I a2_1, .I a2_2])] [] (plt (Fh.ok h2)) ?_
 refine awp_seq ?_
 obtain ⟨⟨a3_0, a3_1, a3_2⟩, h3, h⟩ := bind_some h
 dsimp only at h
 refine rg L 222 [] [(0, .tup [.agg (Ag a3_0), .I a3_1, .I a3_2])] [] (plt (Fj.ok h3)) ?_
 refine sg0 L 232 <| awp_seq ?_
 rcases ite_some h with ⟨c1, h⟩ | ⟨c1, h⟩
 ·obtain ⟨a4, h4, h⟩ := bind_some h
  rcases ite_some h with ⟨c2, h⟩ | ⟨c2, h⟩
  ·rcases ite_some h with ⟨c3, h⟩ | ⟨c3, h⟩
   ·rcases ite_some h with ⟨c4, h⟩ | ⟨c4, h⟩
    ·rcases ite_some h with ⟨c5, h⟩ | ⟨c5, h⟩
     ·obtain ⟨a5, h5, h⟩ := bind_some h
      rcases ite_some h with ⟨c6, h⟩ | ⟨c6, h⟩
      ·obtain ⟨a6, h6, h⟩ := bind_some h
       refine rg L 242 [(2, true), (7, true), (11, true), (15, true), (19, true), (23, true)] [(5, .B a4), (21, .B a5), (25, .I a6)] [] (plc (decide_eq_true c1) (plc (Bf.ok h4) (plc trivial (plc c2 (plc (decide_eq_true c3) (plc (decide_eq_true c4) (plc (decide_eq_true c5) (plc (Ff.ok h5) (plc trivial (plc c6 (plc (Di.ok h6) (pl1 trivial)))))))))))) ?_
       refine awp_ret ?_
       cases h
       exact er0
      refine rg L 242 [(2, true), (7, true), (11, true), (15, true), (19, true), (23, false)] [(5, .B a4), (21, .B a5)] [] (plc (decide_eq_true c1) (plc (Bf.ok h4) (plc trivial (plc c2 (plc (decide_eq_true c3) (plc (decide_eq_true c4) (plc (decide_eq_true c5) (plc (Ff.ok h5) (plc trivial (pl1 (eq_false_of_ne_true c6))))))))))) ?_
      refine awp_ret ?_
      cases h
      exact er0
     refine rg L 242 [(2, true), (7, true), (11, true), (15, true), (19, false)] [(5, .B a4)] [] (plc (decide_eq_true c1) (plc (Bf.ok h4) (plc trivial (plc c2 (plc (decide_eq_true c3) (plc (decide_eq_true c4) (pl1 (decide_eq_false c5)))))))) ?_
     refine awp_ret ?_
     cases h
     exact er0
    refine rg L 242 [(2, true), (7, true), (11, true), (15, false)] [(5, .B a4)] [] (plc (decide_eq_true c1) (plc (Bf.ok h4) (plc trivial (plc c2 (plc (decide_eq_true c3) (pl1 (decide_eq_false c4))))))) ?_
    refine awp_ret ?_
    cases h
    exact er0
   refine rg L 242 [(2, true), (7, true), (11, false)] [(5, .B a4)] [] (plc (decide_eq_true c1) (plc (Bf.ok h4) (plc trivial (plc c2 (pl1 (decide_eq_false c3)))))) ?_
   refine awp_ret ?_
   cases h
   exact er0
  refine rg L 242 [(2, true), (7, false)] [(5, .B a4)] [] (plc (decide_eq_true c1) (plc (Bf.ok h4) (plc trivial (pl1 (eq_false_of_ne_true c2))))) ?_
  refine awp_ret ?_
  cases h
  exact er0
 refine rg L 242 [(2, false)] [] [] (pl1 (decide_eq_false c1)) ?_
 refine awp_ret ?_
 cases h
 exact er0
theorem Eb.ok {K : Nat} {r : Bool} (h : Eb K = some r) : PCall V P 9 [] (.B r) := ECall.pcall (eo (fn := Tryz.f9) (n := 61) (m := 100) fun Γ => Eb.body h) (by kernel_rfl)
def En (K : Nat) : Option (List (List UInt8)) := some ([([97, 110, 100] : List UInt8), ([97, 119, 97, 105, 116] : List UInt8), ([99, 97, 115, 101] : List UInt8), ([99, 97, 116, 99, 104] : List UInt8), ([99, 104, 101, 99, 107] : List UInt8), ([101, 108, 115, 101] : List UInt8), ([102, 97, 108, 115, 101] : List UInt8), ([102, 117, 110, 99] : List UInt8), ([103, 111] : List UInt8), ([105, 102] : List UInt8), ([108, 101, 116] : List UInt8), ([110, 111, 116] : List UInt8), ([110, 117, 108, 108] : List UInt8), ([111, 110] : List UInt8), ([111, 114] : List UInt8), ([113, 117, 101, 114, 121] : List UInt8), ([114, 101, 116, 117, 114, 110] : List UInt8), ([115, 97, 103, 97] : List UInt8), ([115, 101, 108, 101, 99, 116] : List UInt8), ([115, 105, 103, 110, 97, 108] : List UInt8), ([116, 104, 114, 111, 119] : List UInt8), ([116, 114, 117, 101] : List UInt8), ([116, 114, 121] : List UInt8), ([117, 110, 100, 111] : List UInt8), ([117, 112, 100, 97, 116, 101] : List UInt8), ([118, 97, 114] : List UInt8), ([119, 104, 105, 108, 101] : List UInt8)] : List (List UInt8))
theorem En.body {Γ : Ent} {K : Nat} {r : List (List UInt8)} (h : En K = some r) : AWp V P 2 100 Γ (Tryz.f123.body.getD .skip) (EndsE P V Tryz.f123 (.cv (.ro .Dg r)) []) ⟨args0 0 [], []⟩ := by
 unfold En at h
 refine sg0 L 200 <| sg0 L 202 <| awp_ret ?_
 cases h
 exact er0
theorem En.ok {K : Nat} {r : List (List UInt8)} (h : En K = some r) : PCall V P 123 [] (.cv (.ro .Dg r)) := ECall.pcall (eo (fn := Tryz.f123) (n := 2) (m := 100) fun Γ => En.body h) (by kernel_rfl)
def D0.l7 (K : Nat) (p0 : List UInt8) (a1 : List (List UInt8)) : Nat → Int → Option (Out Bool Unit)
 | 0, _ => none
 | k + 1, xt7_7h => (if xt7_7h < (a1.length : Int) then (if (0 : Int) ≤ xt7_7h ∧ (xt7_7h : Int) < (a1.length : Int) then (if (a1.getD (Int.toNat xt7_7h) ([] : List UInt8)) = p0 then some (Out.done true) else D0.l7 K p0 a1 k (IntKind.i64.wrap (xt7_7h + 1))) else none) else some (Out.go ()))
def D0 (K : Nat) (p0 : List UInt8) : Option Bool := (Option.bind (En K) (fun a1 => (obind (D0.l7 K p0 a1 K 0 : Option (Out Bool Unit)) (fun r => r) (fun _ => some false))))
theorem D0.body {Γ : Ent} {K : Nat} {p0 : List UInt8} {r : Bool} (h : D0 K p0 = some r) : AWp V P 15 100 Γ (Tryz.f95.body.getD .skip) (EndsE P V Tryz.f95 (.B r) []) ⟨args0 0 [.cv (.str p0)], []⟩ := by
 unfold D0 at h
 refine sg0 L 200 <| awp_seq <| awp_seq ?_
 obtain ⟨a1, h1, h⟩ := bind_some h
 refine rg L 202 [] [(0, .cv (.ro .Dg a1))] [] (plt (En.ok h1)) ?_
 refine awp_block <| kp (S' := ⟨[(0, .cv (.str p0)), (5, .cv (.ro .Dg a1)), (6, .I (a1.length : Int)), (7, .I 0)], []⟩) ?_
 obtain ⟨o1, hp1, h⟩ := obind_some h
 refine awp_conseq (Q' := fun e S => (e = .exit 0 ∧ S = ⟨[], []⟩ ∧ Out.go () = o1) ∨ (e = .ret ∧ ∃ a, Out.done a = o1 ∧ EndsE P V Tryz.f95 (.B a) [] .ret S)) (awp_loop (fun k S => ∃ xt7_7h : Int, S = ⟨[(0, .cv (.str p0)), (5, .cv (.ro .Dg a1)), (6, .I (a1.length : Int)), (7, .I xt7_7h)], []⟩ ∧ D0.l7 K p0 a1 k xt7_7h = some o1) ?_ ⟨_, rfl, hp1⟩) ?_
 ·clear h hp1
  intro k S hS
  obtain ⟨xt7_7h, rfl, h⟩ := hS
  cases k with
  | zero => cases h
  | succ k =>
  unfold D0.l7 at h
  refine sg0 L 206 <| awp_seq ?_
  rcases ite_some h with ⟨c1, h⟩ | ⟨c1, h⟩
  ·refine tT c1 <| awp_skip' <| awp_seq <| awp_block <| awp_seq ?_
   obtain ⟨g1, h⟩ := guard_some h
   refine rg L 208 [] [] [] (pl2 g1.1 g1.2) ?_
   refine sg0 L 212 ?_
   rcases ite_some h with ⟨c2, h⟩ | ⟨c2, h⟩
   ·refine tT c2 <| sg0 L 216 <| awp_ret ?_
    cases h
    exact .inr ⟨rfl, _, rfl, er0⟩
   refine fF c2 <| awp_skip' <| ar0 L 218 [] [] [] (S' := ⟨[(0, .cv (.str p0)), (5, .cv (.ro .Dg a1)), (6, .I (a1.length : Int)), (7, .I (IntKind.i64.wrap (xt7_7h + 1)))], []⟩) ?_
   exact ⟨k, Nat.lt_succ_self k, _, rfl, h⟩
  refine fF c1 <| ex (S' := ⟨[], []⟩) ?_
  cases h
  exact .inl ⟨rfl, rfl, rfl⟩
 ·rintro e S (⟨rfl, rfl, rfl⟩ | ⟨rfl, a, rfl, hr⟩)
  ·rcases h with ⟨_, e1, h⟩ | ⟨_, e1, h⟩
   ·cases e1
   ·have e2 := Out.go.inj e1
    subst e2
    refine ⟨_, Turns.refl, ?_⟩
    refine sg0 L 221 <| awp_ret ?_
    cases h
    exact er0
  ·rcases h with ⟨_, e1, h⟩ | ⟨_, e1, h⟩
   ·have e2 := Out.done.inj e1
    subst e2
    subst h
    exact ⟨_, Turns.refl, hr⟩
   ·cases e1
theorem D0.ok {K : Nat} {p0 : List UInt8} {r : Bool} (h : D0 K p0 = some r) : PCall V P 95 [.cv (.str p0)] (.B r) := ECall.pcall (eo (fn := Tryz.f95) (n := 15) (m := 100) fun Γ => D0.body h) (by kernel_rfl)
def C6 (K : Nat) (p0 : Ad) (p1 : Int) : Option Bool := (if p0.bad = true then some false else (if (0 : Int) ≤ p0.at_ ∧ (p0.at_ : Int) < (p0.l.length : Int) then some (decide ((p0.l.getD (Int.toNat p0.at_) D2).Kind = p1)) else none))
theorem C6.body {Γ : Ent} {K : Nat} {p0 : Ad} {p1 : Int} {r : Bool} (h : C6 K p0 p1 = some r) : AWp V P 25 100 Γ (Tryz.f55.body.getD .skip) (EndsE P V Tryz.f55 (.B r) []) ⟨args0 0 [.cv (.pcs (Ac p0) 0), .I p1], []⟩ := by
 unfold C6 at h
 refine sg0 L 200 <| awp_seq ?_
 rcases ite_some h with ⟨c1, h⟩ | ⟨c1, h⟩
 ·refine rd L mixed 202 [(5, false)] [] [] [] 21 (pl1 (show (!p0.bad) = false from congrArg Bool.not (c1))) ?_
  refine awp_ret ?_
  cases h
  exact er0
 obtain ⟨g1, h⟩ := guard_some h
 refine rd L mixed 202 [(5, true)] [] [] [] 21 (plc (show (!p0.bad) = true from congrArg Bool.not (eq_false_of_ne_true c1)) (plc g1.1 (pl1 g1.2))) ?_
 refine awp_ret ?_
 cases h
 exact er0
theorem C6.ok {K : Nat} {p0 : Ad} {p1 : Int} {r : Bool} (h : C6 K p0 p1 = some r) : PCall V P 55 [.cv (.pcs (Ac p0) 0), .I p1] (.B r) := ECall.pcall (eo (fn := Tryz.f55) (n := 25) (m := 100) fun Γ => C6.body h) (by kernel_rfl)
def C9 (K : Nat) (p0 : Ad) (p1 : List UInt8) : Option Bool := (if (0 : Int) ≤ p0.at_ ∧ (p0.at_ : Int) < (p0.l.length : Int) then (if p0.bad = true then some false else (if (p0.l.getD (Int.toNat p0.at_) D2).Kind = 5 then some (decide ((p0.l.getD (Int.toNat p0.at_) D2).Text = p1)) else (if (p0.l.getD (Int.toNat p0.at_) D2).Kind = 2 then some (decide ((p0.l.getD (Int.toNat p0.at_) D2).Text = p1)) else some false))) else none)
theorem C9.body {Γ : Ent} {K : Nat} {p0 : Ad} {p1 : List UInt8} {r : Bool} (h : C9 K p0 p1 = some r) : AWp V P 37 100 Γ (Tryz.f114.body.getD .skip) (EndsE P V Tryz.f114 (.B r) []) ⟨args0 0 [.cv (.pcs (Ac p0) 0), .cv (.str p1)], []⟩ := by
 unfold C9 at h
 refine sg0 L 200 <| awp_seq ?_
 obtain ⟨g1, h⟩ := guard_some h
 refine rd L mixed 202 [] [] [] [212] 12 (pl2 g1.1 g1.2) ?_
 refine awp_seq ?_
 rcases ite_some h with ⟨c1, h⟩ | ⟨c1, h⟩
 ·refine rg L 215 [(5, false)] [] [] (pl1 (show (!p0.bad) = false from congrArg Bool.not (c1))) ?_
  refine awp_ret ?_
  cases h
  exact er0
 rcases ite_some h with ⟨c2, h⟩ | ⟨c2, h⟩
 ·refine rg L 215 [(5, true), (9, true)] [] [] (pl2 (show (!p0.bad) = true from congrArg Bool.not (eq_false_of_ne_true c1)) (decide_eq_true c2)) ?_
  refine awp_ret ?_
  cases h
  exact er0
 rcases ite_some h with ⟨c3, h⟩ | ⟨c3, h⟩
 ·refine rg L 215 [(5, true), (9, false), (15, true)] [] [] (plc (show (!p0.bad) = true from congrArg Bool.not (eq_false_of_ne_true c1)) (plc (decide_eq_false c2) (pl1 (decide_eq_true c3)))) ?_
  refine awp_ret ?_
  cases h
  exact er0
 refine rg L 215 [(5, true), (9, false), (15, false)] [] [] (plc (show (!p0.bad) = true from congrArg Bool.not (eq_false_of_ne_true c1)) (plc (decide_eq_false c2) (pl1 (decide_eq_false c3)))) ?_
 refine awp_ret ?_
 cases h
 exact er0
theorem C9.ok {K : Nat} {p0 : Ad} {p1 : List UInt8} {r : Bool} (h : C9 K p0 p1 = some r) : PCall V P 114 [.cv (.pcs (Ac p0) 0), .cv (.str p1)] (.B r) := ECall.pcall (eo (fn := Tryz.f114) (n := 37) (m := 100) fun Γ => C9.body h) (by kernel_rfl)
def Aj (K : Nat) (p0 : List UInt8) (p1 : Ad) : Option (Bool × Ad) := (Option.bind (C9 K p1 p0) (fun a1 => (if a1 = true then some (true, (⟨p1.l, (IntKind.i64.wrap (p1.at_ + 1)), p1.bad⟩ : Ad)) else some (false, p1))))
theorem Aj.body {Γ : Ent} {K : Nat} {p0 : List UInt8} {p1 : Ad} {r : Bool × Ad} (h : Aj K p0 p1 = some r) : AWp V P 16 100 Γ (Tryz.f80.body.getD .skip) (EndsE P V Tryz.f80 (.B r.1) [(0, .raw [.ro .Am r.2.l, .I r.2.at_, .B r.2.bad])]) ⟨args0 0 [.P 0, .cv (.str p0)], [(0, .raw (Ac p1))]⟩ := by
 unfold Aj at h
 refine sg0 L 200 <| awp_seq <| awp_seq ?_
 obtain ⟨a1, h1, h⟩ := bind_some h
 refine rg L 202 [] [(2, .B a1)] [] (plt (C9.ok h1)) ?_
 rcases ite_some h with ⟨c1, h⟩ | ⟨c1, h⟩
 ·refine ff (b := (!a1)) (congrArg Bool.not (c1)) ?_
  refine awp_skip' <| sg0 L 209 <| sg0 L 218 <| awp_ret ?_
  cases h
  exact er0
 refine tt (b := (!a1)) (congrArg Bool.not (eq_false_of_ne_true c1)) ?_
 refine sg0 L 207 <| awp_ret ?_
 cases h
 exact er0
theorem Aj.okE {K : Nat} {p0 : List UInt8} {p1 : Ad} {r : Bool × Ad} (h : Aj K p0 p1 = some r) : ECall V P 80 [.P 0, .cv (.str p0)] [(0, .raw (Ac p1))] [0] (.B r.1) [(0, .raw [.ro .Am r.2.l, .I r.2.at_, .B r.2.bad])] :=
 eo (fn := Tryz.f80) (n := 16) (m := 100) fun Γ => Aj.body h
def Cp (K : Nat) (p0 : Ad) : Option ((List UInt8) × Ad) := (Option.bind (C6 K p0 1) (fun a1 => (if a1 = true then (if (0 : Int) ≤ (IntKind.i64.wrap ((IntKind.i64.wrap (p0.at_ + 1)) - 1)) ∧ ((IntKind.i64.wrap ((IntKind.i64.wrap (p0.at_ + 1)) - 1)) : Int) < (p0.l.length : Int) then some ((((p0.l.getD (Int.toNat (IntKind.i64.wrap ((IntKind.i64.wrap (p0.at_ + 1)) - 1))) D2)).Text, (⟨p0.l, (IntKind.i64.wrap (p0.at_ + 1)), p0.bad⟩ : Ad))) else none) else some (([] : List UInt8), (⟨p0.l, p0.at_, true⟩ : Ad)))))
theorem Cp.body {Γ : Ent} {K : Nat} {p0 : Ad} {r : (List UInt8) × Ad} (h : Cp K p0 = some r) : AWp V P 28 100 Γ (Tryz.f81.body.getD .skip) (EndsE P V Tryz.f81 (.cv (.str r.1)) [(0, .raw [.ro .Am r.2.l, .I r.2.at_, .B r.2.bad])]) ⟨args0 0 [.P 0], [(0, .raw (Ac p0))]⟩ := by
 unfold Cp at h
 refine sg0 L 200 <| awp_seq <| awp_seq ?_
 obtain ⟨a1, h1, h⟩ := bind_some h
 refine rg L 202 [] [(1, .B a1)] [] (plt (C6.ok h1)) ?_
 rcases ite_some h with ⟨c1, h⟩ | ⟨c1, h⟩
 ·refine ff (b := (!a1)) (congrArg Bool.not (c1)) ?_
  refine awp_skip' <| sg0 L 213 <| awp_seq ?_
  obtain ⟨g1, h⟩ := guard_some h
  refine rd L mixed 222 [] [] [] [] 13 (pl2 g1.1 g1.2) ?_
  refine awp_ret ?_
  cases h
  exact er0
 refine tt (b := (!a1)) (congrArg Bool.not (eq_false_of_ne_true c1)) ?_
 refine sg0 L 206 <| sg0 L 211 <| awp_ret ?_
 cases h
 exact er0
theorem Cp.okE {K : Nat} {p0 : Ad} {r : (List UInt8) × Ad} (h : Cp K p0 = some r) : ECall V P 81 [.P 0] [(0, .raw (Ac p0))] [0] (.cv (.str r.1)) [(0, .raw [.ro .Am r.2.l, .I r.2.at_, .B r.2.bad])] :=
 eo (fn := Tryz.f81) (n := 28) (m := 100) fun Γ => Cp.body h
def A1 (K : Nat) (p0 : List UInt8) (p1 : Ad) : Option Ad := (Option.bind (Aj K p0 p1) (fun (a1_0, a1_1) => (if a1_0 = true then some a1_1 else some (⟨a1_1.l, a1_1.at_, true⟩ : Ad))))
theorem A1.body {Γ : Ent} {K : Nat} {p0 : List UInt8} {p1 : Ad} {r : Ad} (h : A1 K p0 p1 = some r) : AWp V P 11 100 Γ (Tryz.f82.body.getD .skip) (EndsE P V Tryz.f82 (.tup []) [(0, .raw [.ro .Am r.l, .I r.at_, .B r.bad])]) ⟨args0 0 [.P 0, .cv (.str p0)], [(0, .raw (Ac p1))]⟩ := by
 unfold A1 at h
 refine awp_seq ?_
 obtain ⟨⟨a1_0, a1_1⟩, h1, h⟩ := bind_some h
 dsimp only at h
 refine rg L 200 [] [] [(2, (ef0 (.B a1_0) [(0, .raw (Ac a1_1))]))] (pl1 (Aj.okE h1)) ?_
 rcases ite_some h with ⟨c1, h⟩ | ⟨c1, h⟩
 ·refine ff (b := (!a1_0)) (congrArg Bool.not (c1)) ?_
  refine sk (S' := ⟨[], [(0, .raw (Ac a1_1))]⟩) ?_
  cases h
  exact en0
 refine tt (b := (!a1_0)) (congrArg Bool.not (eq_false_of_ne_true c1)) ?_
 refine ar0 L 205 [] [] [] (S' := ⟨[], [(0, .raw [.ro .Am a1_1.l, .I a1_1.at_, .B true])]⟩) ?_
 cases h
 exact en0
theorem A1.okE {K : Nat} {p0 : List UInt8} {p1 : Ad} {r : Ad} (h : A1 K p0 p1 = some r) : ECall V P 82 [.P 0, .cv (.str p0)] [(0, .raw (Ac p1))] [0] (.tup []) [(0, .raw [.ro .Am r.l, .I r.at_, .B r.bad])] :=
 eo (fn := Tryz.f82) (n := 11) (m := 100) fun Γ => A1.body h
def Cr (K : Nat) (p0 : Int) (p1 : Aa) : Option Aa := some (⟨p0, [], 0, [], ([(⟨p1.Op, p1.Name, p1.Int, p1.Text, p1.Kids⟩ : Aa)] : List Aa)⟩ : Aa)
theorem Cr.body {Γ : Ent} {K : Nat} {p0 : Int} {p1 : Aa} {r : Aa} (h : Cr K p0 p1 = some r) : AWp V P 9 100 Γ (Tryz.f83.body.getD .skip) (EndsE P V Tryz.f83 (.agg [.I r.Op, .str r.Name, .I r.Int, .str r.Text, .ro .Ae r.Kids]) []) ⟨args0 0 [.I p0, .agg (Ag p1)], []⟩ := by
 unfold Cr at h
 refine sg0 L 200 <| sg0 L 203 <| awp_turn (Turns.trans (Turns.kk [4] [201]) (Turns.rr [(201, 100)])) ?_
 refine awp_ret ?_
 cases h
 exact er0
theorem Cr.ok {K : Nat} {p0 : Int} {p1 : Aa} {r : Aa} (h : Cr K p0 p1 = some r) : PCall V P 83 [.I p0, .agg (Ag p1)] (.agg [.I r.Op, .str r.Name, .I r.Int, .str r.Text, .ro .Ae r.Kids]) := ECall.pcall (eo (fn := Tryz.f83) (n := 9) (m := 100) fun Γ => Cr.body h) (by kernel_rfl)
def A2 (K : Nat) (p0 : Int) (p1 : Aa) (p2 : Aa) : Option Aa := some (⟨p0, [], 0, [], ([(⟨p1.Op, p1.Name, p1.Int, p1.Text, p1.Kids⟩ : Aa), (⟨p2.Op, p2.Name, p2.Int, p2.Text, p2.Kids⟩ : Aa)] : List Aa)⟩ : Aa)
theorem A2.body {Γ : Ent} {K : Nat} {p0 : Int} {p1 : Aa} {p2 : Aa} {r : Aa} (h : A2 K p0 p1 p2 = some r) : AWp V P 12 100 Γ (Tryz.f89.body.getD .skip) (EndsE P V Tryz.f89 (.agg [.I r.Op, .str r.Name, .I r.Int, .str r.Text, .ro .Ae r.Kids]) []) ⟨args0 0 [.I p0, .agg (Ag p1), .agg (Ag p2)], []⟩ := by
 unfold A2 at h
 refine sg0 L 200 <| sg0 L 204 <| awp_turn (Turns.trans (Turns.kk [6] [202]) (Turns.rr [(202, 100)])) ?_
 refine awp_ret ?_
 cases h
 exact er0
theorem A2.ok {K : Nat} {p0 : Int} {p1 : Aa} {p2 : Aa} {r : Aa} (h : A2 K p0 p1 p2 = some r) : PCall V P 89 [.I p0, .agg (Ag p1), .agg (Ag p2)] (.agg [.I r.Op, .str r.Name, .I r.Int, .str r.Text, .ro .Ae r.Kids]) := ECall.pcall (eo (fn := Tryz.f89) (n := 12) (m := 100) fun Γ => A2.body h) (by kernel_rfl)
structure Ai where
 A4 : Ad → Option (Aa × Ad)
 A8 : Ad → Option (Aa × Ad)
 A9 : Ad → Option (Aa × Ad)
 Be : Ad → Option (Aa × Ad)
 Bt : Ad → Option (Aa × Ad)
 Av : Ad → Option (Aa × Ad)
 Bg : (List UInt8) → Ad → Option ((List Aa) × Ad)
 B1 : Ad → Option ((List Aa) × Ad)
 Ct : Ad → Option (Aa × Ad)
structure Ai.Ok (R : Ai) : Prop where
 A4 : ∀ {p0 : Ad} {r : Aa × Ad}, R.A4 p0 = some r → ECall V P 153 [.P 0] [(0, .raw (Ac p0))] [0] (.agg [.I r.1.Op, .str r.1.Name, .I r.1.Int, .str r.1.Text, .ro .Ae r.1.Kids]) [(0, .raw [.ro .Am r.2.l, .I r.2.at_, .B r.2.bad])]
 A8 : ∀ {p0 : Ad} {r : Aa × Ad}, R.A8 p0 = some r → ECall V P 144 [.P 0] [(0, .raw (Ac p0))] [0] (.agg [.I r.1.Op, .str r.1.Name, .I r.1.Int, .str r.1.Text, .ro .Ae r.1.Kids]) [(0, .raw [.ro .Am r.2.l, .I r.2.at_, .B r.2.bad])]
 A9 : ∀ {p0 : Ad} {r : Aa × Ad}, R.A9 p0 = some r → ECall V P 132 [.P 0] [(0, .raw (Ac p0))] [0] (.agg [.I r.1.Op, .str r.1.Name, .I r.1.Int, .str r.1.Text, .ro .Ae r.1.Kids]) [(0, .raw [.ro .Am r.2.l, .I r.2.at_, .B r.2.bad])]
 Be : ∀ {p0 : Ad} {r : Aa × Ad}, R.Be p0 = some r → ECall V P 117 [.P 0] [(0, .raw (Ac p0))] [0] (.agg [.I r.1.Op, .str r.1.Name, .I r.1.Int, .str r.1.Text, .ro .Ae r.1.Kids]) [(0, .raw [.ro .Am r.2.l, .I r.2.at_, .B r.2.bad])]
 Bt : ∀ {p0 : Ad} {r : Aa × Ad}, R.Bt p0 = some r → ECall V P 88 [.P 0] [(0, .raw (Ac p0))] [0] (.agg [.I r.1.Op, .str r.1.Name, .I r.1.Int, .str r.1.Text, .ro .Ae r.1.Kids]) [(0, .raw [.ro .Am r.2.l, .I r.2.at_, .B r.2.bad])]
 Av : ∀ {p0 : Ad} {r : Aa × Ad}, R.Av p0 = some r → ECall V P 54 [.P 0] [(0, .raw (Ac p0))] [0] (.agg [.I r.1.Op, .str r.1.Name, .I r.1.Int, .str r.1.Text, .ro .Ae r.1.Kids]) [(0, .raw [.ro .Am r.2.l, .I r.2.at_, .B r.2.bad])]
 Bg : ∀ {p0 : List UInt8} {p1 : Ad} {r : (List Aa) × Ad}, R.Bg p0 p1 = some r → ECall V P 129 [.P 0, .cv (.str p0)] [(0, .raw (Ac p1))] [0] (.cv (.ro .Ae r.1)) [(0, .raw [.ro .Am r.2.l, .I r.2.at_, .B r.2.bad])]
 B1 : ∀ {p0 : Ad} {r : (List Aa) × Ad}, R.B1 p0 = some r → ECall V P 130 [.P 0] [(0, .raw (Ac p0))] [0] (.cv (.ro .Ae r.1)) [(0, .raw [.ro .Am r.2.l, .I r.2.at_, .B r.2.bad])]
 Ct : ∀ {p0 : Ad} {r : Aa × Ad}, R.Ct p0 = some r → ECall V P 115 [.P 0] [(0, .raw (Ac p0))] [0] (.agg [.I r.1.Op, .str r.1.Name, .I r.1.Int, .str r.1.Text, .ro .Ae r.1.Kids]) [(0, .raw [.ro .Am r.2.l, .I r.2.at_, .B r.2.bad])]
def A4.l34 (K : Nat) (R : Ai) : Nat → (List As) → Int → Bool → Int → (List UInt8) → Int → (List UInt8) → (List Aa) → Option (Out (Aa × Ad) Unit)
 | 0, _, _, _, _, _, _, _, _ => none
 | k + 1, xh0_0_34h, xh0_1_34h, xh0_2_34h, x26901_0, x26901_1, x26901_2, x26901_3, x26901_4 => (Option.bind (Aj K ([46] : List UInt8) (⟨xh0_0_34h, xh0_1_34h, xh0_2_34h⟩ : Ad)) (fun (a12_0, a12_1) => (if a12_0 = true then (Option.bind (Cr K 29 (⟨x26901_0, x26901_1, x26901_2, x26901_3, x26901_4⟩ : Aa)) (fun a13 => (Option.bind (Cp K a12_1) (fun (a14_0, a14_1) => A4.l34 K R k a14_1.l a14_1.at_ a14_1.bad a13.Op a14_0 a13.Int a13.Text a13.Kids)))) else (Option.bind (Aj K ([91] : List UInt8) a12_1) (fun (a15_0, a15_1) => (if a15_0 = true then (Option.bind (R.Av a15_1) (fun (a16_0, a16_1) => (Option.bind (A2 K 28 (⟨x26901_0, x26901_1, x26901_2, x26901_3, x26901_4⟩ : Aa) a16_0) (fun a17 => (Option.bind (A1 K ([93] : List UInt8) a16_1) (fun a18 => A4.l34 K R k a18.l a18.at_ a18.bad a17.Op a17.Name a17.Int a17.Text a17.Kids)))))) else some (Out.done ((⟨x26901_0, x26901_1, x26901_2, x26901_3, x26901_4⟩ : Aa), a15_1))))))))
def A4.F (K : Nat) (R : Ai) (p0 : Ad) : Option (Aa × Ad) := (Option.bind (Aj K ([45] : List UInt8) p0) (fun (a1_0, a1_1) => (if a1_0 = true then (Option.bind (R.A4 a1_1) (fun (a2_0, a2_1) => (Option.bind (Cr K 14 a2_0) (fun a3 => some (a3, a2_1))))) else (Option.bind (Aj K ([97, 119, 97, 105, 116] : List UInt8) a1_1) (fun (a4_0, a4_1) => (if a4_0 = true then (Option.bind (R.A4 a4_1) (fun (a5_0, a5_1) => (Option.bind (Cr K 12 a5_0) (fun a6 => some (a6, a5_1))))) else (Option.bind (Aj K ([103, 111] : List UInt8) a4_1) (fun (a7_0, a7_1) => (if a7_0 = true then (Option.bind (Cp K a7_1) (fun (a8_0, a8_1) => (Option.bind (A1 K ([40] : List UInt8) a8_1) (fun a9 => (Option.bind (R.Bg ([41] : List UInt8) a9) (fun (a10_0, a10_1) => some ((⟨11, a8_0, 0, [], a10_0⟩ : Aa), a10_1))))))) else (Option.bind (R.Ct a7_1) (fun (a11_0, a11_1) => (obind (A4.l34 K R K a11_1.l a11_1.at_ a11_1.bad a11_0.Op a11_0.Name a11_0.Int a11_0.Text a11_0.Kids : Option (Out (Aa × Ad) Unit)) (fun r => r) (fun _ => none)))))))))))))
theorem A4.body {Γ : Ent} {K : Nat} {R : Ai} (hR : R.Ok) {p0 : Ad} {r : Aa × Ad} (h : A4.F K R p0 = some r) : AWp V P 43 100 Γ (Tryz.f153.body.getD .skip) (EndsE P V Tryz.f153 (.agg [.I r.1.Op, .str r.1.Name, .I r.1.Int, .str r.1.Text, .ro .Ae r.1.Kids]) [(0, .raw [.ro .Am r.2.l, .I r.2.at_, .B r.2.bad])]) ⟨args0 0 [.P 0], [(0, .raw (Ac p0))]⟩ := by
 unfold A4.F at h
 refine sg0 L 200 <| awp_seq <| awp_seq ?_
 obtain ⟨⟨a1_0, a1_1⟩, h1, h⟩ := bind_some h
 dsimp only at h
 refine rg L 202 [] [] [(1, (ef0 (.B a1_0) [(0, .raw (Ac a1_1))]))] (pl1 (Aj.okE h1)) ?_
 rcases ite_some h with ⟨c1, h⟩ | ⟨c1, h⟩
 ·refine tt c1 <| awp_seq ?_
  obtain ⟨⟨a2_0, a2_1⟩, h2, h⟩ := bind_some h
  dsimp only at h
  obtain ⟨a3, h3, h⟩ := bind_some h
  refine rg L 205 [] [(2, .agg (Ag a3))] [(1, (ef0 (.agg (Ag a2_0)) [(0, .raw (Ac a2_1))]))] (plc (hR.A4 h2) (plc (Cr.ok h3) (pl1 trivial))) ?_
  refine awp_turn (Turns.trans (Turns.kk [2] [0, 200]) (Turns.rr [(0, 0), (200, 100)])) ?_
  refine awp_ret ?_
  cases h
  exact er0
 refine fN c1 <| awp_skip' <| awp_seq <| awp_seq ?_
 obtain ⟨⟨a4_0, a4_1⟩, h4, h⟩ := bind_some h
 dsimp only at h
 refine rg L 210 [] [] [(1, (ef0 (.B a4_0) [(0, .raw (Ac a4_1))]))] (pl1 (Aj.okE h4)) ?_
 rcases ite_some h with ⟨c2, h⟩ | ⟨c2, h⟩
 ·refine tt c2 <| awp_seq ?_
  obtain ⟨⟨a5_0, a5_1⟩, h5, h⟩ := bind_some h
  dsimp only at h
  obtain ⟨a6, h6, h⟩ := bind_some h
  refine rg L 213 [] [(2, .agg (Ag a6))] [(1, (ef0 (.agg (Ag a5_0)) [(0, .raw (Ac a5_1))]))] (plc (hR.A4 h5) (plc (Cr.ok h6) (pl1 trivial))) ?_
  refine awp_turn (Turns.trans (Turns.kk [2] [0, 200]) (Turns.rr [(0, 0), (200, 100)])) ?_
  refine awp_ret ?_
  cases h
  exact er0
 refine fN c2 <| awp_skip' <| awp_seq <| awp_seq ?_
 obtain ⟨⟨a7_0, a7_1⟩, h7, h⟩ := bind_some h
 dsimp only at h
 refine rg L 218 [] [] [(1, (ef0 (.B a7_0) [(0, .raw (Ac a7_1))]))] (pl1 (Aj.okE h7)) ?_
 rcases ite_some h with ⟨c3, h⟩ | ⟨c3, h⟩
 ·refine tt c3 <| awp_seq ?_
  obtain ⟨⟨a8_0, a8_1⟩, h8, h⟩ := bind_some h
  dsimp only at h
  refine rg L 221 [] [] [(1, (ef0 (.cv (.str a8_0)) [(0, .raw (Ac a8_1))]))] (pl1 (Cp.okE h8)) ?_
  refine awp_seq ?_
  obtain ⟨a9, h9, h⟩ := bind_some h
  refine rg L 225 [] [] [(1, (ef0 (.tup []) [(0, .raw (Ac a9))]))] (pl1 (A1.okE h9)) ?_
  refine awp_seq ?_
  obtain ⟨⟨a10_0, a10_1⟩, h10, h⟩ := bind_some h
  dsimp only at h
  refine rg L 228 [] [] [(2, (ef0 (.cv (.ro .Ae a10_0)) [(0, .raw (Ac a10_1))]))] (pl1 (hR.Bg h10)) ?_
  refine awp_turn (Turns.trans (Turns.kk [2] [0, 200]) (Turns.rr [(0, 0), (200, 100)])) ?_
  refine awp_ret ?_
  cases h
  exact er0
 refine fN c3 <| awp_skip' <| awp_seq ?_
 obtain ⟨⟨a11_0, a11_1⟩, h11, h⟩ := bind_some h
 dsimp only at h
 refine rg L 234 [] [] [(1, (ef0 (.agg (Ag a11_0)) [(0, .raw (Ac a11_1))]))] (pl1 (hR.Ct h11)) ?_
 refine awp_block <| awp_turn (Turns.trans (Turns.kk [0, 2, 4] [0, 200, 236]) (Turns.rr [(0, 0), (200, 26900), (236, 26901)])) ?_
 refine kp (S' := ⟨[(0, .P 0), (2, .P 26900), (4, .P 26901)], [(0, .raw (Ac a11_1)), (26900, .raw [.I 0, .str [], .I 0, .str [], .N]), (26901, .raw (Ag a11_0))]⟩) ?_
 obtain ⟨o1, hp1, h⟩ := obind_some h
 refine awp_conseq (Q' := fun e S => False ∨ (e = .ret ∧ ∃ a, Out.done a = o1 ∧ EndsE P V Tryz.f153 (.agg [.I a.1.Op, .str a.1.Name, .I a.1.Int, .str a.1.Text, .ro .Ae a.1.Kids]) [(0, .raw [.ro .Am a.2.l, .I a.2.at_, .B a.2.bad])] .ret S)) (awp_loop (fun k S => ∃ xh0_0_34h : List As, ∃ xh0_1_34h : Int, ∃ xh0_2_34h : Bool, ∃ x26901_0 : Int, ∃ x26901_1 : List UInt8, ∃ x26901_2 : Int, ∃ x26901_3 : List UInt8, ∃ x26901_4 : List Aa, S = ⟨[(0, .P 0), (2, .P 26900), (4, .P 26901)], [(0, .raw [.ro .Am xh0_0_34h, .I xh0_1_34h, .B xh0_2_34h]), (26900, .raw [.I 0, .str [], .I 0, .str [], .N]), (26901, .raw [.I x26901_0, .str x26901_1, .I x26901_2, .str x26901_3, .ro .Ae x26901_4])]⟩ ∧ A4.l34 K R k xh0_0_34h xh0_1_34h xh0_2_34h x26901_0 x26901_1 x26901_2 x26901_3 x26901_4 = some o1) ?_ ⟨_, _, _, _, _, _, _, _, rfl, hp1⟩) ?_
 ·clear h hp1
  intro k S hS
  obtain ⟨xh0_0_34h, xh0_1_34h, xh0_2_34h, x26901_0, x26901_1, x26901_2, x26901_3, x26901_4, rfl, h⟩ := hS
  cases k with
  | zero => cases h
  | succ k =>
  unfold A4.l34 at h
  refine awp_block <| awp_seq ?_
  obtain ⟨⟨a12_0, a12_1⟩, h12, h⟩ := bind_some h
  dsimp only at h
  refine rg L 239 [] [] [(1, (ef0 (.B a12_0) [(0, .raw (Ac a12_1))]))] (pl1 (Aj.okE h12)) ?_
  rcases ite_some h with ⟨c4, h⟩ | ⟨c4, h⟩
  ·refine tt c4 <| awp_seq ?_
   obtain ⟨a13, h13, h⟩ := bind_some h
   refine rg L 242 [] [(1, .agg (Ag a13))] [] (plt (Cr.ok h13)) ?_
   obtain ⟨⟨a14_0, a14_1⟩, h14, h⟩ := bind_some h
   dsimp only at h
   refine ar L 246 [] [] [(1, (ef0 (.cv (.str a14_0)) [(0, .raw (Ac a14_1))]))] (cs := [ECall V P 81 [.P 0] [(0, .raw (Ac a12_1))] [0] (.cv (.str a14_0)) [(0, .raw (Ac a14_1))]]) (S' := ⟨[(0, .P 0), (2, .P 26900), (4, .P 26901)], [(0, .raw (Ac a14_1)), (26900, .raw [.I 0, .str [], .I 0, .str [], .N]), (26901, .raw [.I a13.Op, .str a14_0, .I a13.Int, .str a13.Text, .ro .Ae a13.Kids])]⟩) (Cp.okE h14) ?_
   exact ⟨k, Nat.lt_succ_self k, _, _, _, _, _, _, _, _, rfl, h⟩
  refine fN c4 <| awp_seq ?_
  obtain ⟨⟨a15_0, a15_1⟩, h15, h⟩ := bind_some h
  dsimp only at h
  refine rg L 251 [] [] [(1, (ef0 (.B a15_0) [(0, .raw (Ac a15_1))]))] (pl1 (Aj.okE h15)) ?_
  rcases ite_some h with ⟨c5, h⟩ | ⟨c5, h⟩
  ·refine tt c5 <| awp_seq ?_
   obtain ⟨⟨a16_0, a16_1⟩, h16, h⟩ := bind_some h
   dsimp only at h
   obtain ⟨a17, h17, h⟩ := bind_some h
   refine hB L mixed 254 [] [(3, .agg (Ag a17))] [(2, (ef0 (.agg (Ag a16_0)) [(0, .raw (Ac a16_1))]))] [1] 2 (plc (hR.Av h16) (plc (A2.ok h17) (plc trivial (plc (hR.Av h16) (plc (A2.ok h17) (pl1 trivial)))))) (S' := ⟨[(0, .P 0), (2, .P 26900), (4, .P 26901)], [(0, .raw (Ac a16_1)), (26900, .raw [.I 0, .str [], .I 0, .str [], .N]), (26901, .raw (Ag a17))]⟩) ?_
   obtain ⟨a18, h18, h⟩ := bind_some h
   refine ar L 260 [] [] [(1, (ef0 (.tup []) [(0, .raw (Ac a18))]))] (cs := [ECall V P 82 [.P 0, .cv (.str ([93] : List UInt8))] [(0, .raw (Ac a16_1))] [0] (.tup []) [(0, .raw (Ac a18))]]) (S' := ⟨[(0, .P 0), (2, .P 26900), (4, .P 26901)], [(0, .raw (Ac a18)), (26900, .raw [.I 0, .str [], .I 0, .str [], .N]), (26901, .raw (Ag a17))]⟩) (A1.okE h18) ?_
   exact ⟨k, Nat.lt_succ_self k, _, _, _, _, _, _, _, _, rfl, h⟩
  refine fN c5 <| sg0 L 263 <| awp_turn (Turns.trans (Turns.kk [2] [0, 26900]) (Turns.rr [(0, 0), (26900, 100)])) ?_
  refine awp_ret ?_
  cases h
  exact .inr ⟨rfl, _, rfl, er0⟩
 ·rintro e S (hf | ⟨rfl, a, rfl, hr⟩)
  ·exact hf.elim
  ·rcases h with ⟨_, e1, h⟩ | ⟨_, e1, h⟩
   ·have e2 := Out.done.inj e1
    subst e2
    subst h
    exact ⟨_, Turns.refl, hr⟩
   ·cases e1
def A8.l6 (K : Nat) (R : Ai) : Nat → (List As) → Int → Bool → Int → (List UInt8) → Int → (List UInt8) → (List Aa) → Option (Out (Aa × Ad) Unit)
 | 0, _, _, _, _, _, _, _, _ => none
 | k + 1, xh0_0_6h, xh0_1_6h, xh0_2_6h, x21301_0, x21301_1, x21301_2, x21301_3, x21301_4 => (Option.bind (Aj K ([42] : List UInt8) (⟨xh0_0_6h, xh0_1_6h, xh0_2_6h⟩ : Ad)) (fun (a2_0, a2_1) => (if a2_0 = true then (Option.bind (R.A4 a2_1) (fun (a3_0, a3_1) => (Option.bind (A2 K 15 (⟨x21301_0, x21301_1, x21301_2, x21301_3, x21301_4⟩ : Aa) a3_0) (fun a4 => A8.l6 K R k a3_1.l a3_1.at_ a3_1.bad a4.Op a4.Name a4.Int a4.Text a4.Kids)))) else (Option.bind (Aj K ([47] : List UInt8) a2_1) (fun (a5_0, a5_1) => (if a5_0 = true then (Option.bind (R.A4 a5_1) (fun (a6_0, a6_1) => (Option.bind (A2 K 16 (⟨x21301_0, x21301_1, x21301_2, x21301_3, x21301_4⟩ : Aa) a6_0) (fun a7 => A8.l6 K R k a6_1.l a6_1.at_ a6_1.bad a7.Op a7.Name a7.Int a7.Text a7.Kids)))) else (Option.bind (Aj K ([37] : List UInt8) a5_1) (fun (a8_0, a8_1) => (if a8_0 = true then (Option.bind (R.A4 a8_1) (fun (a9_0, a9_1) => (Option.bind (A2 K 17 (⟨x21301_0, x21301_1, x21301_2, x21301_3, x21301_4⟩ : Aa) a9_0) (fun a10 => A8.l6 K R k a9_1.l a9_1.at_ a9_1.bad a10.Op a10.Name a10.Int a10.Text a10.Kids)))) else some (Out.done ((⟨x21301_0, x21301_1, x21301_2, x21301_3, x21301_4⟩ : Aa), a8_1)))))))))))
def A8.F (K : Nat) (R : Ai) (p0 : Ad) : Option (Aa × Ad) := (Option.bind (R.A4 p0) (fun (a1_0, a1_1) => (obind (A8.l6 K R K a1_1.l a1_1.at_ a1_1.bad a1_0.Op a1_0.Name a1_0.Int a1_0.Text a1_0.Kids : Option (Out (Aa × Ad) Unit)) (fun r => r) (fun _ => none))))
theorem A8.body {Γ : Ent} {K : Nat} {R : Ai} (hR : R.Ok) {p0 : Ad} {r : Aa × Ad} (h : A8.F K R p0 = some r) : AWp V P 25 100 Γ (Tryz.f144.body.getD .skip) (EndsE P V Tryz.f144 (.agg [.I r.1.Op, .str r.1.Name, .I r.1.Int, .str r.1.Text, .ro .Ae r.1.Kids]) [(0, .raw [.ro .Am r.2.l, .I r.2.at_, .B r.2.bad])]) ⟨args0 0 [.P 0], [(0, .raw (Ac p0))]⟩ := by
 unfold A8.F at h
 refine sg0 L 200 <| awp_seq ?_
 obtain ⟨⟨a1_0, a1_1⟩, h1, h⟩ := bind_some h
 dsimp only at h
 refine rg L 202 [] [] [(1, (ef0 (.agg (Ag a1_0)) [(0, .raw (Ac a1_1))]))] (pl1 (hR.A4 h1)) ?_
 refine awp_block <| awp_turn (Turns.trans (Turns.kk [0, 2, 3] [0, 200, 204]) (Turns.rr [(0, 0), (200, 21300), (204, 21301)])) ?_
 refine kp (S' := ⟨[(0, .P 0), (2, .P 21300), (3, .P 21301)], [(0, .raw (Ac a1_1)), (21300, .raw [.I 0, .str [], .I 0, .str [], .N]), (21301, .raw (Ag a1_0))]⟩) ?_
 obtain ⟨o1, hp1, h⟩ := obind_some h
 refine awp_conseq (Q' := fun e S => False ∨ (e = .ret ∧ ∃ a, Out.done a = o1 ∧ EndsE P V Tryz.f144 (.agg [.I a.1.Op, .str a.1.Name, .I a.1.Int, .str a.1.Text, .ro .Ae a.1.Kids]) [(0, .raw [.ro .Am a.2.l, .I a.2.at_, .B a.2.bad])] .ret S)) (awp_loop (fun k S => ∃ xh0_0_6h : List As, ∃ xh0_1_6h : Int, ∃ xh0_2_6h : Bool, ∃ x21301_0 : Int, ∃ x21301_1 : List UInt8, ∃ x21301_2 : Int, ∃ x21301_3 : List UInt8, ∃ x21301_4 : List Aa, S = ⟨[(0, .P 0), (2, .P 21300), (3, .P 21301)], [(0, .raw [.ro .Am xh0_0_6h, .I xh0_1_6h, .B xh0_2_6h]), (21300, .raw [.I 0, .str [], .I 0, .str [], .N]), (21301, .raw [.I x21301_0, .str x21301_1, .I x21301_2, .str x21301_3, .ro .Ae x21301_4])]⟩ ∧ A8.l6 K R k xh0_0_6h xh0_1_6h xh0_2_6h x21301_0 x21301_1 x21301_2 x21301_3 x21301_4 = some o1) ?_ ⟨_, _, _, _, _, _, _, _, rfl, hp1⟩) ?_
 ·clear h hp1
  intro k S hS
  obtain ⟨xh0_0_6h, xh0_1_6h, xh0_2_6h, x21301_0, x21301_1, x21301_2, x21301_3, x21301_4, rfl, h⟩ := hS
  cases k with
  | zero => cases h
  | succ k =>
  unfold A8.l6 at h
  refine awp_block <| awp_seq ?_
  obtain ⟨⟨a2_0, a2_1⟩, h2, h⟩ := bind_some h
  dsimp only at h
  refine rg L 207 [] [] [(1, (ef0 (.B a2_0) [(0, .raw (Ac a2_1))]))] (pl1 (Aj.okE h2)) ?_
  rcases ite_some h with ⟨c1, h⟩ | ⟨c1, h⟩
  ·refine tt c1 ?_
   obtain ⟨⟨a3_0, a3_1⟩, h3, h⟩ := bind_some h
   dsimp only at h
   obtain ⟨a4, h4, h⟩ := bind_some h
   refine hB L mixed 210 [] [(3, .agg (Ag a4))] [(2, (ef0 (.agg (Ag a3_0)) [(0, .raw (Ac a3_1))]))] [1] 2 (plc (hR.A4 h3) (plc (A2.ok h4) (plc trivial (plc (hR.A4 h3) (plc (A2.ok h4) (pl1 trivial)))))) (S' := ⟨[(0, .P 0), (2, .P 21300), (3, .P 21301)], [(0, .raw (Ac a3_1)), (21300, .raw [.I 0, .str [], .I 0, .str [], .N]), (21301, .raw (Ag a4))]⟩) ?_
   exact ⟨k, Nat.lt_succ_self k, _, _, _, _, _, _, _, _, rfl, h⟩
  refine fN c1 <| awp_seq ?_
  obtain ⟨⟨a5_0, a5_1⟩, h5, h⟩ := bind_some h
  dsimp only at h
  refine rg L 216 [] [] [(1, (ef0 (.B a5_0) [(0, .raw (Ac a5_1))]))] (pl1 (Aj.okE h5)) ?_
  rcases ite_some h with ⟨c2, h⟩ | ⟨c2, h⟩
  ·refine tt c2 ?_
   obtain ⟨⟨a6_0, a6_1⟩, h6, h⟩ := bind_some h
   dsimp only at h
   obtain ⟨a7, h7, h⟩ := bind_some h
   refine hB L mixed 219 [] [(3, .agg (Ag a7))] [(2, (ef0 (.agg (Ag a6_0)) [(0, .raw (Ac a6_1))]))] [1] 2 (plc (hR.A4 h6) (plc (A2.ok h7) (plc trivial (plc (hR.A4 h6) (plc (A2.ok h7) (pl1 trivial)))))) (S' := ⟨[(0, .P 0), (2, .P 21300), (3, .P 21301)], [(0, .raw (Ac a6_1)), (21300, .raw [.I 0, .str [], .I 0, .str [], .N]), (21301, .raw (Ag a7))]⟩) ?_
   exact ⟨k, Nat.lt_succ_self k, _, _, _, _, _, _, _, _, rfl, h⟩
  refine fN c2 <| awp_seq ?_
  obtain ⟨⟨a8_0, a8_1⟩, h8, h⟩ := bind_some h
  dsimp only at h
  refine rg L 225 [] [] [(1, (ef0 (.B a8_0) [(0, .raw (Ac a8_1))]))] (pl1 (Aj.okE h8)) ?_
  rcases ite_some h with ⟨c3, h⟩ | ⟨c3, h⟩
  ·refine tt c3 ?_
   obtain ⟨⟨a9_0, a9_1⟩, h9, h⟩ := bind_some h
   dsimp only at h
   obtain ⟨a10, h10, h⟩ := bind_some h
   refine hB L mixed 228 [] [(3, .agg (Ag a10))] [(2, (ef0 (.agg (Ag a9_0)) [(0, .raw (Ac a9_1))]))] [1] 2 (plc (hR.A4 h9) (plc (A2.ok h10) (plc trivial (plc (hR.A4 h9) (plc (A2.ok h10) (pl1 trivial)))))) (S' := ⟨[(0, .P 0), (2, .P 21300), (3, .P 21301)], [(0, .raw (Ac a9_1)), (21300, .raw [.I 0, .str [], .I 0, .str [], .N]), (21301, .raw (Ag a10))]⟩) ?_
   exact ⟨k, Nat.lt_succ_self k, _, _, _, _, _, _, _, _, rfl, h⟩
  refine fN c3 <| sg0 L 234 <| awp_turn (Turns.trans (Turns.kk [2] [0, 21300]) (Turns.rr [(0, 0), (21300, 100)])) ?_
  refine awp_ret ?_
  cases h
  exact .inr ⟨rfl, _, rfl, er0⟩
 ·rintro e S (hf | ⟨rfl, a, rfl, hr⟩)
  ·exact hf.elim
  ·rcases h with ⟨_, e1, h⟩ | ⟨_, e1, h⟩
   ·have e2 := Out.done.inj e1
    subst e2
    subst h
    exact ⟨_, Turns.refl, hr⟩
   ·cases e1
def A9.l6 (K : Nat) (R : Ai) : Nat → (List As) → Int → Bool → Int → (List UInt8) → Int → (List UInt8) → (List Aa) → Option (Out (Aa × Ad) Unit)
 | 0, _, _, _, _, _, _, _, _ => none
 | k + 1, xh0_0_6h, xh0_1_6h, xh0_2_6h, x21301_0, x21301_1, x21301_2, x21301_3, x21301_4 => (Option.bind (Aj K ([43] : List UInt8) (⟨xh0_0_6h, xh0_1_6h, xh0_2_6h⟩ : Ad)) (fun (a2_0, a2_1) => (if a2_0 = true then (Option.bind (R.A8 a2_1) (fun (a3_0, a3_1) => (Option.bind (A2 K 18 (⟨x21301_0, x21301_1, x21301_2, x21301_3, x21301_4⟩ : Aa) a3_0) (fun a4 => A9.l6 K R k a3_1.l a3_1.at_ a3_1.bad a4.Op a4.Name a4.Int a4.Text a4.Kids)))) else (Option.bind (Aj K ([45] : List UInt8) a2_1) (fun (a5_0, a5_1) => (if a5_0 = true then (Option.bind (R.A8 a5_1) (fun (a6_0, a6_1) => (Option.bind (A2 K 19 (⟨x21301_0, x21301_1, x21301_2, x21301_3, x21301_4⟩ : Aa) a6_0) (fun a7 => A9.l6 K R k a6_1.l a6_1.at_ a6_1.bad a7.Op a7.Name a7.Int a7.Text a7.Kids)))) else some (Out.done ((⟨x21301_0, x21301_1, x21301_2, x21301_3, x21301_4⟩ : Aa), a5_1))))))))
def A9.F (K : Nat) (R : Ai) (p0 : Ad) : Option (Aa × Ad) := (Option.bind (R.A8 p0) (fun (a1_0, a1_1) => (obind (A9.l6 K R K a1_1.l a1_1.at_ a1_1.bad a1_0.Op a1_0.Name a1_0.Int a1_0.Text a1_0.Kids : Option (Out (Aa × Ad) Unit)) (fun r => r) (fun _ => none))))
theorem A9.body {Γ : Ent} {K : Nat} {R : Ai} (hR : R.Ok) {p0 : Ad} {r : Aa × Ad} (h : A9.F K R p0 = some r) : AWp V P 19 100 Γ (Tryz.f132.body.getD .skip) (EndsE P V Tryz.f132 (.agg [.I r.1.Op, .str r.1.Name, .I r.1.Int, .str r.1.Text, .ro .Ae r.1.Kids]) [(0, .raw [.ro .Am r.2.l, .I r.2.at_, .B r.2.bad])]) ⟨args0 0 [.P 0], [(0, .raw (Ac p0))]⟩ := by
 unfold A9.F at h
 refine sg0 L 200 <| awp_seq ?_
 obtain ⟨⟨a1_0, a1_1⟩, h1, h⟩ := bind_some h
 dsimp only at h
 refine rg L 202 [] [] [(1, (ef0 (.agg (Ag a1_0)) [(0, .raw (Ac a1_1))]))] (pl1 (hR.A8 h1)) ?_
 refine awp_block <| awp_turn (Turns.trans (Turns.kk [0, 2, 3] [0, 200, 204]) (Turns.rr [(0, 0), (200, 21300), (204, 21301)])) ?_
 refine kp (S' := ⟨[(0, .P 0), (2, .P 21300), (3, .P 21301)], [(0, .raw (Ac a1_1)), (21300, .raw [.I 0, .str [], .I 0, .str [], .N]), (21301, .raw (Ag a1_0))]⟩) ?_
 obtain ⟨o1, hp1, h⟩ := obind_some h
 refine awp_conseq (Q' := fun e S => False ∨ (e = .ret ∧ ∃ a, Out.done a = o1 ∧ EndsE P V Tryz.f132 (.agg [.I a.1.Op, .str a.1.Name, .I a.1.Int, .str a.1.Text, .ro .Ae a.1.Kids]) [(0, .raw [.ro .Am a.2.l, .I a.2.at_, .B a.2.bad])] .ret S)) (awp_loop (fun k S => ∃ xh0_0_6h : List As, ∃ xh0_1_6h : Int, ∃ xh0_2_6h : Bool, ∃ x21301_0 : Int, ∃ x21301_1 : List UInt8, ∃ x21301_2 : Int, ∃ x21301_3 : List UInt8, ∃ x21301_4 : List Aa, S = ⟨[(0, .P 0), (2, .P 21300), (3, .P 21301)], [(0, .raw [.ro .Am xh0_0_6h, .I xh0_1_6h, .B xh0_2_6h]), (21300, .raw [.I 0, .str [], .I 0, .str [], .N]), (21301, .raw [.I x21301_0, .str x21301_1, .I x21301_2, .str x21301_3, .ro .Ae x21301_4])]⟩ ∧ A9.l6 K R k xh0_0_6h xh0_1_6h xh0_2_6h x21301_0 x21301_1 x21301_2 x21301_3 x21301_4 = some o1) ?_ ⟨_, _, _, _, _, _, _, _, rfl, hp1⟩) ?_
 ·clear h hp1
  intro k S hS
  obtain ⟨xh0_0_6h, xh0_1_6h, xh0_2_6h, x21301_0, x21301_1, x21301_2, x21301_3, x21301_4, rfl, h⟩ := hS
  cases k with
  | zero => cases h
  | succ k =>
  unfold A9.l6 at h
  refine awp_block <| awp_seq ?_
  obtain ⟨⟨a2_0, a2_1⟩, h2, h⟩ := bind_some h
  dsimp only at h
  refine rg L 207 [] [] [(1, (ef0 (.B a2_0) [(0, .raw (Ac a2_1))]))] (pl1 (Aj.okE h2)) ?_
  rcases ite_some h with ⟨c1, h⟩ | ⟨c1, h⟩
  ·refine tt c1 ?_
   obtain ⟨⟨a3_0, a3_1⟩, h3, h⟩ := bind_some h
   dsimp only at h
   obtain ⟨a4, h4, h⟩ := bind_some h
   refine hB L mixed 210 [] [(3, .agg (Ag a4))] [(2, (ef0 (.agg (Ag a3_0)) [(0, .raw (Ac a3_1))]))] [1] 2 (plc (hR.A8 h3) (plc (A2.ok h4) (plc trivial (plc (hR.A8 h3) (plc (A2.ok h4) (pl1 trivial)))))) (S' := ⟨[(0, .P 0), (2, .P 21300), (3, .P 21301)], [(0, .raw (Ac a3_1)), (21300, .raw [.I 0, .str [], .I 0, .str [], .N]), (21301, .raw (Ag a4))]⟩) ?_
   exact ⟨k, Nat.lt_succ_self k, _, _, _, _, _, _, _, _, rfl, h⟩
  refine fN c1 <| awp_seq ?_
  obtain ⟨⟨a5_0, a5_1⟩, h5, h⟩ := bind_some h
  dsimp only at h
  refine rg L 216 [] [] [(1, (ef0 (.B a5_0) [(0, .raw (Ac a5_1))]))] (pl1 (Aj.okE h5)) ?_
  rcases ite_some h with ⟨c2, h⟩ | ⟨c2, h⟩
  ·refine tt c2 ?_
   obtain ⟨⟨a6_0, a6_1⟩, h6, h⟩ := bind_some h
   dsimp only at h
   obtain ⟨a7, h7, h⟩ := bind_some h
   refine hB L mixed 219 [] [(3, .agg (Ag a7))] [(2, (ef0 (.agg (Ag a6_0)) [(0, .raw (Ac a6_1))]))] [1] 2 (plc (hR.A8 h6) (plc (A2.ok h7) (plc trivial (plc (hR.A8 h6) (plc (A2.ok h7) (pl1 trivial)))))) (S' := ⟨[(0, .P 0), (2, .P 21300), (3, .P 21301)], [(0, .raw (Ac a6_1)), (21300, .raw [.I 0, .str [], .I 0, .str [], .N]), (21301, .raw (Ag a7))]⟩) ?_
   exact ⟨k, Nat.lt_succ_self k, _, _, _, _, _, _, _, _, rfl, h⟩
  refine fN c2 <| sg0 L 225 <| awp_turn (Turns.trans (Turns.kk [2] [0, 21300]) (Turns.rr [(0, 0), (21300, 100)])) ?_
  refine awp_ret ?_
  cases h
  exact .inr ⟨rfl, _, rfl, er0⟩
 ·rintro e S (hf | ⟨rfl, a, rfl, hr⟩)
  ·exact hf.elim
  ·rcases h with ⟨_, e1, h⟩ | ⟨_, e1, h⟩
   ·have e2 := Out.done.inj e1
    subst e2
    subst h
    exact ⟨_, Turns.refl, hr⟩
   ·cases e1
def Be.l21 (K : Nat) (R : Ai) (a4_0 : Aa) : Nat → Int → (List As) → Int → Bool → Option (Out (Aa × Ad) ((List As) × Int × Bool))
 | 0, _, _, _, _ => none
 | k + 1, xt6_21h, xh0_0_21h, xh0_1_21h, xh0_2_21h => (if xt6_21h < (([([60] : List UInt8), ([60, 61] : List UInt8), ([62] : List UInt8), ([62, 61] : List UInt8), ([61, 61] : List UInt8), ([33, 61] : List UInt8)] : List (List UInt8)).length : Int) then (if (0 : Int) ≤ xt6_21h ∧ (xt6_21h : Int) < (([([60] : List UInt8), ([60, 61] : List UInt8), ([62] : List UInt8), ([62, 61] : List UInt8), ([61, 61] : List UInt8), ([33, 61] : List UInt8)] : List (List UInt8)).length : Int) then (Option.bind (Aj K (([([60] : List UInt8), ([60, 61] : List UInt8), ([62] : List UInt8), ([62, 61] : List UInt8), ([61, 61] : List UInt8), ([33, 61] : List UInt8)] : List (List UInt8)).getD (Int.toNat xt6_21h) ([] : List UInt8)) (⟨xh0_0_21h, xh0_1_21h, xh0_2_21h⟩ : Ad)) (fun (a5_0, a5_1) => (if a5_0 = true then (if (xt6_21h : Int) < (([20, 21, 22, 23, 24, 25] : List Int).length : Int) then (Option.bind (R.A9 a5_1) (fun (a6_0, a6_1) => (Option.bind (A2 K (([20, 21, 22, 23, 24, 25] : List Int).getD (Int.toNat xt6_21h) (0 : Int)) a4_0 a6_0) (fun a7 => some (Out.done (a7, a6_1)))))) else none) else Be.l21 K R a4_0 k (IntKind.i64.wrap (xt6_21h + 1)) a5_1.l a5_1.at_ a5_1.bad))) else none) else some (Out.go (xh0_0_21h, xh0_1_21h, xh0_2_21h)))
def Be.F (K : Nat) (R : Ai) (p0 : Ad) : Option (Aa × Ad) := (Option.bind (Aj K ([110, 111, 116] : List UInt8) p0) (fun (a1_0, a1_1) => (if a1_0 = true then (Option.bind (R.Be a1_1) (fun (a2_0, a2_1) => (Option.bind (Cr K 13 a2_0) (fun a3 => some (a3, a2_1))))) else (Option.bind (R.A9 a1_1) (fun (a4_0, a4_1) => (obind (Be.l21 K R a4_0 K 0 a4_1.l a4_1.at_ a4_1.bad : Option (Out (Aa × Ad) ((List As) × Int × Bool))) (fun r => r) (fun (xh0_0_21, xh0_1_21, xh0_2_21) => some (a4_0, (⟨xh0_0_21, xh0_1_21, xh0_2_21⟩ : Ad)))))))))
theorem Be.body {Γ : Ent} {K : Nat} {R : Ai} (hR : R.Ok) {p0 : Ad} {r : Aa × Ad} (h : Be.F K R p0 = some r) : AWp V P 37 100 Γ (Tryz.f117.body.getD .skip) (EndsE P V Tryz.f117 (.agg [.I r.1.Op, .str r.1.Name, .I r.1.Int, .str r.1.Text, .ro .Ae r.1.Kids]) [(0, .raw [.ro .Am r.2.l, .I r.2.at_, .B r.2.bad])]) ⟨args0 0 [.P 0], [(0, .raw (Ac p0))]⟩ := by
 unfold Be.F at h
 refine sg0 L 200 <| awp_seq <| awp_seq ?_
 obtain ⟨⟨a1_0, a1_1⟩, h1, h⟩ := bind_some h
 dsimp only at h
 refine rg L 202 [] [] [(1, (ef0 (.B a1_0) [(0, .raw (Ac a1_1))]))] (pl1 (Aj.okE h1)) ?_
 rcases ite_some h with ⟨c1, h⟩ | ⟨c1, h⟩
 ·refine tt c1 <| awp_seq ?_
  obtain ⟨⟨a2_0, a2_1⟩, h2, h⟩ := bind_some h
  dsimp only at h
  obtain ⟨a3, h3, h⟩ := bind_some h
  refine rg L 205 [] [(2, .agg (Ag a3))] [(1, (ef0 (.agg (Ag a2_0)) [(0, .raw (Ac a2_1))]))] (plc (hR.Be h2) (plc (Cr.ok h3) (pl1 trivial))) ?_
  refine awp_turn (Turns.trans (Turns.kk [2] [0, 200]) (Turns.rr [(0, 0), (200, 100)])) ?_
  refine awp_ret ?_
  cases h
  exact er0
 refine fN c1 <| awp_skip' <| awp_seq ?_
 obtain ⟨⟨a4_0, a4_1⟩, h4, h⟩ := bind_some h
 dsimp only at h
 refine rg L 210 [] [] [(1, (ef0 (.agg (Ag a4_0)) [(0, .raw (Ac a4_1))]))] (pl1 (hR.A9 h4)) ?_
 refine sg0 L 215 <| sg0 L 218 <| awp_seq <| sg0 L 221 <| awp_block <| awp_turn (Turns.trans (Turns.kk [0, 2, 3, 4, 5, 6] [0, 200, 212]) (Turns.rr [(0, 0), (200, 24300), (212, 24301)])) ?_
 refine kp (S' := ⟨[(0, .P 0), (2, .P 24300), (3, .P 24301), (4, .cv (.ro .Dg ([([60] : List UInt8), ([60, 61] : List UInt8), ([62] : List UInt8), ([62, 61] : List UInt8), ([61, 61] : List UInt8), ([33, 61] : List UInt8)] : List (List UInt8)))), (5, .cv (.ro .E7 ([20, 21, 22, 23, 24, 25] : List Int))), (6, .I 0)], [(0, .raw (Ac a4_1)), (24300, .raw [.I 0, .str [], .I 0, .str [], .N]), (24301, .raw (Ag a4_0))]⟩) ?_
 obtain ⟨o1, hp1, h⟩ := obind_some h
 refine awp_conseq (Q' := fun e S => (e = .exit 0 ∧ ∃ xh0_0_21 : List As, ∃ xh0_1_21 : Int, ∃ xh0_2_21 : Bool, S = ⟨[(2, .P 24200), (3, .P 24201)], [(0, .raw [.ro .Am xh0_0_21, .I xh0_1_21, .B xh0_2_21]), (24200, .raw [.I 0, .str [], .I 0, .str [], .N]), (24201, .raw (Ag a4_0))]⟩ ∧ Out.go (xh0_0_21, xh0_1_21, xh0_2_21) = o1) ∨ (e = .ret ∧ ∃ a, Out.done a = o1 ∧ EndsE P V Tryz.f117 (.agg [.I a.1.Op, .str a.1.Name, .I a.1.Int, .str a.1.Text, .ro .Ae a.1.Kids]) [(0, .raw [.ro .Am a.2.l, .I a.2.at_, .B a.2.bad])] .ret S)) (awp_loop (fun k S => ∃ xt6_21h : Int, ∃ xh0_0_21h : List As, ∃ xh0_1_21h : Int, ∃ xh0_2_21h : Bool, S = ⟨[(0, .P 0), (2, .P 24300), (3, .P 24301), (4, .cv (.ro .Dg ([([60] : List UInt8), ([60, 61] : List UInt8), ([62] : List UInt8), ([62, 61] : List UInt8), ([61, 61] : List UInt8), ([33, 61] : List UInt8)] : List (List UInt8)))), (5, .cv (.ro .E7 ([20, 21, 22, 23, 24, 25] : List Int))), (6, .I xt6_21h)], [(0, .raw [.ro .Am xh0_0_21h, .I xh0_1_21h, .B xh0_2_21h]), (24300, .raw [.I 0, .str [], .I 0, .str [], .N]), (24301, .raw (Ag a4_0))]⟩ ∧ Be.l21 K R a4_0 k xt6_21h xh0_0_21h xh0_1_21h xh0_2_21h = some o1) ?_ ⟨_, _, _, _, rfl, hp1⟩) ?_
 ·clear h hp1
  intro k S hS
  obtain ⟨xt6_21h, xh0_0_21h, xh0_1_21h, xh0_2_21h, rfl, h⟩ := hS
  cases k with
  | zero => cases h
  | succ k =>
  unfold Be.l21 at h
  refine awp_seq <| sg0 L 223 ?_
  rcases ite_some h with ⟨c2, h⟩ | ⟨c2, h⟩
  ·refine tT c2 <| awp_skip' <| awp_seq <| awp_block <| awp_seq ?_
   obtain ⟨g1, h⟩ := guard_some h
   obtain ⟨⟨a5_0, a5_1⟩, h5, h⟩ := bind_some h
   dsimp only at h
   refine rg L 228 [] [] [(5, (ef0 (.B a5_0) [(0, .raw (Ac a5_1))]))] (plc g1.1 (plc g1.2 (pl1 (Aj.okE h5)))) ?_
   rcases ite_some h with ⟨c3, h⟩ | ⟨c3, h⟩
   ·refine tt c3 <| awp_seq ?_
    obtain ⟨g2, h⟩ := guard_some h
    obtain ⟨⟨a6_0, a6_1⟩, h6, h⟩ := bind_some h
    dsimp only at h
    obtain ⟨a7, h7, h⟩ := bind_some h
    refine hB L mixed 235 [] [(7, .agg (Ag a7))] [(6, (ef0 (.agg (Ag a6_0)) [(0, .raw (Ac a6_1))]))] [0, 1, 5] 12 (plc g1.1 (plc g2 (plc (hR.A9 h6) (plc (A2.ok h7) (plc trivial (plc (hR.A9 h6) (plc (A2.ok h7) (plc trivial (plc (hR.A9 h6) (plc (A2.ok h7) (plc trivial (plc (hR.A9 h6) (plc (A2.ok h7) (plc trivial (plc (hR.A9 h6) (plc (A2.ok h7) (plc trivial (plc (A2.ok h7) (plc trivial (plc g1.1 (plc g2 (plc (hR.A9 h6) (plc (A2.ok h7) (plc trivial (plc (hR.A9 h6) (plc (A2.ok h7) (plc trivial (plc (hR.A9 h6) (plc g1.1 (plc g2 (plc (A2.ok h7) (plc trivial (plc (hR.A9 h6) (plc g1.1 (plc g2 (plc (A2.ok h7) (plc trivial (plc (A2.ok h7) (plc trivial (plc g1.1 (plc g2 (plc (A2.ok h7) (pl1 trivial))))))))))))))))))))))))))))))))))))))))))) (S' := ⟨[(2, .P 24300)], [(0, .raw (Ac a6_1)), (24300, .raw (Ag a7))]⟩) ?_
    refine awp_turn (Turns.trans (Turns.kk [2] [0, 24300]) (Turns.rr [(0, 0), (24300, 100)])) ?_
    refine awp_ret ?_
    cases h
    exact .inr ⟨rfl, _, rfl, er0⟩
   refine fN c3 <| awp_skip' <| ar0 L 245 [] [] [] (S' := ⟨[(0, .P 0), (2, .P 24300), (3, .P 24301), (4, .cv (.ro .Dg ([([60] : List UInt8), ([60, 61] : List UInt8), ([62] : List UInt8), ([62, 61] : List UInt8), ([61, 61] : List UInt8), ([33, 61] : List UInt8)] : List (List UInt8)))), (5, .cv (.ro .E7 ([20, 21, 22, 23, 24, 25] : List Int))), (6, .I (IntKind.i64.wrap (xt6_21h + 1)))], [(0, .raw (Ac a5_1)), (24300, .raw [.I 0, .str [], .I 0, .str [], .N]), (24301, .raw (Ag a4_0))]⟩) ?_
   exact ⟨k, Nat.lt_succ_self k, _, _, _, _, rfl, h⟩
  refine fF c2 <| awp_turn (Turns.trans (Turns.kk [2, 3] [0, 24300, 24301]) (Turns.rr [(0, 0), (24300, 24200), (24301, 24201)])) ?_
  refine ex (S' := ⟨[(2, .P 24200), (3, .P 24201)], [(0, .raw [.ro .Am xh0_0_21h, .I xh0_1_21h, .B xh0_2_21h]), (24200, .raw [.I 0, .str [], .I 0, .str [], .N]), (24201, .raw (Ag a4_0))]⟩) ?_
  cases h
  exact .inl ⟨rfl, _, _, _, rfl, rfl⟩
 ·rintro e S (⟨rfl, xh0_0_21, xh0_1_21, xh0_2_21, rfl, rfl⟩ | ⟨rfl, a, rfl, hr⟩)
  ·rcases h with ⟨_, e1, h⟩ | ⟨_, e1, h⟩
   ·cases e1
   ·have e2 := Out.go.inj e1
    subst e2
    dsimp only at h
    refine ⟨_, Turns.refl, ?_⟩
    refine sg0 L 249 <| awp_turn (Turns.trans (Turns.kk [2] [0, 24200]) (Turns.rr [(0, 0), (24200, 100)])) ?_
    refine awp_ret ?_
    cases h
    exact er0
  ·rcases h with ⟨_, e1, h⟩ | ⟨_, e1, h⟩
   ·have e2 := Out.done.inj e1
    subst e2
    subst h
    exact ⟨_, Turns.refl, hr⟩
   ·cases e1
def Bt.l7 (K : Nat) (R : Ai) : Nat → (List As) → Int → Bool → Int → (List UInt8) → Int → (List UInt8) → (List Aa) → Option ((List As) × Int × Bool × Int × (List UInt8) × Int × (List UInt8) × (List Aa))
 | 0, _, _, _, _, _, _, _, _ => none
 | k + 1, xh0_0_7h, xh0_1_7h, xh0_2_7h, x21501_0, x21501_1, x21501_2, x21501_3, x21501_4 => (Option.bind (Aj K ([97, 110, 100] : List UInt8) (⟨xh0_0_7h, xh0_1_7h, xh0_2_7h⟩ : Ad)) (fun (a2_0, a2_1) => (if a2_0 = true then (Option.bind (R.Be a2_1) (fun (a3_0, a3_1) => (Option.bind (A2 K 26 (⟨x21501_0, x21501_1, x21501_2, x21501_3, x21501_4⟩ : Aa) a3_0) (fun a4 => Bt.l7 K R k a3_1.l a3_1.at_ a3_1.bad a4.Op a4.Name a4.Int a4.Text a4.Kids)))) else some (a2_1.l, a2_1.at_, a2_1.bad, x21501_0, x21501_1, x21501_2, x21501_3, x21501_4))))
def Bt.F (K : Nat) (R : Ai) (p0 : Ad) : Option (Aa × Ad) := (Option.bind (R.Be p0) (fun (a1_0, a1_1) => (Option.bind (Bt.l7 K R K a1_1.l a1_1.at_ a1_1.bad a1_0.Op a1_0.Name a1_0.Int a1_0.Text a1_0.Kids : Option ((List As) × Int × Bool × Int × (List UInt8) × Int × (List UInt8) × (List Aa))) (fun (xh0_0_7, xh0_1_7, xh0_2_7, x21401_0, x21401_1, x21401_2, x21401_3, x21401_4) => some ((⟨x21401_0, x21401_1, x21401_2, x21401_3, x21401_4⟩ : Aa), (⟨xh0_0_7, xh0_1_7, xh0_2_7⟩ : Ad))))))
theorem Bt.body {Γ : Ent} {K : Nat} {R : Ai} (hR : R.Ok) {p0 : Ad} {r : Aa × Ad} (h : Bt.F K R p0 = some r) : AWp V P 13 100 Γ (Tryz.f88.body.getD .skip) (EndsE P V Tryz.f88 (.agg [.I r.1.Op, .str r.1.Name, .I r.1.Int, .str r.1.Text, .ro .Ae r.1.Kids]) [(0, .raw [.ro .Am r.2.l, .I r.2.at_, .B r.2.bad])]) ⟨args0 0 [.P 0], [(0, .raw (Ac p0))]⟩ := by
 unfold Bt.F at h
 refine sg0 L 200 <| awp_seq ?_
 obtain ⟨⟨a1_0, a1_1⟩, h1, h⟩ := bind_some h
 dsimp only at h
 refine rg L 202 [] [] [(1, (ef0 (.agg (Ag a1_0)) [(0, .raw (Ac a1_1))]))] (pl1 (hR.Be h1)) ?_
 refine awp_seq <| awp_block <| awp_turn (Turns.trans (Turns.kk [0, 2, 3] [0, 200, 204]) (Turns.rr [(0, 0), (200, 21500), (204, 21501)])) ?_
 refine kp (S' := ⟨[(0, .P 0), (2, .P 21500), (3, .P 21501)], [(0, .raw (Ac a1_1)), (21500, .raw [.I 0, .str [], .I 0, .str [], .N]), (21501, .raw (Ag a1_0))]⟩) ?_
 obtain ⟨o1, hp1, h⟩ := bind_some h
 refine awp_conseq (Q' := fun e S => (e = .exit 0 ∧ ∃ xh0_0_7 : List As, ∃ xh0_1_7 : Int, ∃ xh0_2_7 : Bool, ∃ x21401_0 : Int, ∃ x21401_1 : List UInt8, ∃ x21401_2 : Int, ∃ x21401_3 : List UInt8, ∃ x21401_4 : List Aa, S = ⟨[(2, .P 21400), (3, .P 21401)], [(0, .raw [.ro .Am xh0_0_7, .I xh0_1_7, .B xh0_2_7]), (21400, .raw [.I 0, .str [], .I 0, .str [], .N]), (21401, .raw [.I x21401_0, .str x21401_1, .I x21401_2, .str x21401_3, .ro .Ae x21401_4])]⟩ ∧ (xh0_0_7, xh0_1_7, xh0_2_7, x21401_0, x21401_1, x21401_2, x21401_3, x21401_4) = o1)) (awp_loop (fun k S => ∃ xh0_0_7h : List As, ∃ xh0_1_7h : Int, ∃ xh0_2_7h : Bool, ∃ x21501_0 : Int, ∃ x21501_1 : List UInt8, ∃ x21501_2 : Int, ∃ x21501_3 : List UInt8, ∃ x21501_4 : List Aa, S = ⟨[(0, .P 0), (2, .P 21500), (3, .P 21501)], [(0, .raw [.ro .Am xh0_0_7h, .I xh0_1_7h, .B xh0_2_7h]), (21500, .raw [.I 0, .str [], .I 0, .str [], .N]), (21501, .raw [.I x21501_0, .str x21501_1, .I x21501_2, .str x21501_3, .ro .Ae x21501_4])]⟩ ∧ Bt.l7 K R k xh0_0_7h xh0_1_7h xh0_2_7h x21501_0 x21501_1 x21501_2 x21501_3 x21501_4 = some o1) ?_ ⟨_, _, _, _, _, _, _, _, rfl, hp1⟩) ?_
 ·clear h hp1
  intro k S hS
  obtain ⟨xh0_0_7h, xh0_1_7h, xh0_2_7h, x21501_0, x21501_1, x21501_2, x21501_3, x21501_4, rfl, h⟩ := hS
  cases k with
  | zero => cases h
  | succ k =>
  unfold Bt.l7 at h
  refine awp_seq <| awp_seq ?_
  obtain ⟨⟨a2_0, a2_1⟩, h2, h⟩ := bind_some h
  dsimp only at h
  refine rg L 207 [] [] [(1, (ef0 (.B a2_0) [(0, .raw (Ac a2_1))]))] (pl1 (Aj.okE h2)) ?_
  rcases ite_some h with ⟨c1, h⟩ | ⟨c1, h⟩
  ·refine tt c1 <| awp_skip' <| awp_block ?_
   obtain ⟨⟨a3_0, a3_1⟩, h3, h⟩ := bind_some h
   dsimp only at h
   obtain ⟨a4, h4, h⟩ := bind_some h
   refine hB L mixed 210 [] [(3, .agg (Ag a4))] [(2, (ef0 (.agg (Ag a3_0)) [(0, .raw (Ac a3_1))]))] [1] 2 (plc (hR.Be h3) (plc (A2.ok h4) (plc trivial (plc (hR.Be h3) (plc (A2.ok h4) (pl1 trivial)))))) (S' := ⟨[(0, .P 0), (2, .P 21500), (3, .P 21501)], [(0, .raw (Ac a3_1)), (21500, .raw [.I 0, .str [], .I 0, .str [], .N]), (21501, .raw (Ag a4))]⟩) ?_
   exact ⟨k, Nat.lt_succ_self k, _, _, _, _, _, _, _, _, rfl, h⟩
  refine fN c1 <| awp_turn (Turns.trans (Turns.kk [2, 3] [0, 21500, 21501]) (Turns.rr [(0, 0), (21500, 21400), (21501, 21401)])) ?_
  refine ex (S' := ⟨[(2, .P 21400), (3, .P 21401)], [(0, .raw (Ac a2_1)), (21400, .raw [.I 0, .str [], .I 0, .str [], .N]), (21401, .raw [.I x21501_0, .str x21501_1, .I x21501_2, .str x21501_3, .ro .Ae x21501_4])]⟩) ?_
  cases h
  exact ⟨rfl, _, _, _, _, _, _, _, _, rfl, rfl⟩
 ·rintro e S ⟨rfl, xh0_0_7, xh0_1_7, xh0_2_7, x21401_0, x21401_1, x21401_2, x21401_3, x21401_4, rfl, rfl⟩
  dsimp only at h
  refine ⟨_, Turns.refl, ?_⟩
  refine sg0 L 216 <| awp_turn (Turns.trans (Turns.kk [2] [0, 21400]) (Turns.rr [(0, 0), (21400, 100)])) ?_
  refine awp_ret ?_
  cases h
  exact er0
def Av.l7 (K : Nat) (R : Ai) : Nat → (List As) → Int → Bool → Int → (List UInt8) → Int → (List UInt8) → (List Aa) → Option ((List As) × Int × Bool × Int × (List UInt8) × Int × (List UInt8) × (List Aa))
 | 0, _, _, _, _, _, _, _, _ => none
 | k + 1, xh0_0_7h, xh0_1_7h, xh0_2_7h, x21501_0, x21501_1, x21501_2, x21501_3, x21501_4 => (Option.bind (Aj K ([111, 114] : List UInt8) (⟨xh0_0_7h, xh0_1_7h, xh0_2_7h⟩ : Ad)) (fun (a2_0, a2_1) => (if a2_0 = true then (Option.bind (R.Bt a2_1) (fun (a3_0, a3_1) => (Option.bind (A2 K 27 (⟨x21501_0, x21501_1, x21501_2, x21501_3, x21501_4⟩ : Aa) a3_0) (fun a4 => Av.l7 K R k a3_1.l a3_1.at_ a3_1.bad a4.Op a4.Name a4.Int a4.Text a4.Kids)))) else some (a2_1.l, a2_1.at_, a2_1.bad, x21501_0, x21501_1, x21501_2, x21501_3, x21501_4))))
def Av.F (K : Nat) (R : Ai) (p0 : Ad) : Option (Aa × Ad) := (Option.bind (R.Bt p0) (fun (a1_0, a1_1) => (Option.bind (Av.l7 K R K a1_1.l a1_1.at_ a1_1.bad a1_0.Op a1_0.Name a1_0.Int a1_0.Text a1_0.Kids : Option ((List As) × Int × Bool × Int × (List UInt8) × Int × (List UInt8) × (List Aa))) (fun (xh0_0_7, xh0_1_7, xh0_2_7, x21401_0, x21401_1, x21401_2, x21401_3, x21401_4) => some ((⟨x21401_0, x21401_1, x21401_2, x21401_3, x21401_4⟩ : Aa), (⟨xh0_0_7, xh0_1_7, xh0_2_7⟩ : Ad))))))
theorem Av.body {Γ : Ent} {K : Nat} {R : Ai} (hR : R.Ok) {p0 : Ad} {r : Aa × Ad} (h : Av.F K R p0 = some r) : AWp V P 13 100 Γ (Tryz.f54.body.getD .skip) (EndsE P V Tryz.f54 (.agg [.I r.1.Op, .str r.1.Name, .I r.1.Int, .str r.1.Text, .ro .Ae r.1.Kids]) [(0, .raw [.ro .Am r.2.l, .I r.2.at_, .B r.2.bad])]) ⟨args0 0 [.P 0], [(0, .raw (Ac p0))]⟩ := by
 unfold Av.F at h
 refine sg0 L 200 <| awp_seq ?_
 obtain ⟨⟨a1_0, a1_1⟩, h1, h⟩ := bind_some h
 dsimp only at h
 refine rg L 202 [] [] [(1, (ef0 (.agg (Ag a1_0)) [(0, .raw (Ac a1_1))]))] (pl1 (hR.Bt h1)) ?_
 refine awp_seq <| awp_block <| awp_turn (Turns.trans (Turns.kk [0, 2, 3] [0, 200, 204]) (Turns.rr [(0, 0), (200, 21500), (204, 21501)])) ?_
 refine kp (S' := ⟨[(0, .P 0), (2, .P 21500), (3, .P 21501)], [(0, .raw (Ac a1_1)), (21500, .raw [.I 0, .str [], .I 0, .str [], .N]), (21501, .raw (Ag a1_0))]⟩) ?_
 obtain ⟨o1, hp1, h⟩ := bind_some h
 refine awp_conseq (Q' := fun e S => (e = .exit 0 ∧ ∃ xh0_0_7 : List As, ∃ xh0_1_7 : Int, ∃ xh0_2_7 : Bool, ∃ x21401_0 : Int, ∃ x21401_1 : List UInt8, ∃ x21401_2 : Int, ∃ x21401_3 : List UInt8, ∃ x21401_4 : List Aa, S = ⟨[(2, .P 21400), (3, .P 21401)], [(0, .raw [.ro .Am xh0_0_7, .I xh0_1_7, .B xh0_2_7]), (21400, .raw [.I 0, .str [], .I 0, .str [], .N]), (21401, .raw [.I x21401_0, .str x21401_1, .I x21401_2, .str x21401_3, .ro .Ae x21401_4])]⟩ ∧ (xh0_0_7, xh0_1_7, xh0_2_7, x21401_0, x21401_1, x21401_2, x21401_3, x21401_4) = o1)) (awp_loop (fun k S => ∃ xh0_0_7h : List As, ∃ xh0_1_7h : Int, ∃ xh0_2_7h : Bool, ∃ x21501_0 : Int, ∃ x21501_1 : List UInt8, ∃ x21501_2 : Int, ∃ x21501_3 : List UInt8, ∃ x21501_4 : List Aa, S = ⟨[(0, .P 0), (2, .P 21500), (3, .P 21501)], [(0, .raw [.ro .Am xh0_0_7h, .I xh0_1_7h, .B xh0_2_7h]), (21500, .raw [.I 0, .str [], .I 0, .str [], .N]), (21501, .raw [.I x21501_0, .str x21501_1, .I x21501_2, .str x21501_3, .ro .Ae x21501_4])]⟩ ∧ Av.l7 K R k xh0_0_7h xh0_1_7h xh0_2_7h x21501_0 x21501_1 x21501_2 x21501_3 x21501_4 = some o1) ?_ ⟨_, _, _, _, _, _, _, _, rfl, hp1⟩) ?_
 ·clear h hp1
  intro k S hS
  obtain ⟨xh0_0_7h, xh0_1_7h, xh0_2_7h, x21501_0, x21501_1, x21501_2, x21501_3, x21501_4, rfl, h⟩ := hS
  cases k with
  | zero => cases h
  | succ k =>
  unfold Av.l7 at h
  refine awp_seq <| awp_seq ?_
  obtain ⟨⟨a2_0, a2_1⟩, h2, h⟩ := bind_some h
  dsimp only at h
  refine rg L 207 [] [] [(1, (ef0 (.B a2_0) [(0, .raw (Ac a2_1))]))] (pl1 (Aj.okE h2)) ?_
  rcases ite_some h with ⟨c1, h⟩ | ⟨c1, h⟩
  ·refine tt c1 <| awp_skip' <| awp_block ?_
   obtain ⟨⟨a3_0, a3_1⟩, h3, h⟩ := bind_some h
   dsimp only at h
   obtain ⟨a4, h4, h⟩ := bind_some h
   refine hB L mixed 210 [] [(3, .agg (Ag a4))] [(2, (ef0 (.agg (Ag a3_0)) [(0, .raw (Ac a3_1))]))] [1] 2 (plc (hR.Bt h3) (plc (A2.ok h4) (plc trivial (plc (hR.Bt h3) (plc (A2.ok h4) (pl1 trivial)))))) (S' := ⟨[(0, .P 0), (2, .P 21500), (3, .P 21501)], [(0, .raw (Ac a3_1)), (21500, .raw [.I 0, .str [], .I 0, .str [], .N]), (21501, .raw (Ag a4))]⟩) ?_
   exact ⟨k, Nat.lt_succ_self k, _, _, _, _, _, _, _, _, rfl, h⟩
  refine fN c1 <| awp_turn (Turns.trans (Turns.kk [2, 3] [0, 21500, 21501]) (Turns.rr [(0, 0), (21500, 21400), (21501, 21401)])) ?_
  refine ex (S' := ⟨[(2, .P 21400), (3, .P 21401)], [(0, .raw (Ac a2_1)), (21400, .raw [.I 0, .str [], .I 0, .str [], .N]), (21401, .raw [.I x21501_0, .str x21501_1, .I x21501_2, .str x21501_3, .ro .Ae x21501_4])]⟩) ?_
  cases h
  exact ⟨rfl, _, _, _, _, _, _, _, _, rfl, rfl⟩
 ·rintro e S ⟨rfl, xh0_0_7, xh0_1_7, xh0_2_7, x21401_0, x21401_1, x21401_2, x21401_3, x21401_4, rfl, rfl⟩
  dsimp only at h
  refine ⟨_, Turns.refl, ?_⟩
  refine sg0 L 216 <| awp_turn (Turns.trans (Turns.kk [2] [0, 21400]) (Turns.rr [(0, 0), (21400, 100)])) ?_
  refine awp_ret ?_
  cases h
  exact er0
def Bg.l15 (K : Nat) (R : Ai) (p0 : List UInt8) : Nat → (List As) → Int → Bool → (List Aa) → Option (Out ((List Aa) × Ad) ((List As) × Int × Bool × (List Aa)))
 | 0, _, _, _, _ => none
 | k + 1, xh0_0_15h, xh0_1_15h, xh0_2_15h, x23100 => (if xh0_2_15h = true then some (Out.go (xh0_0_15h, xh0_1_15h, xh0_2_15h, x23100)) else (Option.bind (R.Av (⟨xh0_0_15h, xh0_1_15h, xh0_2_15h⟩ : Ad)) (fun (a2_0, a2_1) => (if (x23100.length + ([(⟨a2_0.Op, a2_0.Name, a2_0.Int, a2_0.Text, a2_0.Kids⟩ : Aa)] : List Aa).length) * 72 ≤ 140737488355328 then (Option.bind (Aj K p0 a2_1) (fun (a3_0, a3_1) => (if a3_0 = true then some (Out.done ((x23100 ++ ([(⟨a2_0.Op, a2_0.Name, a2_0.Int, a2_0.Text, a2_0.Kids⟩ : Aa)] : List Aa)), a3_1)) else (Option.bind (A1 K ([44] : List UInt8) a3_1) (fun a4 => Bg.l15 K R p0 k a4.l a4.at_ a4.bad (x23100 ++ ([(⟨a2_0.Op, a2_0.Name, a2_0.Int, a2_0.Text, a2_0.Kids⟩ : Aa)] : List Aa))))))) else none))))
def Bg.F (K : Nat) (R : Ai) (p0 : List UInt8) (p1 : Ad) : Option ((List Aa) × Ad) := (Option.bind (Aj K p0 p1) (fun (a1_0, a1_1) => (if a1_0 = true then some (([] : List Aa), a1_1) else (obind (Bg.l15 K R p0 K a1_1.l a1_1.at_ a1_1.bad ([] : List Aa) : Option (Out ((List Aa) × Ad) ((List As) × Int × Bool × (List Aa)))) (fun r => r) (fun (xh0_0_15, xh0_1_15, xh0_2_15, x23000) => some (x23000, (⟨xh0_0_15, xh0_1_15, xh0_2_15⟩ : Ad)))))))
theorem Bg.body {Γ : Ent} {K : Nat} {R : Ai} (hR : R.Ok) {p0 : List UInt8} {p1 : Ad} {r : (List Aa) × Ad} (h : Bg.F K R p0 p1 = some r) : AWp V P 27 100 Γ (Tryz.f129.body.getD .skip) (EndsE P V Tryz.f129 (.cv (.ro .Ae r.1)) [(0, .raw [.ro .Am r.2.l, .I r.2.at_, .B r.2.bad])]) ⟨args0 0 [.P 0, .cv (.str p0)], [(0, .raw (Ac p1))]⟩ := by
 unfold Bg.F at h
 refine sg0 L 200 <| sg0 L 202 <| awp_seq <| awp_seq ?_
 obtain ⟨⟨a1_0, a1_1⟩, h1, h⟩ := bind_some h
 dsimp only at h
 refine rg L 204 [] [] [(2, (ef0 (.B a1_0) [(0, .raw (Ac a1_1))]))] (pl1 (Aj.okE h1)) ?_
 rcases ite_some h with ⟨c1, h⟩ | ⟨c1, h⟩
 ·refine tt c1 <| sg0 L 208 <| awp_ret ?_
  cases h
  exact er0
 refine fN c1 <| awp_skip' <| awp_seq <| awp_block <| awp_turn (Turns.trans (Turns.kk [0, 1, 5] [0]) (Turns.trans (Turns.no 5 9500 Tag.Ae) (Turns.trans (Turns.kk [0, 1, 5] [0, 9500]) (Turns.rr [(0, 0), (9500, 23100)])))) ?_
 refine kp (S' := ⟨[(0, .P 0), (1, .cv (.str p0)), (5, .cv (.own .Ae 23100))], [(0, .raw (Ac a1_1)), (23100, .lst .Ae ([] : List Aa))]⟩) ?_
 obtain ⟨o1, hp1, h⟩ := obind_some h
 refine awp_conseq (Q' := fun e S => (e = .exit 0 ∧ ∃ xh0_0_15 : List As, ∃ xh0_1_15 : Int, ∃ xh0_2_15 : Bool, ∃ x23000 : List Aa, S = ⟨[(5, .cv (.own .Ae 23000))], [(0, .raw [.ro .Am xh0_0_15, .I xh0_1_15, .B xh0_2_15]), (23000, .lst .Ae x23000)]⟩ ∧ Out.go (xh0_0_15, xh0_1_15, xh0_2_15, x23000) = o1) ∨ (e = .ret ∧ ∃ a, Out.done a = o1 ∧ EndsE P V Tryz.f129 (.cv (.ro .Ae a.1)) [(0, .raw [.ro .Am a.2.l, .I a.2.at_, .B a.2.bad])] .ret S)) (awp_loop (fun k S => ∃ xh0_0_15h : List As, ∃ xh0_1_15h : Int, ∃ xh0_2_15h : Bool, ∃ x23100 : List Aa, S = ⟨[(0, .P 0), (1, .cv (.str p0)), (5, .cv (.own .Ae 23100))], [(0, .raw [.ro .Am xh0_0_15h, .I xh0_1_15h, .B xh0_2_15h]), (23100, .lst .Ae x23100)]⟩ ∧ Bg.l15 K R p0 k xh0_0_15h xh0_1_15h xh0_2_15h x23100 = some o1) ?_ ⟨_, _, _, _, rfl, hp1⟩) ?_
 ·clear h hp1
  intro k S hS
  obtain ⟨xh0_0_15h, xh0_1_15h, xh0_2_15h, x23100, rfl, h⟩ := hS
  cases k with
  | zero => cases h
  | succ k =>
  unfold Bg.l15 at h
  refine awp_seq <| sg0 L 211 ?_
  rcases ite_some h with ⟨c2, h⟩ | ⟨c2, h⟩
  ·refine ff (b := (!xh0_2_15h)) (congrArg Bool.not (c2)) ?_
   refine awp_turn (Turns.trans (Turns.kk [5] [0, 23100]) (Turns.rr [(0, 0), (23100, 23000)])) ?_
   refine ex (S' := ⟨[(5, .cv (.own .Ae 23000))], [(0, .raw [.ro .Am xh0_0_15h, .I xh0_1_15h, .B xh0_2_15h]), (23000, .lst .Ae x23100)]⟩) ?_
   cases h
   exact .inl ⟨rfl, _, _, _, _, rfl, rfl⟩
  refine tt (b := (!xh0_2_15h)) (congrArg Bool.not (eq_false_of_ne_true c2)) ?_
  refine awp_skip' <| awp_block <| awp_seq ?_
  obtain ⟨⟨a2_0, a2_1⟩, h2, h⟩ := bind_some h
  dsimp only at h
  obtain ⟨g1, h⟩ := guard_some h
  refine rg L 217 [] [] [(2, (ef0 (.agg (Ag a2_0)) [(0, .raw (Ac a2_1))]))] (plc (hR.Av h2) (plc g1 (pl1 trivial))) ?_
  refine awp_seq <| awp_seq ?_
  obtain ⟨⟨a3_0, a3_1⟩, h3, h⟩ := bind_some h
  dsimp only at h
  refine rg L 224 [] [] [(2, (ef0 (.B a3_0) [(0, .raw (Ac a3_1))]))] (pl1 (Aj.okE h3)) ?_
  rcases ite_some h with ⟨c3, h⟩ | ⟨c3, h⟩
  ·refine tt c3 <| sg0 L 228 <| awp_turn (Turns.trans (Turns.kk [4] [0, 23100]) (Turns.fz 23100)) ?_
   refine awp_ret ?_
   cases h
   exact .inr ⟨rfl, _, rfl, er0⟩
  refine fN c3 <| awp_skip' ?_
  obtain ⟨a4, h4, h⟩ := bind_some h
  refine ar L 231 [] [] [(1, (ef0 (.tup []) [(0, .raw (Ac a4))]))] (cs := [ECall V P 82 [.P 0, .cv (.str ([44] : List UInt8))] [(0, .raw (Ac a3_1))] [0] (.tup []) [(0, .raw (Ac a4))]]) (S' := ⟨[(0, .P 0), (1, .cv (.str p0)), (5, .cv (.own .Ae 23100))], [(0, .raw (Ac a4)), (23100, .lst .Ae (x23100 ++ ([(⟨a2_0.Op, a2_0.Name, a2_0.Int, a2_0.Text, a2_0.Kids⟩ : Aa)] : List Aa)))]⟩) (A1.okE h4) ?_
  exact ⟨k, Nat.lt_succ_self k, _, _, _, _, rfl, h⟩
 ·rintro e S (⟨rfl, xh0_0_15, xh0_1_15, xh0_2_15, x23000, rfl, rfl⟩ | ⟨rfl, a, rfl, hr⟩)
  ·rcases h with ⟨_, e1, h⟩ | ⟨_, e1, h⟩
   ·cases e1
   ·have e2 := Out.go.inj e1
    subst e2
    dsimp only at h
    refine ⟨_, Turns.refl, ?_⟩
    refine sg0 L 234 <| awp_turn (Turns.trans (Turns.kk [4] [0, 23000]) (Turns.fz 23000)) ?_
    refine awp_ret ?_
    cases h
    exact er0
  ·rcases h with ⟨_, e1, h⟩ | ⟨_, e1, h⟩
   ·have e2 := Out.done.inj e1
    subst e2
    subst h
    exact ⟨_, Turns.refl, hr⟩
   ·cases e1
def B1.l15 (K : Nat) (R : Ai) : Nat → (List As) → Int → Bool → (List Aa) → Option (Out ((List Aa) × Ad) ((List As) × Int × Bool × (List Aa)))
 | 0, _, _, _, _ => none
 | k + 1, xh0_0_15h, xh0_1_15h, xh0_2_15h, x23100 => (if xh0_2_15h = true then some (Out.go (xh0_0_15h, xh0_1_15h, xh0_2_15h, x23100)) else (Option.bind (C6 K (⟨xh0_0_15h, xh0_1_15h, xh0_2_15h⟩ : Ad) 4) (fun a2 => (if a2 = true then (if (0 : Int) ≤ xh0_1_15h ∧ (xh0_1_15h : Int) < (xh0_0_15h.length : Int) then (Option.bind (A1 K ([58] : List UInt8) (⟨xh0_0_15h, (IntKind.i64.wrap (xh0_1_15h + 1)), xh0_2_15h⟩ : Ad)) (fun a3 => (Option.bind (R.Av a3) (fun (a4_0, a4_1) => (Option.bind (Cr K 9 a4_0) (fun a5 => (if (x23100.length + ([(⟨a5.Op, a5.Name, a5.Int, (xh0_0_15h.getD (Int.toNat xh0_1_15h) D2).Text, a5.Kids⟩ : Aa)] : List Aa).length) * 72 ≤ 140737488355328 then (Option.bind (Aj K ([125] : List UInt8) a4_1) (fun (a6_0, a6_1) => (if a6_0 = true then some (Out.done (((x23100 ++ ([(⟨a5.Op, a5.Name, a5.Int, (xh0_0_15h.getD (Int.toNat xh0_1_15h) D2).Text, a5.Kids⟩ : Aa)] : List Aa)), a6_1))) else (Option.bind (A1 K ([44] : List UInt8) a6_1) (fun a7 => B1.l15 K R k a7.l a7.at_ a7.bad (x23100 ++ ([(⟨a5.Op, a5.Name, a5.Int, (xh0_0_15h.getD (Int.toNat xh0_1_15h) D2).Text, a5.Kids⟩ : Aa)] : List Aa))))))) else none))))))) else none) else some (Out.done (x23100, (⟨xh0_0_15h, xh0_1_15h, true⟩ : Ad)))))))
def B1.F (K : Nat) (R : Ai) (p0 : Ad) : Option ((List Aa) × Ad) := (Option.bind (Aj K ([125] : List UInt8) p0) (fun (a1_0, a1_1) => (if a1_0 = true then some (([] : List Aa), a1_1) else (obind (B1.l15 K R K a1_1.l a1_1.at_ a1_1.bad ([] : List Aa) : Option (Out ((List Aa) × Ad) ((List As) × Int × Bool × (List Aa)))) (fun r => r) (fun (xh0_0_15, xh0_1_15, xh0_2_15, x23000) => some (x23000, (⟨xh0_0_15, xh0_1_15, xh0_2_15⟩ : Ad)))))))
theorem B1.body {Γ : Ent} {K : Nat} {R : Ai} (hR : R.Ok) {p0 : Ad} {r : (List Aa) × Ad} (h : B1.F K R p0 = some r) : AWp V P 56 100 Γ (Tryz.f130.body.getD .skip) (EndsE P V Tryz.f130 (.cv (.ro .Ae r.1)) [(0, .raw [.ro .Am r.2.l, .I r.2.at_, .B r.2.bad])]) ⟨args0 0 [.P 0], [(0, .raw (Ac p0))]⟩ := by
 unfold B1.F at h
 refine sg0 L 200 <| sg0 L 202 <| awp_seq <| awp_seq ?_
 obtain ⟨⟨a1_0, a1_1⟩, h1, h⟩ := bind_some h
 dsimp only at h
 refine rg L 204 [] [] [(1, (ef0 (.B a1_0) [(0, .raw (Ac a1_1))]))] (pl1 (Aj.okE h1)) ?_
 rcases ite_some h with ⟨c1, h⟩ | ⟨c1, h⟩
 ·refine tt c1 <| sg0 L 207 <| awp_ret ?_
  cases h
  exact er0
 refine fN c1 <| awp_skip' <| awp_seq <| awp_block <| awp_turn (Turns.trans (Turns.kk [0, 3] [0]) (Turns.trans (Turns.no 3 9500 Tag.Ae) (Turns.trans (Turns.kk [0, 3] [0, 9500]) (Turns.rr [(0, 0), (9500, 23100)])))) ?_
 refine kp (S' := ⟨[(0, .P 0), (3, .cv (.own .Ae 23100))], [(0, .raw (Ac a1_1)), (23100, .lst .Ae ([] : List Aa))]⟩) ?_
 obtain ⟨o1, hp1, h⟩ := obind_some h
 refine awp_conseq (Q' := fun e S => (e = .exit 0 ∧ ∃ xh0_0_15 : List As, ∃ xh0_1_15 : Int, ∃ xh0_2_15 : Bool, ∃ x23000 : List Aa, S = ⟨[(3, .cv (.own .Ae 23000))], [(0, .raw [.ro .Am xh0_0_15, .I xh0_1_15, .B xh0_2_15]), (23000, .lst .Ae x23000)]⟩ ∧ Out.go (xh0_0_15, xh0_1_15, xh0_2_15, x23000) = o1) ∨ (e = .ret ∧ ∃ a, Out.done a = o1 ∧ EndsE P V Tryz.f130 (.cv (.ro .Ae a.1)) [(0, .raw [.ro .Am a.2.l, .I a.2.at_, .B a.2.bad])] .ret S)) (awp_loop (fun k S => ∃ xh0_0_15h : List As, ∃ xh0_1_15h : Int, ∃ xh0_2_15h : Bool, ∃ x23100 : List Aa, S = ⟨[(0, .P 0), (3, .cv (.own .Ae 23100))], [(0, .raw [.ro .Am xh0_0_15h, .I xh0_1_15h, .B xh0_2_15h]), (23100, .lst .Ae x23100)]⟩ ∧ B1.l15 K R k xh0_0_15h xh0_1_15h xh0_2_15h x23100 = some o1) ?_ ⟨_, _, _, _, rfl, hp1⟩) ?_
 ·clear h hp1
  intro k S hS
  obtain ⟨xh0_0_15h, xh0_1_15h, xh0_2_15h, x23100, rfl, h⟩ := hS
  cases k with
  | zero => cases h
  | succ k =>
  unfold B1.l15 at h
  refine awp_seq <| sg0 L 210 ?_
  rcases ite_some h with ⟨c2, h⟩ | ⟨c2, h⟩
  ·refine ff (b := (!xh0_2_15h)) (congrArg Bool.not (c2)) ?_
   refine awp_turn (Turns.trans (Turns.kk [3] [0, 23100]) (Turns.rr [(0, 0), (23100, 23000)])) ?_
   refine ex (S' := ⟨[(3, .cv (.own .Ae 23000))], [(0, .raw [.ro .Am xh0_0_15h, .I xh0_1_15h, .B xh0_2_15h]), (23000, .lst .Ae x23100)]⟩) ?_
   cases h
   exact .inl ⟨rfl, _, _, _, _, rfl, rfl⟩
  refine tt (b := (!xh0_2_15h)) (congrArg Bool.not (eq_false_of_ne_true c2)) ?_
  refine awp_skip' <| awp_block <| awp_seq <| awp_seq ?_
  obtain ⟨a2, h2, h⟩ := bind_some h
  refine rg L 216 [] [(1, .B a2)] [] (plt (C6.ok h2)) ?_
  rcases ite_some h with ⟨c3, h⟩ | ⟨c3, h⟩
  ·refine ff (b := (!a2)) (congrArg Bool.not (c3)) ?_
   refine awp_skip' <| awp_seq ?_
   obtain ⟨g1, h⟩ := guard_some h
   refine rd L mixed 228 [] [] [] [] 12 (pl2 g1.1 g1.2) ?_
   refine sg0 L 241 <| awp_seq ?_
   obtain ⟨a3, h3, h⟩ := bind_some h
   refine rg L 250 [] [] [(1, (ef0 (.tup []) [(0, .raw (Ac a3))]))] (pl1 (A1.okE h3)) ?_
   refine awp_seq ?_
   obtain ⟨⟨a4_0, a4_1⟩, h4, h⟩ := bind_some h
   dsimp only at h
   obtain ⟨a5, h5, h⟩ := bind_some h
   refine rg L 253 [] [(2, .agg (Ag a5))] [(1, (ef0 (.agg (Ag a4_0)) [(0, .raw (Ac a4_1))]))] (plc (hR.Av h4) (plc (Cr.ok h5) (pl1 trivial))) ?_
   refine sg0 L 259 <| awp_seq ?_
   obtain ⟨g2, h⟩ := guard_some h
   refine rg L 263 [] [] [] (plt g2) ?_
   refine awp_seq <| awp_seq ?_
   obtain ⟨⟨a6_0, a6_1⟩, h6, h⟩ := bind_some h
   dsimp only at h
   refine rg L 269 [] [] [(1, (ef0 (.B a6_0) [(0, .raw (Ac a6_1))]))] (pl1 (Aj.okE h6)) ?_
   rcases ite_some h with ⟨c4, h⟩ | ⟨c4, h⟩
   ·refine tt c4 <| sg0 L 272 <| awp_turn (Turns.trans (Turns.kk [2] [0, 23100]) (Turns.fz 23100)) ?_
    refine awp_ret ?_
    cases h
    exact .inr ⟨rfl, _, rfl, er0⟩
   refine fN c4 <| awp_skip' ?_
   obtain ⟨a7, h7, h⟩ := bind_some h
   refine ar L 275 [] [] [(1, (ef0 (.tup []) [(0, .raw (Ac a7))]))] (cs := [ECall V P 82 [.P 0, .cv (.str ([44] : List UInt8))] [(0, .raw (Ac a6_1))] [0] (.tup []) [(0, .raw (Ac a7))]]) (S' := ⟨[(0, .P 0), (3, .cv (.own .Ae 23100))], [(0, .raw (Ac a7)), (23100, .lst .Ae (x23100 ++ ([(⟨a5.Op, a5.Name, a5.Int, (xh0_0_15h.getD (Int.toNat xh0_1_15h) D2).Text, a5.Kids⟩ : Aa)] : List Aa)))]⟩) (A1.okE h7) ?_
   exact ⟨k, Nat.lt_succ_self k, _, _, _, _, rfl, h⟩
  refine tt (b := (!a2)) (congrArg Bool.not (eq_false_of_ne_true c3)) ?_
  refine sg0 L 220 <| sg0 L 225 <| awp_turn (Turns.trans (Turns.kk [2] [0, 23100]) (Turns.fz 23100)) ?_
  refine awp_ret ?_
  cases h
  exact .inr ⟨rfl, _, rfl, er0⟩
 ·rintro e S (⟨rfl, xh0_0_15, xh0_1_15, xh0_2_15, x23000, rfl, rfl⟩ | ⟨rfl, a, rfl, hr⟩)
  ·rcases h with ⟨_, e1, h⟩ | ⟨_, e1, h⟩
   ·cases e1
   ·have e2 := Out.go.inj e1
    subst e2
    dsimp only at h
    refine ⟨_, Turns.refl, ?_⟩
    refine sg0 L 278 <| awp_turn (Turns.trans (Turns.kk [2] [0, 23000]) (Turns.fz 23000)) ?_
    refine awp_ret ?_
    cases h
    exact er0
  ·rcases h with ⟨_, e1, h⟩ | ⟨_, e1, h⟩
   ·have e2 := Out.done.inj e1
    subst e2
    subst h
    exact ⟨_, Turns.refl, hr⟩
   ·cases e1
end Go.Proofs.YtifjagfmfkemmaaGreatDoor
