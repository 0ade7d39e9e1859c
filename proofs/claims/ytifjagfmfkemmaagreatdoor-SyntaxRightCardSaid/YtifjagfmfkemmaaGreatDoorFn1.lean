/- What functions of the program compute, as Lean functions, and that they compute it. -/
import Derived.Test.YtifjagfmfkemmaaGreatDoorPd
set_option linter.unusedVariables false
set_option maxHeartbeats 0
namespace Go.Proofs.YtifjagfmfkemmaaGreatDoor
open Eng
def Cf (K : Nat) (p0 : As) (p1 : Int) : Option Int := (if (IntKind.i64.wrap (p0.at_ + p1)) ≥ (p0.src.length : Int) then some (-1) else (if (0 : Int) ≤ (IntKind.i64.wrap (p0.at_ + p1)) ∧ ((IntKind.i64.wrap (p0.at_ + p1)) : Int) < (p0.src.length : Int) then some ((IntKind.i32.wrap ((p0.src.getD (Int.toNat (IntKind.i64.wrap (p0.at_ + p1))) 0).toNat : Int))) else none))
theorem Cf.body {Γ : Ent} {K : Nat} {p0 : As} {p1 : Int} {r : Int} (h : Cf K p0 p1 = some r) : AWp V P 29 100 Γ (Tryz.f97.body.getD .skip) (EndsE P V Tryz.f97 (.cv (.lit (.int .i32 r))) []) ⟨args0 0 [.cv (.pcs (Az p0) 0), .I p1], []⟩ := by
 unfold Cf at h
 refine sg0 L 200 <| awp_seq <| sd' L mixed 202 [] [] [] [] 12 pl0 ?_
 rcases ite_some h with ⟨c1, h⟩ | ⟨c1, h⟩
 ·refine tT c1 <| sg0 L 215 <| awp_ret ?_
  cases h
  exact er0
 refine fF c1 <| awp_skip' <| awp_seq ?_
 obtain ⟨g1, h⟩ := guard_some h
 refine rd L mixed 217 [] [] [] [] 13 (pl2 g1.1 g1.2) ?_
 refine awp_ret ?_
 cases h
 exact er0
theorem Cf.ok {K : Nat} {p0 : As} {p1 : Int} {r : Int} (h : Cf K p0 p1 = some r) : PCall V P 97 [.cv (.pcs (Az p0) 0), .I p1] (.cv (.lit (.int .i32 r))) := ECall.pcall (eo (fn := Tryz.f97) (n := 29) (m := 100) fun Γ => Cf.body h) (by kernel_rfl)
def E5 (K : Nat) (p0 : Int) : Option Bool := (if p0 = 32 then some true else (if p0 = 9 then some true else some (decide (p0 = 10))))
theorem E5.body {Γ : Ent} {K : Nat} {p0 : Int} {r : Bool} (h : E5 K p0 = some r) : AWp V P 13 100 Γ (Tryz.f71.body.getD .skip) (EndsE P V Tryz.f71 (.B r) []) ⟨args0 0 [.cv (.lit (.int .i32 p0))], []⟩ := by
 unfold E5 at h
 refine sg0 L 200 <| awp_seq ?_
 rcases ite_some h with ⟨c1, h⟩ | ⟨c1, h⟩
 ·refine rg L 202 [(2, true)] [] [] (pl1 (decide_eq_true c1)) ?_
  refine awp_ret ?_
  cases h
  exact er0
 rcases ite_some h with ⟨c2, h⟩ | ⟨c2, h⟩
 ·refine rg L 202 [(2, false), (6, true)] [] [] (pl2 (decide_eq_false c1) (decide_eq_true c2)) ?_
  refine awp_ret ?_
  cases h
  exact er0
 refine rg L 202 [(2, false), (6, false)] [] [] (pl2 (decide_eq_false c1) (decide_eq_false c2)) ?_
 refine awp_ret ?_
 cases h
 exact er0
theorem E5.ok {K : Nat} {p0 : Int} {r : Bool} (h : E5 K p0 = some r) : PCall V P 71 [.cv (.lit (.int .i32 p0))] (.B r) := ECall.pcall (eo (fn := Tryz.f71) (n := 13) (m := 100) fun Γ => E5.body h) (by kernel_rfl)
def Dh.l7 (K : Nat) (p0 : As) : Nat → Int → Option Int
 | 0, _ => none
 | k + 1, xh0_1_7h => (Option.bind (Cf K (⟨p0.src, xh0_1_7h⟩ : As) 0) (fun a1 => (Option.bind (E5 K a1) (fun a2 => (if a2 = true then Dh.l7 K p0 k (IntKind.i64.wrap (xh0_1_7h + 1)) else some xh0_1_7h)))))
def Dh (K : Nat) (p0 : As) : Option ((List UInt8) × As) := (Option.bind (Dh.l7 K p0 K p0.at_ : Option Int) (fun xh0_1_7 => (if (0 : Int) ≤ p0.at_ ∧ p0.at_ ≤ xh0_1_7 ∧ xh0_1_7 ≤ (p0.src.length : Int) then some ((slc p0.src p0.at_ xh0_1_7), (⟨p0.src, xh0_1_7⟩ : As)) else none)))
theorem Dh.body {Γ : Ent} {K : Nat} {p0 : As} {r : (List UInt8) × As} (h : Dh K p0 = some r) : AWp V P 31 100 Γ (Tryz.f70.body.getD .skip) (EndsE P V Tryz.f70 (.cv (.str r.1)) [(0, .raw [.str r.2.src, .I r.2.at_])]) ⟨args0 0 [.P 0, .cv (.fn (.func 71) [] [])], [(0, .raw (Az p0))]⟩ := by
 unfold Dh at h
 refine sg0 L 200 <| sg0 L 202 <| awp_seq <| awp_block <| kp (S' := ⟨[(0, .P 0), (1, .cv (.fn (.func 71) [] [])), (5, .I p0.at_)], [(0, .raw (Az p0))]⟩) ?_
 obtain ⟨o1, hp1, h⟩ := bind_some h
 refine awp_conseq (Q' := fun e S => (e = .exit 0 ∧ ∃ xh0_1_7 : Int, S = ⟨[(0, .P 0), (5, .I p0.at_)], [(0, .raw [.str p0.src, .I xh0_1_7])]⟩ ∧ xh0_1_7 = o1)) (awp_loop (fun k S => ∃ xh0_1_7h : Int, S = ⟨[(0, .P 0), (1, .cv (.fn (.func 71) [] [])), (5, .I p0.at_)], [(0, .raw [.str p0.src, .I xh0_1_7h])]⟩ ∧ Dh.l7 K p0 k xh0_1_7h = some o1) ?_ ⟨_, rfl, hp1⟩) ?_
 ·clear h hp1
  intro k S hS
  obtain ⟨xh0_1_7h, rfl, h⟩ := hS
  cases k with
  | zero => cases h
  | succ k =>
  unfold Dh.l7 at h
  refine awp_seq <| awp_seq ?_
  obtain ⟨a1, h1, h⟩ := bind_some h
  obtain ⟨a2, h2, h⟩ := bind_some h
  refine rg L 208 [] [(2, .cv (.lit (.int .i32 a1))), (3, .B a2)] [] (plc (Cf.ok h1) (plc trivial (plc (E5.ok h2) (pl1 trivial)))) ?_
  rcases ite_some h with ⟨c1, h⟩ | ⟨c1, h⟩
  ·refine tt c1 <| awp_skip' <| awp_block <| ar0 L 213 [] [] [] (S' := ⟨[(0, .P 0), (1, .cv (.fn (.func 71) [] [])), (5, .I p0.at_)], [(0, .raw [.str p0.src, .I (IntKind.i64.wrap (xh0_1_7h + 1))])]⟩) ?_
   exact ⟨k, Nat.lt_succ_self k, _, rfl, h⟩
  refine fN c1 <| ex (S' := ⟨[(0, .P 0), (5, .I p0.at_)], [(0, .raw [.str p0.src, .I xh0_1_7h])]⟩) ?_
  cases h
  exact ⟨rfl, _, rfl, rfl⟩
 ·rintro e S ⟨rfl, xh0_1_7, rfl, rfl⟩
  refine ⟨_, Turns.refl, ?_⟩
  refine awp_seq ?_
  obtain ⟨g1, h⟩ := guard_some h
  refine rd L mixed 222 [] [] [] [] 11 (plc g1.1 (plc g1.2.1 (pl1 g1.2.2))) ?_
  refine awp_ret ?_
  cases h
  exact er0
theorem Dh.okE {K : Nat} {p0 : As} {r : (List UInt8) × As} (h : Dh K p0 = some r) : ECall V P 70 [.P 0, .cv (.fn (.func 71) [] [])] [(0, .raw (Az p0))] [0] (.cv (.str r.1)) [(0, .raw [.str r.2.src, .I r.2.at_])] :=
 eo (fn := Tryz.f70) (n := 31) (m := 100) fun Γ => Dh.body h
def Ej (K : Nat) (p0 : Int) : Option Bool := (if p0 ≥ 97 then (if p0 ≤ 122 then some true else (if p0 ≥ 65 then (if p0 ≤ 90 then some true else some (decide (p0 = 95))) else some (decide (p0 = 95)))) else (if p0 ≥ 65 then (if p0 ≤ 90 then some true else some (decide (p0 = 95))) else some (decide (p0 = 95))))
theorem Ej.body {Γ : Ent} {K : Nat} {p0 : Int} {r : Bool} (h : Ej K p0 = some r) : AWp V P 21 100 Γ (Tryz.f98.body.getD .skip) (EndsE P V Tryz.f98 (.B r) []) ⟨args0 0 [.cv (.lit (.int .i32 p0))], []⟩ := by
 unfold Ej at h
 refine sg0 L 200 <| awp_seq ?_
 rcases ite_some h with ⟨c1, h⟩ | ⟨c1, h⟩
 ·rcases ite_some h with ⟨c2, h⟩ | ⟨c2, h⟩
  ·refine rg L 202 [(2, true), (6, true)] [] [] (pl2 (decide_eq_true c1) (decide_eq_true c2)) ?_
   refine awp_ret ?_
   cases h
   exact er0
  rcases ite_some h with ⟨c3, h⟩ | ⟨c3, h⟩
  ·rcases ite_some h with ⟨c4, h⟩ | ⟨c4, h⟩
   ·refine rg L 202 [(2, true), (6, false), (9, true), (14, true)] [] [] (plc (decide_eq_true c1) (plc (decide_eq_false c2) (plc (decide_eq_true c3) (pl1 (decide_eq_true c4))))) ?_
    refine awp_ret ?_
    cases h
    exact er0
   refine rg L 202 [(2, true), (6, false), (9, true), (14, false)] [] [] (plc (decide_eq_true c1) (plc (decide_eq_false c2) (plc (decide_eq_true c3) (pl1 (decide_eq_false c4))))) ?_
   refine awp_ret ?_
   cases h
   exact er0
  refine rg L 202 [(2, true), (6, false), (9, false)] [] [] (plc (decide_eq_true c1) (plc (decide_eq_false c2) (pl1 (decide_eq_false c3)))) ?_
  refine awp_ret ?_
  cases h
  exact er0
 rcases ite_some h with ⟨c5, h⟩ | ⟨c5, h⟩
 ·rcases ite_some h with ⟨c6, h⟩ | ⟨c6, h⟩
  ·refine rg L 202 [(2, false), (9, true), (14, true)] [] [] (plc (decide_eq_false c1) (plc (decide_eq_true c5) (pl1 (decide_eq_true c6)))) ?_
   refine awp_ret ?_
   cases h
   exact er0
  refine rg L 202 [(2, false), (9, true), (14, false)] [] [] (plc (decide_eq_false c1) (plc (decide_eq_true c5) (pl1 (decide_eq_false c6)))) ?_
  refine awp_ret ?_
  cases h
  exact er0
 refine rg L 202 [(2, false), (9, false)] [] [] (pl2 (decide_eq_false c1) (decide_eq_false c5)) ?_
 refine awp_ret ?_
 cases h
 exact er0
theorem Ej.ok {K : Nat} {p0 : Int} {r : Bool} (h : Ej K p0 = some r) : PCall V P 98 [.cv (.lit (.int .i32 p0))] (.B r) := ECall.pcall (eo (fn := Tryz.f98) (n := 21) (m := 100) fun Γ => Ej.body h) (by kernel_rfl)
def Ew (K : Nat) (p0 : Int) : Option Bool := (if p0 ≥ 48 then some (decide (p0 ≤ 57)) else some false)
theorem Ew.body {Γ : Ent} {K : Nat} {p0 : Int} {r : Bool} (h : Ew K p0 = some r) : AWp V P 9 100 Γ (Tryz.f100.body.getD .skip) (EndsE P V Tryz.f100 (.B r) []) ⟨args0 0 [.cv (.lit (.int .i32 p0))], []⟩ := by
 unfold Ew at h
 refine sg0 L 200 <| awp_seq ?_
 rcases ite_some h with ⟨c1, h⟩ | ⟨c1, h⟩
 ·refine rg L 202 [(2, true)] [] [] (pl1 (decide_eq_true c1)) ?_
  refine awp_ret ?_
  cases h
  exact er0
 refine rg L 202 [(2, false)] [] [] (pl1 (decide_eq_false c1)) ?_
 refine awp_ret ?_
 cases h
 exact er0
theorem Ew.ok {K : Nat} {p0 : Int} {r : Bool} (h : Ew K p0 = some r) : PCall V P 100 [.cv (.lit (.int .i32 p0))] (.B r) := ECall.pcall (eo (fn := Tryz.f100) (n := 9) (m := 100) fun Γ => Ew.body h) (by kernel_rfl)
def Ed (K : Nat) (p0 : Int) : Option Bool := (Option.bind (Ej K p0) (fun a1 => (if a1 = true then some true else (Option.bind (Ew K p0) (fun a2 => some a2)))))
theorem Ed.body {Γ : Ent} {K : Nat} {p0 : Int} {r : Bool} (h : Ed K p0 = some r) : AWp V P 9 100 Γ (Tryz.f125.body.getD .skip) (EndsE P V Tryz.f125 (.B r) []) ⟨args0 0 [.cv (.lit (.int .i32 p0))], []⟩ := by
 unfold Ed at h
 refine sg0 L 200 <| awp_seq ?_
 obtain ⟨a1, h1, h⟩ := bind_some h
 rcases ite_some h with ⟨c1, h⟩ | ⟨c1, h⟩
 ·refine rg L 202 [(2, true)] [(1, .B a1)] [] (plc (Ej.ok h1) (plc trivial (pl1 c1))) ?_
  refine awp_ret ?_
  cases h
  exact er0
 obtain ⟨a2, h2, h⟩ := bind_some h
 refine rg L 202 [(2, false)] [(1, .B a1), (4, .B a2)] [] (plc (Ej.ok h1) (plc trivial (plc (eq_false_of_ne_true c1) (plc (Ew.ok h2) (pl1 trivial))))) ?_
 refine awp_ret ?_
 cases h
 exact er0
theorem Ed.ok {K : Nat} {p0 : Int} {r : Bool} (h : Ed K p0 = some r) : PCall V P 125 [.cv (.lit (.int .i32 p0))] (.B r) := ECall.pcall (eo (fn := Tryz.f125) (n := 9) (m := 100) fun Γ => Ed.body h) (by kernel_rfl)
def De.l7 (K : Nat) (p0 : As) : Nat → Int → Option Int
 | 0, _ => none
 | k + 1, xh0_1_7h => (Option.bind (Cf K (⟨p0.src, xh0_1_7h⟩ : As) 0) (fun a1 => (Option.bind (Ed K a1) (fun a2 => (if a2 = true then De.l7 K p0 k (IntKind.i64.wrap (xh0_1_7h + 1)) else some xh0_1_7h)))))
def De (K : Nat) (p0 : As) : Option ((List UInt8) × As) := (Option.bind (De.l7 K p0 K p0.at_ : Option Int) (fun xh0_1_7 => (if (0 : Int) ≤ p0.at_ ∧ p0.at_ ≤ xh0_1_7 ∧ xh0_1_7 ≤ (p0.src.length : Int) then some ((slc p0.src p0.at_ xh0_1_7), (⟨p0.src, xh0_1_7⟩ : As)) else none)))
theorem De.body {Γ : Ent} {K : Nat} {p0 : As} {r : (List UInt8) × As} (h : De K p0 = some r) : AWp V P 31 100 Γ (Tryz.f70.body.getD .skip) (EndsE P V Tryz.f70 (.cv (.str r.1)) [(0, .raw [.str r.2.src, .I r.2.at_])]) ⟨args0 0 [.P 0, .cv (.fn (.func 125) [] [])], [(0, .raw (Az p0))]⟩ := by
 unfold De at h
 refine sg0 L 200 <| sg0 L 202 <| awp_seq <| awp_block <| kp (S' := ⟨[(0, .P 0), (1, .cv (.fn (.func 125) [] [])), (5, .I p0.at_)], [(0, .raw (Az p0))]⟩) ?_
 obtain ⟨o1, hp1, h⟩ := bind_some h
 refine awp_conseq (Q' := fun e S => (e = .exit 0 ∧ ∃ xh0_1_7 : Int, S = ⟨[(0, .P 0), (5, .I p0.at_)], [(0, .raw [.str p0.src, .I xh0_1_7])]⟩ ∧ xh0_1_7 = o1)) (awp_loop (fun k S => ∃ xh0_1_7h : Int, S = ⟨[(0, .P 0), (1, .cv (.fn (.func 125) [] [])), (5, .I p0.at_)], [(0, .raw [.str p0.src, .I xh0_1_7h])]⟩ ∧ De.l7 K p0 k xh0_1_7h = some o1) ?_ ⟨_, rfl, hp1⟩) ?_
 ·clear h hp1
  intro k S hS
  obtain ⟨xh0_1_7h, rfl, h⟩ := hS
  cases k with
  | zero => cases h
  | succ k =>
  unfold De.l7 at h
  refine awp_seq <| awp_seq ?_
  obtain ⟨a1, h1, h⟩ := bind_some h
  obtain ⟨a2, h2, h⟩ := bind_some h
  refine rg L 208 [] [(2, .cv (.lit (.int .i32 a1))), (3, .B a2)] [] (plc (Cf.ok h1) (plc trivial (plc (Ed.ok h2) (pl1 trivial)))) ?_
  rcases ite_some h with ⟨c1, h⟩ | ⟨c1, h⟩
  ·refine tt c1 <| awp_skip' <| awp_block <| ar0 L 213 [] [] [] (S' := ⟨[(0, .P 0), (1, .cv (.fn (.func 125) [] [])), (5, .I p0.at_)], [(0, .raw [.str p0.src, .I (IntKind.i64.wrap (xh0_1_7h + 1))])]⟩) ?_
   exact ⟨k, Nat.lt_succ_self k, _, rfl, h⟩
  refine fN c1 <| ex (S' := ⟨[(0, .P 0), (5, .I p0.at_)], [(0, .raw [.str p0.src, .I xh0_1_7h])]⟩) ?_
  cases h
  exact ⟨rfl, _, rfl, rfl⟩
 ·rintro e S ⟨rfl, xh0_1_7, rfl, rfl⟩
  refine ⟨_, Turns.refl, ?_⟩
  refine awp_seq ?_
  obtain ⟨g1, h⟩ := guard_some h
  refine rd L mixed 222 [] [] [] [] 11 (plc g1.1 (plc g1.2.1 (pl1 g1.2.2))) ?_
  refine awp_ret ?_
  cases h
  exact er0
theorem De.okE {K : Nat} {p0 : As} {r : (List UInt8) × As} (h : De K p0 = some r) : ECall V P 70 [.P 0, .cv (.fn (.func 125) [] [])] [(0, .raw (Az p0))] [0] (.cv (.str r.1)) [(0, .raw [.str r.2.src, .I r.2.at_])] :=
 eo (fn := Tryz.f70) (n := 31) (m := 100) fun Γ => De.body h
def Df.l7 (K : Nat) (p0 : List (List UInt8)) (p1 : List UInt8) : Nat → Int → Option (Out Int Unit)
 | 0, _ => none
 | k + 1, xt8_7h => (if xt8_7h < (p0.length : Int) then (if (0 : Int) ≤ xt8_7h ∧ (xt8_7h : Int) < (p0.length : Int) then (if p1 = (p0.getD (Int.toNat xt8_7h) ([] : List UInt8)) then some (Out.done xt8_7h) else Df.l7 K p0 p1 k (IntKind.i64.wrap (xt8_7h + 1))) else none) else some (Out.go ()))
def Df (K : Nat) (p0 : List (List UInt8)) (p1 : List UInt8) : Option Int := (obind (Df.l7 K p0 p1 K 0 : Option (Out Int Unit)) (fun r => r) (fun _ => some (-1)))
theorem Df.body {Γ : Ent} {K : Nat} {p0 : List (List UInt8)} {p1 : List UInt8} {r : Int} (h : Df K p0 p1 = some r) : AWp V P 19 100 Γ (Tryz.f135.body.getD .skip) (EndsE P V Tryz.f135 (.I r) []) ⟨args0 0 [.cv (.ro .C4 p0), .cv (.str p1)], []⟩ := by
 unfold Df at h
 refine sg0 L 200 <| awp_seq <| sg0 L 202 <| awp_block <| kp (S' := ⟨[(0, .cv (.ro .C4 p0)), (1, .cv (.str p1)), (7, .I (p0.length : Int)), (8, .I 0)], []⟩) ?_
 obtain ⟨o1, hp1, h⟩ := obind_some h
 refine awp_conseq (Q' := fun e S => (e = .exit 0 ∧ S = ⟨[], []⟩ ∧ Out.go () = o1) ∨ (e = .ret ∧ ∃ a, Out.done a = o1 ∧ EndsE P V Tryz.f135 (.I a) [] .ret S)) (awp_loop (fun k S => ∃ xt8_7h : Int, S = ⟨[(0, .cv (.ro .C4 p0)), (1, .cv (.str p1)), (7, .I (p0.length : Int)), (8, .I xt8_7h)], []⟩ ∧ Df.l7 K p0 p1 k xt8_7h = some o1) ?_ ⟨_, rfl, hp1⟩) ?_
 ·clear h hp1
  intro k S hS
  obtain ⟨xt8_7h, rfl, h⟩ := hS
  cases k with
  | zero => cases h
  | succ k =>
  unfold Df.l7 at h
  refine sg0 L 206 <| awp_seq ?_
  rcases ite_some h with ⟨c1, h⟩ | ⟨c1, h⟩
  ·refine tT c1 <| awp_skip' <| awp_seq <| awp_block <| sg0 L 208 <| awp_seq ?_
   obtain ⟨g1, h⟩ := guard_some h
   refine rg L 211 [] [] [] (pl2 g1.1 g1.2) ?_
   rcases ite_some h with ⟨c2, h⟩ | ⟨c2, h⟩
   ·refine tT c2 <| sg0 L 218 <| awp_ret ?_
    cases h
    exact .inr ⟨rfl, _, rfl, er0⟩
   refine fF c2 <| awp_skip' <| ar0 L 221 [] [] [] (S' := ⟨[(0, .cv (.ro .C4 p0)), (1, .cv (.str p1)), (7, .I (p0.length : Int)), (8, .I (IntKind.i64.wrap (xt8_7h + 1)))], []⟩) ?_
   exact ⟨k, Nat.lt_succ_self k, _, rfl, h⟩
  refine fF c1 <| ex (S' := ⟨[], []⟩) ?_
  cases h
  exact .inl ⟨rfl, rfl, rfl⟩
 ·rintro e S (⟨rfl, rfl, rfl⟩ | ⟨rfl, a, rfl, hr⟩)
  ·rcases h with ⟨_, e1, h⟩ | ⟨_, e1, h⟩
   ·cases e1
   ·have e2 := Out.go.inj e1
    subst e2
    refine ⟨_, Turns.refl, ?_⟩
    refine sg0 L 224 <| awp_ret ?_
    cases h
    exact er0
  ·rcases h with ⟨_, e1, h⟩ | ⟨_, e1, h⟩
   ·have e2 := Out.done.inj e1
    subst e2
    subst h
    exact ⟨_, Turns.refl, hr⟩
   ·cases e1
theorem Df.ok {K : Nat} {p0 : List (List UInt8)} {p1 : List UInt8} {r : Int} (h : Df K p0 p1 = some r) : PCall V P 135 [.cv (.ro .C4 p0), .cv (.str p1)] (.I r) := ECall.pcall (eo (fn := Tryz.f135) (n := 19) (m := 100) fun Γ => Df.body h) (by kernel_rfl)
def D7 (K : Nat) (p0 : List (List UInt8)) (p1 : List UInt8) : Option Bool := (Option.bind (Df K p0 p1) (fun a1 => some (decide (a1 ≥ 0))))
theorem D7.body {Γ : Ent} {K : Nat} {p0 : List (List UInt8)} {p1 : List UInt8} {r : Bool} (h : D7 K p0 p1 = some r) : AWp V P 9 100 Γ (Tryz.f119.body.getD .skip) (EndsE P V Tryz.f119 (.B r) []) ⟨args0 0 [.cv (.ro .C4 p0), .cv (.str p1)], []⟩ := by
 unfold D7 at h
 refine sg0 L 200 <| awp_seq ?_
 obtain ⟨a1, h1, h⟩ := bind_some h
 refine rg L 202 [] [(2, .I a1)] [] (plt (Df.ok h1)) ?_
 refine awp_ret ?_
 cases h
 exact er0
theorem D7.ok {K : Nat} {p0 : List (List UInt8)} {p1 : List UInt8} {r : Bool} (h : D7 K p0 p1 = some r) : PCall V P 119 [.cv (.ro .C4 p0), .cv (.str p1)] (.B r) := ECall.pcall (eo (fn := Tryz.f119) (n := 9) (m := 100) fun Γ => D7.body h) (by kernel_rfl)
def Eh (K : Nat) (p0 : List UInt8) : Option Bool := (if ([97, 110, 100, 32, 97, 119, 97, 105, 116, 32, 99, 97, 115, 101, 32, 99, 97, 116, 99, 104, 32, 99, 104, 101, 99, 107, 32, 101, 108, 115, 101, 32, 102, 97, 108, 115, 101, 32, 102, 117, 110, 99, 32, 103, 111, 32, 105, 102, 32, 108, 101, 116, 32, 110, 111, 116, 32, 110, 117, 108, 108, 32, 111, 110, 32, 111, 114, 32, 113, 117, 101, 114, 121, 32, 114, 101, 116, 117, 114, 110, 32, 115, 97, 103, 97, 32, 115, 101, 108, 101, 99, 116, 32, 115, 105, 103, 110, 97, 108, 32, 116, 104, 114, 111, 119, 32, 116, 114, 117, 101, 32, 116, 114, 121, 32, 117, 110, 100, 111, 32, 117, 112, 100, 97, 116, 101, 32, 118, 97, 114, 32, 119, 104, 105, 108, 101] : List UInt8).length < 4294967281 ∧ (([97, 110, 100, 32, 97, 119, 97, 105, 116, 32, 99, 97, 115, 101, 32, 99, 97, 116, 99, 104, 32, 99, 104, 101, 99, 107, 32, 101, 108, 115, 101, 32, 102, 97, 108, 115, 101, 32, 102, 117, 110, 99, 32, 103, 111, 32, 105, 102, 32, 108, 101, 116, 32, 110, 111, 116, 32, 110, 117, 108, 108, 32, 111, 110, 32, 111, 114, 32, 113, 117, 101, 114, 121, 32, 114, 101, 116, 117, 114, 110, 32, 115, 97, 103, 97, 32, 115, 101, 108, 101, 99, 116, 32, 115, 105, 103, 110, 97, 108, 32, 116, 104, 114, 111, 119, 32, 116, 114, 117, 101, 32, 116, 114, 121, 32, 117, 110, 100, 111, 32, 117, 112, 100, 97, 116, 101, 32, 118, 97, 114, 32, 119, 104, 105, 108, 101] : List UInt8).all fun b => decide (b.toNat < 128)) = true then (Option.bind (D7 K (Lib.fields ([97, 110, 100, 32, 97, 119, 97, 105, 116, 32, 99, 97, 115, 101, 32, 99, 97, 116, 99, 104, 32, 99, 104, 101, 99, 107, 32, 101, 108, 115, 101, 32, 102, 97, 108, 115, 101, 32, 102, 117, 110, 99, 32, 103, 111, 32, 105, 102, 32, 108, 101, 116, 32, 110, 111, 116, 32, 110, 117, 108, 108, 32, 111, 110, 32, 111, 114, 32, 113, 117, 101, 114, 121, 32, 114, 101, 116, 117, 114, 110, 32, 115, 97, 103, 97, 32, 115, 101, 108, 101, 99, 116, 32, 115, 105, 103, 110, 97, 108, 32, 116, 104, 114, 111, 119, 32, 116, 114, 117, 101, 32, 116, 114, 121, 32, 117, 110, 100, 111, 32, 117, 112, 100, 97, 116, 101, 32, 118, 97, 114, 32, 119, 104, 105, 108, 101] : List UInt8)) p0) (fun a1 => some a1)) else none)
theorem Eh.body {Γ : Ent} {K : Nat} {p0 : List UInt8} {r : Bool} (h : Eh K p0 = some r) : AWp V P 8 100 Γ (Tryz.f91.body.getD .skip) (EndsE P V Tryz.f91 (.B r) []) ⟨args0 0 [.cv (.str p0)], []⟩ := by
 unfold Eh at h
 refine sg0 L 200 <| awp_seq ?_
 obtain ⟨g1, h⟩ := guard_some h
 refine rg L 202 [] [(0, .cv (.ron .C4 (Lib.fields ([97, 110, 100, 32, 97, 119, 97, 105, 116, 32, 99, 97, 115, 101, 32, 99, 97, 116, 99, 104, 32, 99, 104, 101, 99, 107, 32, 101, 108, 115, 101, 32, 102, 97, 108, 115, 101, 32, 102, 117, 110, 99, 32, 103, 111, 32, 105, 102, 32, 108, 101, 116, 32, 110, 111, 116, 32, 110, 117, 108, 108, 32, 111, 110, 32, 111, 114, 32, 113, 117, 101, 114, 121, 32, 114, 101, 116, 117, 114, 110, 32, 115, 97, 103, 97, 32, 115, 101, 108, 101, 99, 116, 32, 115, 105, 103, 110, 97, 108, 32, 116, 104, 114, 111, 119, 32, 116, 114, 117, 101, 32, 116, 114, 121, 32, 117, 110, 100, 111, 32, 117, 112, 100, 97, 116, 101, 32, 118, 97, 114, 32, 119, 104, 105, 108, 101] : List UInt8))))] [] (pl1 (show FCall V P 118 [.cv (.str ([97, 110, 100, 32, 97, 119, 97, 105, 116, 32, 99, 97, 115, 101, 32, 99, 97, 116, 99, 104, 32, 99, 104, 101, 99, 107, 32, 101, 108, 115, 101, 32, 102, 97, 108, 115, 101, 32, 102, 117, 110, 99, 32, 103, 111, 32, 105, 102, 32, 108, 101, 116, 32, 110, 111, 116, 32, 110, 117, 108, 108, 32, 111, 110, 32, 111, 114, 32, 113, 117, 101, 114, 121, 32, 114, 101, 116, 117, 114, 110, 32, 115, 97, 103, 97, 32, 115, 101, 108, 101, 99, 116, 32, 115, 105, 103, 110, 97, 108, 32, 116, 104, 114, 111, 119, 32, 116, 114, 117, 101, 32, 116, 114, 121, 32, 117, 110, 100, 111, 32, 117, 112, 100, 97, 116, 101, 32, 118, 97, 114, 32, 119, 104, 105, 108, 101] : List UInt8))] Tag.C4 (Lib.fields ([97, 110, 100, 32, 97, 119, 97, 105, 116, 32, 99, 97, 115, 101, 32, 99, 97, 116, 99, 104, 32, 99, 104, 101, 99, 107, 32, 101, 108, 115, 101, 32, 102, 97, 108, 115, 101, 32, 102, 117, 110, 99, 32, 103, 111, 32, 105, 102, 32, 108, 101, 116, 32, 110, 111, 116, 32, 110, 117, 108, 108, 32, 111, 110, 32, 111, 114, 32, 113, 117, 101, 114, 121, 32, 114, 101, 116, 117, 114, 110, 32, 115, 97, 103, 97, 32, 115, 101, 108, 101, 99, 116, 32, 115, 105, 103, 110, 97, 108, 32, 116, 104, 114, 111, 119, 32, 116, 114, 117, 101, 32, 116, 114, 121, 32, 117, 110, 100, 111, 32, 117, 112, 100, 97, 116, 101, 32, 118, 97, 114, 32, 119, 104, 105, 108, 101] : List UInt8)) from Gn.okF ([97, 110, 100, 32, 97, 119, 97, 105, 116, 32, 99, 97, 115, 101, 32, 99, 97, 116, 99, 104, 32, 99, 104, 101, 99, 107, 32, 101, 108, 115, 101, 32, 102, 97, 108, 115, 101, 32, 102, 117, 110, 99, 32, 103, 111, 32, 105, 102, 32, 108, 101, 116, 32, 110, 111, 116, 32, 110, 117, 108, 108, 32, 111, 110, 32, 111, 114, 32, 113, 117, 101, 114, 121, 32, 114, 101, 116, 117, 114, 110, 32, 115, 97, 103, 97, 32, 115, 101, 108, 101, 99, 116, 32, 115, 105, 103, 110, 97, 108, 32, 116, 104, 114, 111, 119, 32, 116, 114, 117, 101, 32, 116, 114, 121, 32, 117, 110, 100, 111, 32, 117, 112, 100, 97, 116, 101, 32, 118, 97, 114, 32, 119, 104, 105, 108, 101] : List UInt8) g1.1 g1.2)) ?_
 refine awp_seq ?_
 obtain ⟨a1, h1, h⟩ := bind_some h
 refine rg L 205 [] [(2, .B a1)] [] (plt (D7.ok h1)) ?_
 refine awp_ret ?_
 cases h
 exact er0
theorem Eh.ok {K : Nat} {p0 : List UInt8} {r : Bool} (h : Eh K p0 = some r) : PCall V P 91 [.cv (.str p0)] (.B r) := ECall.pcall (eo (fn := Tryz.f91) (n := 8) (m := 100) fun Γ => Eh.body h) (by kernel_rfl)
def Eb (K : Nat) (p0 : As) : Option (Aw × Int × As) := (Option.bind (De K p0) (fun (a1_0, a1_1) => (if (a1_0.length : Int) > 64 then some ((⟨0, 0, [], 0⟩ : Aw), 8, a1_1) else (Option.bind (Eh K a1_0) (fun a2 => (if a2 = true then some ((⟨2, 0, a1_0, 0⟩ : Aw), 0, a1_1) else some ((⟨1, 0, a1_0, 0⟩ : Aw), 0, a1_1)))))))
theorem Eb.body {Γ : Ent} {K : Nat} {p0 : As} {r : Aw × Int × As} (h : Eb K p0 = some r) : AWp V P 17 100 Γ (Tryz.f99.body.getD .skip) (EndsE P V Tryz.f99 (.tup [.agg [.I r.1.Kind, .I r.1.At, .str r.1.Text, .I r.1.Int], .I r.2.1]) [(0, .raw [.str r.2.2.src, .I r.2.2.at_])]) ⟨args0 0 [.P 0], [(0, .raw (Az p0))]⟩ := by
 unfold Eb at h
 refine sg0 L 200 <| awp_seq ?_
 obtain ⟨⟨a1_0, a1_1⟩, h1, h⟩ := bind_some h
 dsimp only at h
 refine rg L 203 [] [] [(1, (ef0 (.cv (.str a1_0)) [(0, .raw (Az a1_1))]))] (pl1 (De.okE h1)) ?_
 refine awp_seq <| sg0 L 207 ?_
 rcases ite_some h with ⟨c1, h⟩ | ⟨c1, h⟩
 ·refine tT c1 <| sg0 L 211 <| awp_turn (Turns.trans (Turns.kk [2, 3] [0, 200]) (Turns.rr [(0, 0), (200, 100)])) ?_
  refine awp_ret ?_
  cases h
  exact er0
 refine fF c1 <| awp_skip' <| awp_seq <| awp_seq ?_
 obtain ⟨a2, h2, h⟩ := bind_some h
 refine rg L 215 [] [(1, .B a2)] [] (plt (Eh.ok h2)) ?_
 rcases ite_some h with ⟨c2, h⟩ | ⟨c2, h⟩
 ·refine tt c2 <| sg0 L 218 <| awp_turn (Turns.trans (Turns.kk [2, 3] [0, 200]) (Turns.rr [(0, 0), (200, 100)])) ?_
  refine awp_ret ?_
  cases h
  exact er0
 refine fN c2 <| awp_skip' <| sg0 L 223 <| awp_turn (Turns.trans (Turns.kk [2, 3] [0, 200]) (Turns.rr [(0, 0), (200, 100)])) ?_
 refine awp_ret ?_
 cases h
 exact er0
theorem Eb.okE {K : Nat} {p0 : As} {r : Aw × Int × As} (h : Eb K p0 = some r) : ECall V P 99 [.P 0] [(0, .raw (Az p0))] [0] (.tup [.agg [.I r.1.Kind, .I r.1.At, .str r.1.Text, .I r.1.Int], .I r.2.1]) [(0, .raw [.str r.2.2.src, .I r.2.2.at_])] :=
 eo (fn := Tryz.f99) (n := 17) (m := 100) fun Γ => Eb.body h
def Dg.l7 (K : Nat) (p0 : As) : Nat → Int → Option Int
 | 0, _ => none
 | k + 1, xh0_1_7h => (Option.bind (Cf K (⟨p0.src, xh0_1_7h⟩ : As) 0) (fun a1 => (Option.bind (Ew K a1) (fun a2 => (if a2 = true then Dg.l7 K p0 k (IntKind.i64.wrap (xh0_1_7h + 1)) else some xh0_1_7h)))))
def Dg (K : Nat) (p0 : As) : Option ((List UInt8) × As) := (Option.bind (Dg.l7 K p0 K p0.at_ : Option Int) (fun xh0_1_7 => (if (0 : Int) ≤ p0.at_ ∧ p0.at_ ≤ xh0_1_7 ∧ xh0_1_7 ≤ (p0.src.length : Int) then some ((slc p0.src p0.at_ xh0_1_7), (⟨p0.src, xh0_1_7⟩ : As)) else none)))
theorem Dg.body {Γ : Ent} {K : Nat} {p0 : As} {r : (List UInt8) × As} (h : Dg K p0 = some r) : AWp V P 31 100 Γ (Tryz.f70.body.getD .skip) (EndsE P V Tryz.f70 (.cv (.str r.1)) [(0, .raw [.str r.2.src, .I r.2.at_])]) ⟨args0 0 [.P 0, .cv (.fn (.func 100) [] [])], [(0, .raw (Az p0))]⟩ := by
 unfold Dg at h
 refine sg0 L 200 <| sg0 L 202 <| awp_seq <| awp_block <| kp (S' := ⟨[(0, .P 0), (1, .cv (.fn (.func 100) [] [])), (5, .I p0.at_)], [(0, .raw (Az p0))]⟩) ?_
 obtain ⟨o1, hp1, h⟩ := bind_some h
 refine awp_conseq (Q' := fun e S => (e = .exit 0 ∧ ∃ xh0_1_7 : Int, S = ⟨[(0, .P 0), (5, .I p0.at_)], [(0, .raw [.str p0.src, .I xh0_1_7])]⟩ ∧ xh0_1_7 = o1)) (awp_loop (fun k S => ∃ xh0_1_7h : Int, S = ⟨[(0, .P 0), (1, .cv (.fn (.func 100) [] [])), (5, .I p0.at_)], [(0, .raw [.str p0.src, .I xh0_1_7h])]⟩ ∧ Dg.l7 K p0 k xh0_1_7h = some o1) ?_ ⟨_, rfl, hp1⟩) ?_
 ·clear h hp1
  intro k S hS
  obtain ⟨xh0_1_7h, rfl, h⟩ := hS
  cases k with
  | zero => cases h
  | succ k =>
  unfold Dg.l7 at h
  refine awp_seq <| awp_seq ?_
  obtain ⟨a1, h1, h⟩ := bind_some h
  obtain ⟨a2, h2, h⟩ := bind_some h
  refine rg L 208 [] [(2, .cv (.lit (.int .i32 a1))), (3, .B a2)] [] (plc (Cf.ok h1) (plc trivial (plc (Ew.ok h2) (pl1 trivial)))) ?_
  rcases ite_some h with ⟨c1, h⟩ | ⟨c1, h⟩
  ·refine tt c1 <| awp_skip' <| awp_block <| ar0 L 213 [] [] [] (S' := ⟨[(0, .P 0), (1, .cv (.fn (.func 100) [] [])), (5, .I p0.at_)], [(0, .raw [.str p0.src, .I (IntKind.i64.wrap (xh0_1_7h + 1))])]⟩) ?_
   exact ⟨k, Nat.lt_succ_self k, _, rfl, h⟩
  refine fN c1 <| ex (S' := ⟨[(0, .P 0), (5, .I p0.at_)], [(0, .raw [.str p0.src, .I xh0_1_7h])]⟩) ?_
  cases h
  exact ⟨rfl, _, rfl, rfl⟩
 ·rintro e S ⟨rfl, xh0_1_7, rfl, rfl⟩
  refine ⟨_, Turns.refl, ?_⟩
  refine awp_seq ?_
  obtain ⟨g1, h⟩ := guard_some h
  refine rd L mixed 222 [] [] [] [] 11 (plc g1.1 (plc g1.2.1 (pl1 g1.2.2))) ?_
  refine awp_ret ?_
  cases h
  exact er0
theorem Dg.okE {K : Nat} {p0 : As} {r : (List UInt8) × As} (h : Dg K p0 = some r) : ECall V P 70 [.P 0, .cv (.fn (.func 100) [] [])] [(0, .raw (Az p0))] [0] (.cv (.str r.1)) [(0, .raw [.str r.2.src, .I r.2.at_])] :=
 eo (fn := Tryz.f70) (n := 31) (m := 100) fun Γ => Dg.body h
def D6 (K : Nat) (p0 : As) : Option (Aw × Int × As) := (Option.bind (Dg K p0) (fun (a1_0, a1_1) => (obind (((if (a1_0.length : Int) > 1 then (if (0 : Int) < (a1_0.length : Int) then (if ((a1_0.getD (Int.toNat 0) 0).toNat : Int) = 48 then some (Out.done ((⟨0, 0, [], 0⟩ : Aw), 3, a1_1)) else (Option.bind (Cf K a1_1 0) (fun a2 => (Option.bind (Ej K a2) (fun a3 => (if a3 = true then some (Out.done ((⟨0, 0, [], 0⟩ : Aw), 3, a1_1)) else some (Out.go ()))))))) else none) else (Option.bind (Cf K a1_1 0) (fun a4 => (Option.bind (Ej K a4) (fun a5 => (if a5 = true then some (Out.done ((⟨0, 0, [], 0⟩ : Aw), 3, a1_1)) else some (Out.go ())))))))) : Option (Out (Aw × Int × As) Unit)) (fun r => r) (fun _ => (if a1_0.length ≤ 281474976710656 then (if (Ix a1_0) = true then some ((⟨3, 0, [], (Gr a1_0)⟩ : Aw), 0, a1_1) else some ((⟨0, 0, [], 0⟩ : Aw), 14, a1_1)) else none)))))
theorem D6.body {Γ : Ent} {K : Nat} {p0 : As} {r : Aw × Int × As} (h : D6 K p0 = some r) : AWp V P 33 100 Γ (Tryz.f101.body.getD .skip) (EndsE P V Tryz.f101 (.tup [.agg [.I r.1.Kind, .I r.1.At, .str r.1.Text, .I r.1.Int], .I r.2.1]) [(0, .raw [.str r.2.2.src, .I r.2.2.at_])]) ⟨args0 0 [.P 0], [(0, .raw (Az p0))]⟩ := by
 unfold D6 at h
 refine sg0 L 200 <| awp_seq ?_
 obtain ⟨⟨a1_0, a1_1⟩, h1, h⟩ := bind_some h
 dsimp only at h
 refine rg L 203 [] [] [(1, (ef0 (.cv (.str a1_0)) [(0, .raw (Az a1_1))]))] (pl1 (Dg.okE h1)) ?_
 obtain ⟨o1, hp1, h⟩ := obind_some h
 refine awp_seq (awp_mono (Q' := fun e S => (e = .normal ∧ S = ⟨[(2, .P 21000), (4, .cv (.str a1_0))], [(0, .raw (Az a1_1)), (21000, .raw [.I 0, .I 0, .str [], .I 0])]⟩ ∧ Out.go () = o1) ∨ (e = .ret ∧ ∃ a, Out.done a = o1 ∧ EndsE P V Tryz.f101 (.tup [.agg [.I a.1.Kind, .I a.1.At, .str a.1.Text, .I a.1.Int], .I a.2.1]) [(0, .raw [.str a.2.2.src, .I a.2.2.at_])] .ret S)) ?_ ?_)
 ·clear h
  replace h := hp1
  refine awp_seq ?_
  rcases ite_some h with ⟨c1, h⟩ | ⟨c1, h⟩
  ·obtain ⟨g1, h⟩ := guard_some h
   rcases ite_some h with ⟨c2, h⟩ | ⟨c2, h⟩
   ·refine rg L 207 [(3, true), (8, true)] [] [] (plc (decide_eq_true c1) (plc (show (0 : Int) ≤ 0 from by decide) (plc g1 (pl1 (decide_eq_true c2))))) ?_
    refine tt (b := true) (rfl) ?_
    refine sg0 L 221 <| awp_turn (Turns.trans (Turns.kk [2, 3] [0, 200]) (Turns.rr [(0, 0), (200, 100)])) ?_
    refine awp_ret ?_
    cases h
    exact .inr ⟨rfl, _, rfl, er0⟩
   obtain ⟨a2, h2, h⟩ := bind_some h
   obtain ⟨a3, h3, h⟩ := bind_some h
   refine rg L 207 [(3, true), (8, false)] [(10, .cv (.lit (.int .i32 a2))), (11, .B a3)] [] (plc (decide_eq_true c1) (plc (show (0 : Int) ≤ 0 from by decide) (plc g1 (plc (decide_eq_false c2) (plc (Cf.ok h2) (plc trivial (plc (Ej.ok h3) (pl1 trivial)))))))) ?_
   rcases ite_some h with ⟨c3, h⟩ | ⟨c3, h⟩
   ·refine tt c3 <| sg0 L 221 <| awp_turn (Turns.trans (Turns.kk [2, 3] [0, 200]) (Turns.rr [(0, 0), (200, 100)])) ?_
    refine awp_ret ?_
    cases h
    exact .inr ⟨rfl, _, rfl, er0⟩
   refine fN c3 <| awp_turn (Turns.trans (Turns.kk [2, 4] [0, 200]) (Turns.rr [(0, 0), (200, 21000)])) ?_
   refine sk (S' := ⟨[(2, .P 21000), (4, .cv (.str a1_0))], [(0, .raw (Az a1_1)), (21000, .raw [.I 0, .I 0, .str [], .I 0])]⟩) ?_
   cases h
   exact .inl ⟨rfl, rfl, rfl⟩
  obtain ⟨a4, h4, h⟩ := bind_some h
  obtain ⟨a5, h5, h⟩ := bind_some h
  refine rg L 207 [(3, false)] [(10, .cv (.lit (.int .i32 a4))), (11, .B a5)] [] (plc (decide_eq_false c1) (plc (Cf.ok h4) (plc trivial (plc (Ej.ok h5) (pl1 trivial))))) ?_
  rcases ite_some h with ⟨c4, h⟩ | ⟨c4, h⟩
  ·refine tt c4 <| sg0 L 221 <| awp_turn (Turns.trans (Turns.kk [2, 3] [0, 200]) (Turns.rr [(0, 0), (200, 100)])) ?_
   refine awp_ret ?_
   cases h
   exact .inr ⟨rfl, _, rfl, er0⟩
  refine fN c4 <| awp_turn (Turns.trans (Turns.kk [2, 4] [0, 200]) (Turns.rr [(0, 0), (200, 21000)])) ?_
  refine sk (S' := ⟨[(2, .P 21000), (4, .cv (.str a1_0))], [(0, .raw (Az a1_1)), (21000, .raw [.I 0, .I 0, .str [], .I 0])]⟩) ?_
  cases h
  exact .inl ⟨rfl, rfl, rfl⟩
 ·rintro e S (⟨rfl, rfl, rfl⟩ | ⟨rfl, a, rfl, hr⟩)
  ·rcases h with ⟨_, e1, h⟩ | ⟨_, e1, h⟩
   ·cases e1
   ·have e2 := Out.go.inj e1
    subst e2
    refine awp_seq ?_
    obtain ⟨g2, h⟩ := guard_some h
    rcases ite_some h with ⟨c5, h⟩ | ⟨c5, h⟩
    ·refine rg L 225 [] [(1, .tup [.I (Gr a1_0), .cv (.lit .nilIface)])] [] (plt (show PCall V P 126 [.cv (.str a1_0), .I 10, .I 64] (.tup [.I (Gr a1_0), .cv (.lit .nilIface)]) from Fl.ok a1_0 g2 (c5))) ?_
     refine awp_seq <| sg0 L 233 <| ff (b := false) (rfl) ?_
     refine awp_skip' <| sg0 L 240 <| awp_turn (Turns.trans (Turns.kk [2, 3] [0, 21000]) (Turns.rr [(0, 0), (21000, 100)])) ?_
     refine awp_ret ?_
     cases h
     exact er0
    refine rg L 225 [] [(1, .tup [.cv (.any), .cv (.ifc 122 false [.any])])] [] (plt (show PCall V P 126 [.cv (.str a1_0), .I 10, .I 64] (.tup [.cv (.any), .cv (.ifc 122 false [.any])]) from Fl.no a1_0 g2 (eq_false_of_ne_true c5))) ?_
    refine awp_seq <| sg0 L 233 <| tt (b := true) (rfl) ?_
    refine sg0 L 236 <| awp_turn (Turns.trans (Turns.kk [2, 3] [0, 21000]) (Turns.rr [(0, 0), (21000, 100)])) ?_
    refine awp_ret ?_
    cases h
    exact er0
  ·rcases h with ⟨_, e1, h⟩ | ⟨_, e1, h⟩
   ·have e2 := Out.done.inj e1
    subst e2
    subst h
    exact hr
   ·cases e1
theorem D6.okE {K : Nat} {p0 : As} {r : Aw × Int × As} (h : D6 K p0 = some r) : ECall V P 101 [.P 0] [(0, .raw (Az p0))] [0] (.tup [.agg [.I r.1.Kind, .I r.1.At, .str r.1.Text, .I r.1.Int], .I r.2.1]) [(0, .raw [.str r.2.2.src, .I r.2.2.at_])] :=
 eo (fn := Tryz.f101) (n := 33) (m := 100) fun Γ => D6.body h
def D0 (K : Nat) (p0 : As) : Option (Int × Int × As) := (Option.bind (Cf K p0 0) (fun a1 => (if a1 < 0 then some (0, 4, p0) else (if (Lib.indexByte ([48, 49, 50, 51, 52, 53, 54, 55, 56, 57, 97, 98, 99, 100, 101, 102] : List UInt8) (Int.toNat (IntKind.u8.wrap a1)).toUInt8) < 0 then some (0, 3, (⟨p0.src, (IntKind.i64.wrap (p0.at_ + 1))⟩ : As)) else some ((Lib.indexByte ([48, 49, 50, 51, 52, 53, 54, 55, 56, 57, 97, 98, 99, 100, 101, 102] : List UInt8) (Int.toNat (IntKind.u8.wrap a1)).toUInt8), 0, (⟨p0.src, (IntKind.i64.wrap (p0.at_ + 1))⟩ : As))))))
theorem D0.body {Γ : Ent} {K : Nat} {p0 : As} {r : Int × Int × As} (h : D0 K p0 = some r) : AWp V P 23 100 Γ (Tryz.f140.body.getD .skip) (EndsE P V Tryz.f140 (.tup [.I r.1, .I r.2.1]) [(0, .raw [.str r.2.2.src, .I r.2.2.at_])]) ⟨args0 0 [.P 0], [(0, .raw (Az p0))]⟩ := by
 unfold D0 at h
 refine sg0 L 200 <| awp_seq ?_
 obtain ⟨a1, h1, h⟩ := bind_some h
 refine rg L 203 [] [(1, .cv (.lit (.int .i32 a1)))] [] (plt (Cf.ok h1)) ?_
 refine awp_seq <| sg0 L 207 ?_
 rcases ite_some h with ⟨c1, h⟩ | ⟨c1, h⟩
 ·refine tT c1 <| sg0 L 210 <| awp_ret ?_
  cases h
  exact er0
 refine fF c1 <| awp_skip' <| sg0 L 213 <| sg L 222 [] [(2, .I (Lib.indexByte ([48, 49, 50, 51, 52, 53, 54, 55, 56, 57, 97, 98, 99, 100, 101, 102] : List UInt8) (Int.toNat (IntKind.u8.wrap a1)).toUInt8))] [] (plt (show PCall V P 152 [.cv (.str ([48, 49, 50, 51, 52, 53, 54, 55, 56, 57, 97, 98, 99, 100, 101, 102] : List UInt8)), .cv (.lit (.int .u8 (IntKind.u8.wrap a1)))] (.I (Lib.indexByte ([48, 49, 50, 51, 52, 53, 54, 55, 56, 57, 97, 98, 99, 100, 101, 102] : List UInt8) (Int.toNat (IntKind.u8.wrap a1)).toUInt8)) from strings_IndexByte.ok ([48, 49, 50, 51, 52, 53, 54, 55, 56, 57, 97, 98, 99, 100, 101, 102] : List UInt8) (IntKind.u8.wrap a1))) ?_
 refine awp_seq <| sg0 L 227 ?_
 rcases ite_some h with ⟨c2, h⟩ | ⟨c2, h⟩
 ·refine tT c2 <| sg0 L 230 <| awp_ret ?_
  cases h
  exact er0
 refine fF c2 <| awp_skip' <| sg0 L 233 <| awp_ret ?_
 cases h
 exact er0
theorem D0.okE {K : Nat} {p0 : As} {r : Int × Int × As} (h : D0 K p0 = some r) : ECall V P 140 [.P 0] [(0, .raw (Az p0))] [0] (.tup [.I r.1, .I r.2.1]) [(0, .raw [.str r.2.2.src, .I r.2.2.at_])] :=
 eo (fn := Tryz.f140) (n := 23) (m := 100) fun Γ => D0.body h
def D5 (K : Nat) (p0 : As) : Option (Int × Int × As) := (Option.bind (Cf K p0 0) (fun a1 => (if a1 = (-1) then some (0, 4, (⟨p0.src, (IntKind.i64.wrap (p0.at_ + 1))⟩ : As)) else (Option.bind ((if a1 = 34 then some (decide (a1 = 34)) else some (decide (a1 = 92))) : Option Bool) (fun xt20_17 => (if xt20_17 = true then some ((IntKind.u8.wrap a1), 0, (⟨p0.src, (IntKind.i64.wrap (p0.at_ + 1))⟩ : As)) else (if a1 = 110 then some (10, 0, (⟨p0.src, (IntKind.i64.wrap (p0.at_ + 1))⟩ : As)) else (if a1 = 116 then some (9, 0, (⟨p0.src, (IntKind.i64.wrap (p0.at_ + 1))⟩ : As)) else (if a1 = 120 then (Option.bind (D0 K (⟨p0.src, (IntKind.i64.wrap (p0.at_ + 1))⟩ : As)) (fun (a2_0, a2_1, a2_2) => (if a2_1 ≠ 0 then some (0, a2_1, a2_2) else (Option.bind (D0 K a2_2) (fun (a3_0, a3_1, a3_2) => some (((IntKind.u8.wrap (IntKind.i64.wrap ((IntKind.i64.wrap (16 * a2_0)) + a3_0))), a3_1, a3_2))))))) else some (0, 3, (⟨p0.src, (IntKind.i64.wrap (p0.at_ + 1))⟩ : As)))))))))))
theorem D5.body {Γ : Ent} {K : Nat} {p0 : As} {r : Int × Int × As} (h : D5 K p0 = some r) : AWp V P 50 100 Γ (Tryz.f127.body.getD .skip) (EndsE P V Tryz.f127 (.tup [.cv (.lit (.int .u8 r.1)), .I r.2.1]) [(0, .raw [.str r.2.2.src, .I r.2.2.at_])]) ⟨args0 0 [.P 0], [(0, .raw (Az p0))]⟩ := by
 unfold D5 at h
 refine sg0 L 200 <| awp_seq ?_
 obtain ⟨a1, h1, h⟩ := bind_some h
 refine rg L 203 [] [(1, .cv (.lit (.int .i32 a1)))] [] (plt (Cf.ok h1)) ?_
 refine sg0 L 207 <| awp_seq <| sg0 L 216 <| awp_block <| sg0 L 218 ?_
 rcases ite_some h with ⟨c1, h⟩ | ⟨c1, h⟩
 ·refine tT c1 <| sg0 L 221 <| awp_ret ?_
  cases h
  exact er0
 refine fF c1 ?_
 obtain ⟨o1, hp1, h⟩ := bind_some h
 refine awp_seq (awp_mono (Q' := fun e S => (e = .normal ∧ ∃ xt20_17 : Bool, S = ⟨[(0, .P 0), (4, .cv (.lit (.int .i32 a1))), (17, .cv (.lit (.int .i32 a1))), (20, .B xt20_17)], [(0, .raw [.str p0.src, .I (IntKind.i64.wrap (p0.at_ + 1))])]⟩ ∧ xt20_17 = o1)) ?_ ?_)
 ·clear h
  replace h := hp1
  refine sg0 L 224 ?_
  rcases ite_some h with ⟨c2, h⟩ | ⟨c2, h⟩
  ·refine tT c2 <| sk (S' := ⟨[(0, .P 0), (4, .cv (.lit (.int .i32 a1))), (17, .cv (.lit (.int .i32 a1))), (20, .B (decide (a1 = 34)))], [(0, .raw [.str p0.src, .I (IntKind.i64.wrap (p0.at_ + 1))])]⟩) ?_
   cases h
   exact ⟨rfl, _, rfl, rfl⟩
  refine fF c2 <| ar0 L 227 [] [] [] (S' := ⟨[(0, .P 0), (4, .cv (.lit (.int .i32 a1))), (17, .cv (.lit (.int .i32 a1))), (20, .B (decide (a1 = 92)))], [(0, .raw [.str p0.src, .I (IntKind.i64.wrap (p0.at_ + 1))])]⟩) ?_
  cases h
  exact ⟨rfl, _, rfl, rfl⟩
 ·rintro e S ⟨rfl, xt20_17, rfl, rfl⟩
  rcases ite_some h with ⟨c3, h⟩ | ⟨c3, h⟩
  ·refine tt c3 <| sg0 L 230 <| awp_ret ?_
   cases h
   exact er0
  refine fN c3 <| sg0 L 235 ?_
  rcases ite_some h with ⟨c4, h⟩ | ⟨c4, h⟩
  ·refine tT c4 <| sg0 L 238 <| awp_ret ?_
   cases h
   exact er0
  refine fF c4 <| sg0 L 241 ?_
  rcases ite_some h with ⟨c5, h⟩ | ⟨c5, h⟩
  ·refine tT c5 <| sg0 L 244 <| awp_ret ?_
   cases h
   exact er0
  refine fF c5 <| sg0 L 247 ?_
  rcases ite_some h with ⟨c6, h⟩ | ⟨c6, h⟩
  ·refine tT c6 <| awp_seq ?_
   obtain ⟨⟨a2_0, a2_1, a2_2⟩, h2, h⟩ := bind_some h
   dsimp only at h
   refine rg L 250 [] [] [(1, (ef0 (.tup [.I a2_0, .I a2_1]) [(0, .raw (Az a2_2))]))] (pl1 (D0.okE h2)) ?_
   refine awp_seq <| sg0 L 258 ?_
   rcases ite_some h with ⟨c7, h⟩ | ⟨c7, h⟩
   ·refine tT c7 <| sg0 L 261 <| awp_ret ?_
    cases h
    exact er0
   refine fF c7 <| awp_skip' <| awp_seq ?_
   obtain ⟨⟨a3_0, a3_1, a3_2⟩, h3, h⟩ := bind_some h
   dsimp only at h
   refine rg L 265 [] [] [(1, (ef0 (.tup [.I a3_0, .I a3_1]) [(0, .raw (Az a3_2))]))] (pl1 (D0.okE h3)) ?_
   refine sg0 L 273 <| awp_ret ?_
   cases h
   exact er0
  refine fF c6 <| awp_skip' <| sg0 L 282 <| awp_ret ?_
  cases h
  exact er0
theorem D5.okE {K : Nat} {p0 : As} {r : Int × Int × As} (h : D5 K p0 = some r) : ECall V P 127 [.P 0] [(0, .raw (Az p0))] [0] (.tup [.cv (.lit (.int .u8 r.1)), .I r.2.1]) [(0, .raw [.str r.2.2.src, .I r.2.2.at_])] :=
 eo (fn := Tryz.f127) (n := 50) (m := 100) fun Γ => D5.body h
def Dd.l8 (K : Nat) : Nat → (List UInt8) → Int → (List UInt8) → Option (Out (Aw × Int × As) Unit)
 | 0, _, _, _ => none
 | k + 1, xh0_0_8h, xh0_1_8h, x21701 => (Option.bind (Cf K (⟨xh0_0_8h, xh0_1_8h⟩ : As) 0) (fun a1 => (if a1 < 0 then some (Out.done ((⟨0, 0, [], 0⟩ : Aw), 4, (⟨xh0_0_8h, (IntKind.i64.wrap (xh0_1_8h + 1))⟩ : As))) else (if a1 = 34 then (if (x21701.length : Int) > 4096 then some (Out.done ((⟨0, 0, [], 0⟩ : Aw), 6, (⟨xh0_0_8h, (IntKind.i64.wrap (xh0_1_8h + 1))⟩ : As))) else some (Out.done ((⟨4, 0, (x21701.map (fun b => b)), 0⟩ : Aw), 0, (⟨xh0_0_8h, (IntKind.i64.wrap (xh0_1_8h + 1))⟩ : As)))) else (if a1 = 92 then (Option.bind (D5 K (⟨xh0_0_8h, (IntKind.i64.wrap (xh0_1_8h + 1))⟩ : As)) (fun (a2_0, a2_1, a2_2) => (if a2_1 ≠ 0 then some (Out.done ((⟨0, 0, [], 0⟩ : Aw), a2_1, a2_2)) else (if 0 ≤ a2_0 ∧ a2_0 < 256 then (if (x21701.length + ([(UInt8.ofNat (Int.toNat a2_0))] : List UInt8).length) * 1 ≤ 140737488355328 then Dd.l8 K k a2_2.src a2_2.at_ (x21701 ++ ([(UInt8.ofNat (Int.toNat a2_0))] : List UInt8)) else none) else none)))) else (Option.bind ((if a1 ≥ 32 then some (decide (a1 ≤ 126)) else some false) : Option Bool) (fun xt55_49 => (if xt55_49 = true then (if 0 ≤ (IntKind.u8.wrap a1) ∧ (IntKind.u8.wrap a1) < 256 then (if (x21701.length + ([(UInt8.ofNat (Int.toNat (IntKind.u8.wrap a1)))] : List UInt8).length) * 1 ≤ 140737488355328 then Dd.l8 K k xh0_0_8h (IntKind.i64.wrap (xh0_1_8h + 1)) (x21701 ++ ([(UInt8.ofNat (Int.toNat (IntKind.u8.wrap a1)))] : List UInt8)) else none) else none) else some (Out.done ((⟨0, 0, [], 0⟩ : Aw), 3, (⟨xh0_0_8h, (IntKind.i64.wrap (xh0_1_8h + 1))⟩ : As)))))))))))
def Dd (K : Nat) (p0 : As) : Option (Aw × Int × As) := (obind (Dd.l8 K K p0.src (IntKind.i64.wrap (p0.at_ + 1)) ([] : List UInt8) : Option (Out (Aw × Int × As) Unit)) (fun r => r) (fun _ => none))
theorem Dd.body {Γ : Ent} {K : Nat} {p0 : As} {r : Aw × Int × As} (h : Dd K p0 = some r) : AWp V P 67 100 Γ (Tryz.f102.body.getD .skip) (EndsE P V Tryz.f102 (.tup [.agg [.I r.1.Kind, .I r.1.At, .str r.1.Text, .I r.1.Int], .I r.2.1]) [(0, .raw [.str r.2.2.src, .I r.2.2.at_])]) ⟨args0 0 [.P 0], [(0, .raw (Az p0))]⟩ := by
 unfold Dd at h
 refine sg0 L 200 <| sg0 L 203 <| sg0 L 212 <| awp_block <| awp_turn (Turns.trans (Turns.kk [0, 2, 4] [0, 200]) (Turns.trans (Turns.no 4 9500 Tag.Eo) (Turns.trans (Turns.kk [0, 2, 4] [0, 200, 9500]) (Turns.rr [(0, 0), (200, 21700), (9500, 21701)])))) ?_
 refine kp (S' := ⟨[(0, .P 0), (2, .P 21700), (4, .cv (.own .Eo 21701))], [(0, .raw [.str p0.src, .I (IntKind.i64.wrap (p0.at_ + 1))]), (21700, .raw [.I 0, .I 0, .str [], .I 0]), (21701, .lst .Eo ([] : List UInt8))]⟩) ?_
 obtain ⟨o2, hp2, h⟩ := obind_some h
 refine awp_conseq (Q' := fun e S => False ∨ (e = .ret ∧ ∃ a, Out.done a = o2 ∧ EndsE P V Tryz.f102 (.tup [.agg [.I a.1.Kind, .I a.1.At, .str a.1.Text, .I a.1.Int], .I a.2.1]) [(0, .raw [.str a.2.2.src, .I a.2.2.at_])] .ret S)) (awp_loop (fun k S => ∃ xh0_0_8h : List UInt8, ∃ xh0_1_8h : Int, ∃ x21701 : List UInt8, S = ⟨[(0, .P 0), (2, .P 21700), (4, .cv (.own .Eo 21701))], [(0, .raw [.str xh0_0_8h, .I xh0_1_8h]), (21700, .raw [.I 0, .I 0, .str [], .I 0]), (21701, .lst .Eo x21701)]⟩ ∧ Dd.l8 K k xh0_0_8h xh0_1_8h x21701 = some o2) ?_ ⟨_, _, _, rfl, hp2⟩) ?_
 ·clear h hp2
  intro k S hS
  obtain ⟨xh0_0_8h, xh0_1_8h, x21701, rfl, h⟩ := hS
  cases k with
  | zero => cases h
  | succ k =>
  unfold Dd.l8 at h
  refine awp_block <| awp_seq ?_
  obtain ⟨a1, h1, h⟩ := bind_some h
  refine rg L 214 [] [(1, .cv (.lit (.int .i32 a1)))] [] (plt (Cf.ok h1)) ?_
  refine sg0 L 218 <| awp_block <| sg0 L 227 ?_
  rcases ite_some h with ⟨c1, h⟩ | ⟨c1, h⟩
  ·refine tT c1 <| sg0 L 231 <| awp_turn (Turns.trans (Turns.kk [2, 3] [0, 21700]) (Turns.rr [(0, 0), (21700, 100)])) ?_
   refine awp_ret ?_
   cases h
   exact .inr ⟨rfl, _, rfl, er0⟩
  refine fF c1 <| sg0 L 235 ?_
  rcases ite_some h with ⟨c2, h⟩ | ⟨c2, h⟩
  ·refine tT c2 <| awp_seq <| sg0 L 239 ?_
   rcases ite_some h with ⟨c3, h⟩ | ⟨c3, h⟩
   ·refine tT c3 <| sg0 L 243 <| awp_turn (Turns.trans (Turns.kk [2, 3] [0, 21700]) (Turns.rr [(0, 0), (21700, 100)])) ?_
    refine awp_ret ?_
    cases h
    exact .inr ⟨rfl, _, rfl, er0⟩
   refine fF c3 <| awp_skip' <| sg0 L 247 <| awp_turn (Turns.trans (Turns.kk [2, 3] [0, 21700]) (Turns.rr [(0, 0), (21700, 100)])) ?_
   refine awp_ret ?_
   cases h
   exact .inr ⟨rfl, _, rfl, er0⟩
  refine fF c2 <| sg0 L 253 ?_
  rcases ite_some h with ⟨c4, h⟩ | ⟨c4, h⟩
  ·refine tT c4 <| awp_seq ?_
   obtain ⟨⟨a2_0, a2_1, a2_2⟩, h2, h⟩ := bind_some h
   dsimp only at h
   refine rg L 257 [] [] [(1, (ef0 (.tup [.cv (.lit (.int .u8 a2_0)), .I a2_1]) [(0, .raw (Az a2_2))]))] (pl1 (D5.okE h2)) ?_
   refine awp_seq <| sg0 L 265 ?_
   rcases ite_some h with ⟨c5, h⟩ | ⟨c5, h⟩
   ·refine tT c5 <| sg0 L 268 <| awp_turn (Turns.trans (Turns.kk [2, 3] [0, 21700]) (Turns.rr [(0, 0), (21700, 100)])) ?_
    refine awp_ret ?_
    cases h
    exact .inr ⟨rfl, _, rfl, er0⟩
   refine fF c5 <| awp_skip' ?_
   obtain ⟨g1, h⟩ := guard_some h
   obtain ⟨g2, h⟩ := guard_some h
   refine ar L 273 [] [] [] (cs := [0 ≤ a2_0, a2_0 < 256, (x21701.length + ([(UInt8.ofNat (Int.toNat a2_0))] : List UInt8).length) * 1 ≤ 140737488355328, True]) (S' := ⟨[(0, .P 0), (2, .P 21700), (4, .cv (.own .Eo 21701))], [(0, .raw (Az a2_2)), (21700, .raw [.I 0, .I 0, .str [], .I 0]), (21701, .lst .Eo (x21701 ++ ([(UInt8.ofNat (Int.toNat a2_0))] : List UInt8)))]⟩) (And.intro g1.1 (And.intro g1.2 (And.intro g2 trivial))) ?_
   exact ⟨k, Nat.lt_succ_self k, _, _, _, rfl, h⟩
  refine fF c4 ?_
  obtain ⟨o1, hp1, h⟩ := bind_some h
  refine awp_seq (awp_mono (Q' := fun e S => (e = .normal ∧ ∃ xt55_49 : Bool, S = ⟨[(0, .P 0), (2, .P 29800), (4, .cv (.own .Eo 29801)), (5, .cv (.lit (.int .i32 a1))), (55, .B xt55_49)], [(0, .raw [.str xh0_0_8h, .I (IntKind.i64.wrap (xh0_1_8h + 1))]), (29800, .raw [.I 0, .I 0, .str [], .I 0]), (29801, .lst .Eo x21701)]⟩ ∧ xt55_49 = o1)) ?_ ?_)
  ·clear h
   replace h := hp1
   rcases ite_some h with ⟨c6, h⟩ | ⟨c6, h⟩
   ·refine awp_post (rg L 279 [(2, true)] [] [] (pl1 (decide_eq_true c6)) ⟨rfl, rfl⟩) (Turns.trans (Turns.kk [0, 2, 4, 5, 55] [0, 21700, 21701]) (Turns.trans (Turns.rr [(0, 0), (21700, 29800), (21701, 29801)]) (Turns.kp (S' := ⟨[(0, .P 0), (2, .P 29800), (4, .cv (.own .Eo 29801)), (5, .cv (.lit (.int .i32 a1))), (55, .B (decide (a1 ≤ 126)))], [(0, .raw [.str xh0_0_8h, .I (IntKind.i64.wrap (xh0_1_8h + 1))]), (29800, .raw [.I 0, .I 0, .str [], .I 0]), (29801, .lst .Eo x21701)]⟩)))) ?_
    cases h
    exact ⟨rfl, _, rfl, rfl⟩
   refine awp_post (rg L 279 [(2, false)] [] [] (pl1 (decide_eq_false c6)) ⟨rfl, rfl⟩) (Turns.trans (Turns.kk [0, 2, 4, 5, 55] [0, 21700, 21701]) (Turns.trans (Turns.rr [(0, 0), (21700, 29800), (21701, 29801)]) (Turns.kp (S' := ⟨[(0, .P 0), (2, .P 29800), (4, .cv (.own .Eo 29801)), (5, .cv (.lit (.int .i32 a1))), (55, .B false)], [(0, .raw [.str xh0_0_8h, .I (IntKind.i64.wrap (xh0_1_8h + 1))]), (29800, .raw [.I 0, .I 0, .str [], .I 0]), (29801, .lst .Eo x21701)]⟩)))) ?_
   cases h
   exact ⟨rfl, _, rfl, rfl⟩
  ·rintro e S ⟨rfl, xt55_49, rfl, rfl⟩
   rcases ite_some h with ⟨c7, h⟩ | ⟨c7, h⟩
   ·refine tt c7 ?_
    obtain ⟨g3, h⟩ := guard_some h
    obtain ⟨g4, h⟩ := guard_some h
    refine awp_post (rg L 287 [] [] [] (plc g3.1 (plc g3.2 (plc g4 (pl1 trivial)))) ⟨rfl, rfl⟩) (Turns.trans (Turns.kk [0, 2, 4] [0, 29800, 29801]) (Turns.trans (Turns.rr [(0, 0), (29800, 21700), (29801, 21701)]) (Turns.kp (S' := ⟨[(0, .P 0), (2, .P 21700), (4, .cv (.own .Eo 21701))], [(0, .raw [.str xh0_0_8h, .I (IntKind.i64.wrap (xh0_1_8h + 1))]), (21700, .raw [.I 0, .I 0, .str [], .I 0]), (21701, .lst .Eo (x21701 ++ ([(UInt8.ofNat (Int.toNat (IntKind.u8.wrap a1)))] : List UInt8)))]⟩)))) ?_
    exact ⟨k, Nat.lt_succ_self k, _, _, _, rfl, h⟩
   refine fN c7 <| sg0 L 294 <| awp_turn (Turns.trans (Turns.kk [2, 3] [0, 29800]) (Turns.rr [(0, 0), (29800, 100)])) ?_
   refine awp_ret ?_
   cases h
   exact .inr ⟨rfl, _, rfl, er0⟩
 ·rintro e S (hf | ⟨rfl, a, rfl, hr⟩)
  ·exact hf.elim
  ·rcases h with ⟨_, e1, h⟩ | ⟨_, e1, h⟩
   ·have e2 := Out.done.inj e1
    subst e2
    subst h
    exact ⟨_, Turns.refl, hr⟩
   ·cases e1
theorem Dd.okE {K : Nat} {p0 : As} {r : Aw × Int × As} (h : Dd K p0 = some r) : ECall V P 102 [.P 0] [(0, .raw (Az p0))] [0] (.tup [.agg [.I r.1.Kind, .I r.1.At, .str r.1.Text, .I r.1.Int], .I r.2.1]) [(0, .raw [.str r.2.2.src, .I r.2.2.at_])] :=
 eo (fn := Tryz.f102) (n := 67) (m := 100) fun Γ => Dd.body h
def Ec (K : Nat) (p0 : As) : Option (Aw × Int × As) := (Option.bind (((Option.bind (Cf K p0 0) (fun a1 => (Option.bind ((if a1 = 61 then some (decide (a1 = 61)) else (if a1 = 60 then some (decide (a1 = 60)) else (if a1 = 62 then some (decide (a1 = 62)) else some (decide (a1 = 33))))) : Option Bool) (fun xt10_11 => (if xt10_11 = true then (Option.bind (Cf K p0 1) (fun a2 => (if a2 = 61 then some 2 else (if a1 ≠ 33 then some 1 else some 0)))) else (if a1 = 40 then some 1 else (if a1 = 41 then some 1 else (if a1 = 123 then some 1 else (if a1 = 125 then some 1 else (if a1 = 91 then some 1 else (if a1 = 93 then some 1 else (if a1 = 44 then some 1 else (if a1 = 59 then some 1 else (if a1 = 46 then some 1 else (if a1 = 58 then some 1 else (if a1 = 43 then some 1 else (if a1 = 45 then some 1 else (if a1 = 42 then some 1 else (if a1 = 47 then some 1 else (if a1 = 37 then some 1 else some 0))))))))))))))))))))) : Option Int) (fun xt4_5 => (if xt4_5 = 0 then some ((⟨0, 0, [], 0⟩ : Aw), 3, p0) else (if (0 : Int) ≤ p0.at_ ∧ p0.at_ ≤ (IntKind.i64.wrap (p0.at_ + xt4_5)) ∧ (IntKind.i64.wrap (p0.at_ + xt4_5)) ≤ (p0.src.length : Int) then some ((⟨5, 0, (slc p0.src p0.at_ (IntKind.i64.wrap (p0.at_ + xt4_5))), 0⟩ : Aw), 0, (⟨p0.src, (IntKind.i64.wrap (p0.at_ + xt4_5))⟩ : As)) else none))))
theorem Ec.body {Γ : Ent} {K : Nat} {p0 : As} {r : Aw × Int × As} (h : Ec K p0 = some r) : AWp V P 64 100 Γ (Tryz.f103.body.getD .skip) (EndsE P V Tryz.f103 (.tup [.agg [.I r.1.Kind, .I r.1.At, .str r.1.Text, .I r.1.Int], .I r.2.1]) [(0, .raw [.str r.2.2.src, .I r.2.2.at_])]) ⟨args0 0 [.P 0], [(0, .raw (Az p0))]⟩ := by
 unfold Ec at h
 refine sg0 L 200 <| sg0 L 203 ?_
 obtain ⟨o2, hp2, h⟩ := bind_some h
 refine awp_seq (awp_mono (Q' := fun e S => (e = .normal ∧ ∃ xt4_5 : Int, S = ⟨[(0, .P 0), (2, .P 21000), (4, .I xt4_5)], [(0, .raw (Az p0)), (21000, .raw [.I 0, .I 0, .str [], .I 0])]⟩ ∧ xt4_5 = o2)) ?_ ?_)
 ·clear h
  replace h := hp2
  refine awp_seq ?_
  obtain ⟨a1, h1, h⟩ := bind_some h
  refine rg L 205 [] [(1, .cv (.lit (.int .i32 a1)))] [] (plt (Cf.ok h1)) ?_
  refine sg0 L 209 <| awp_block ?_
  obtain ⟨o1, hp1, h⟩ := bind_some h
  refine awp_seq (awp_mono (Q' := fun e S => (e = .normal ∧ ∃ xt10_11 : Bool, S = ⟨[(0, .P 0), (2, .P 22200), (4, .I 0), (5, .cv (.lit (.int .i32 a1))), (9, .cv (.lit (.int .i32 a1))), (10, .B xt10_11)], [(0, .raw (Az p0)), (22200, .raw [.I 0, .I 0, .str [], .I 0])]⟩ ∧ xt10_11 = o1)) ?_ ?_)
  ·clear h
   replace h := hp1
   refine sg0 L 211 ?_
   rcases ite_some h with ⟨c1, h⟩ | ⟨c1, h⟩
   ·refine tT c1 <| awp_turn (Turns.trans (Turns.kk [0, 2, 4, 5, 9, 10] [0, 200]) (Turns.rr [(0, 0), (200, 22200)])) ?_
    refine sk (S' := ⟨[(0, .P 0), (2, .P 22200), (4, .I 0), (5, .cv (.lit (.int .i32 a1))), (9, .cv (.lit (.int .i32 a1))), (10, .B (decide (a1 = 61)))], [(0, .raw (Az p0)), (22200, .raw [.I 0, .I 0, .str [], .I 0])]⟩) ?_
    cases h
    exact ⟨rfl, _, rfl, rfl⟩
   refine fF c1 <| sg0 L 214 ?_
   rcases ite_some h with ⟨c2, h⟩ | ⟨c2, h⟩
   ·refine tT c2 <| awp_turn (Turns.trans (Turns.kk [0, 2, 4, 5, 9, 10] [0, 200]) (Turns.rr [(0, 0), (200, 22200)])) ?_
    refine sk (S' := ⟨[(0, .P 0), (2, .P 22200), (4, .I 0), (5, .cv (.lit (.int .i32 a1))), (9, .cv (.lit (.int .i32 a1))), (10, .B (decide (a1 = 60)))], [(0, .raw (Az p0)), (22200, .raw [.I 0, .I 0, .str [], .I 0])]⟩) ?_
    cases h
    exact ⟨rfl, _, rfl, rfl⟩
   refine fF c2 <| sg0 L 217 ?_
   rcases ite_some h with ⟨c3, h⟩ | ⟨c3, h⟩
   ·refine tT c3 <| awp_turn (Turns.trans (Turns.kk [0, 2, 4, 5, 9, 10] [0, 200]) (Turns.rr [(0, 0), (200, 22200)])) ?_
    refine sk (S' := ⟨[(0, .P 0), (2, .P 22200), (4, .I 0), (5, .cv (.lit (.int .i32 a1))), (9, .cv (.lit (.int .i32 a1))), (10, .B (decide (a1 = 62)))], [(0, .raw (Az p0)), (22200, .raw [.I 0, .I 0, .str [], .I 0])]⟩) ?_
    cases h
    exact ⟨rfl, _, rfl, rfl⟩
   refine fF c3 <| awp_post (rg0 L 220 ⟨rfl, rfl⟩) (Turns.trans (Turns.kk [0, 2, 4, 5, 9, 10] [0, 200]) (Turns.trans (Turns.rr [(0, 0), (200, 22200)]) (Turns.kp (S' := ⟨[(0, .P 0), (2, .P 22200), (4, .I 0), (5, .cv (.lit (.int .i32 a1))), (9, .cv (.lit (.int .i32 a1))), (10, .B (decide (a1 = 33)))], [(0, .raw (Az p0)), (22200, .raw [.I 0, .I 0, .str [], .I 0])]⟩)))) ?_
   cases h
   exact ⟨rfl, _, rfl, rfl⟩
  ·rintro e S ⟨rfl, xt10_11, rfl, rfl⟩
   rcases ite_some h with ⟨c4, h⟩ | ⟨c4, h⟩
   ·refine tt c4 <| awp_seq ?_
    obtain ⟨a2, h2, h⟩ := bind_some h
    refine rg L 223 [] [(1, .cv (.lit (.int .i32 a2)))] [] (plt (Cf.ok h2)) ?_
    rcases ite_some h with ⟨c5, h⟩ | ⟨c5, h⟩
    ·refine tT c5 <| awp_post (rg0 L 227 ⟨rfl, rfl⟩) (Turns.trans (Turns.kk [0, 2, 4] [0, 22200]) (Turns.trans (Turns.rr [(0, 0), (22200, 21000)]) (Turns.kp (S' := ⟨[(0, .P 0), (2, .P 21000), (4, .I 2)], [(0, .raw (Az p0)), (21000, .raw [.I 0, .I 0, .str [], .I 0])]⟩)))) ?_
     cases h
     exact ⟨rfl, _, rfl, rfl⟩
    refine fF c5 <| sg0 L 229 ?_
    rcases ite_some h with ⟨c6, h⟩ | ⟨c6, h⟩
    ·refine tT c6 <| awp_post (rg0 L 232 ⟨rfl, rfl⟩) (Turns.trans (Turns.kk [0, 2, 4] [0, 22200]) (Turns.trans (Turns.rr [(0, 0), (22200, 21000)]) (Turns.kp (S' := ⟨[(0, .P 0), (2, .P 21000), (4, .I 1)], [(0, .raw (Az p0)), (21000, .raw [.I 0, .I 0, .str [], .I 0])]⟩)))) ?_
     cases h
     exact ⟨rfl, _, rfl, rfl⟩
    refine fF c6 <| awp_turn (Turns.trans (Turns.kk [0, 2, 4] [0, 22200]) (Turns.rr [(0, 0), (22200, 21000)])) ?_
    refine sk (S' := ⟨[(0, .P 0), (2, .P 21000), (4, .I 0)], [(0, .raw (Az p0)), (21000, .raw [.I 0, .I 0, .str [], .I 0])]⟩) ?_
    cases h
    exact ⟨rfl, _, rfl, rfl⟩
   refine fN c4 <| awp_seq <| sg0 L 234 ?_
   rcases ite_some h with ⟨c7, h⟩ | ⟨c7, h⟩
   ·refine tT c7 <| awp_skip' <| tT c7 <| awp_post (rg0 L 279 ⟨rfl, rfl⟩) (Turns.trans (Turns.kk [0, 2, 4] [0, 22200]) (Turns.trans (Turns.rr [(0, 0), (22200, 21000)]) (Turns.kp (S' := ⟨[(0, .P 0), (2, .P 21000), (4, .I 1)], [(0, .raw (Az p0)), (21000, .raw [.I 0, .I 0, .str [], .I 0])]⟩)))) ?_
    cases h
    exact ⟨rfl, _, rfl, rfl⟩
   refine fF c7 <| sg0 L 237 ?_
   rcases ite_some h with ⟨c8, h⟩ | ⟨c8, h⟩
   ·refine tT c8 <| awp_skip' <| tT c8 <| awp_post (rg0 L 279 ⟨rfl, rfl⟩) (Turns.trans (Turns.kk [0, 2, 4] [0, 22200]) (Turns.trans (Turns.rr [(0, 0), (22200, 21000)]) (Turns.kp (S' := ⟨[(0, .P 0), (2, .P 21000), (4, .I 1)], [(0, .raw (Az p0)), (21000, .raw [.I 0, .I 0, .str [], .I 0])]⟩)))) ?_
    cases h
    exact ⟨rfl, _, rfl, rfl⟩
   refine fF c8 <| sg0 L 240 ?_
   rcases ite_some h with ⟨c9, h⟩ | ⟨c9, h⟩
   ·refine tT c9 <| awp_skip' <| tT c9 <| awp_post (rg0 L 279 ⟨rfl, rfl⟩) (Turns.trans (Turns.kk [0, 2, 4] [0, 22200]) (Turns.trans (Turns.rr [(0, 0), (22200, 21000)]) (Turns.kp (S' := ⟨[(0, .P 0), (2, .P 21000), (4, .I 1)], [(0, .raw (Az p0)), (21000, .raw [.I 0, .I 0, .str [], .I 0])]⟩)))) ?_
    cases h
    exact ⟨rfl, _, rfl, rfl⟩
   refine fF c9 <| sg0 L 243 ?_
   rcases ite_some h with ⟨c10, h⟩ | ⟨c10, h⟩
   ·refine tT c10 <| awp_skip' <| tT c10 <| awp_post (rg0 L 279 ⟨rfl, rfl⟩) (Turns.trans (Turns.kk [0, 2, 4] [0, 22200]) (Turns.trans (Turns.rr [(0, 0), (22200, 21000)]) (Turns.kp (S' := ⟨[(0, .P 0), (2, .P 21000), (4, .I 1)], [(0, .raw (Az p0)), (21000, .raw [.I 0, .I 0, .str [], .I 0])]⟩)))) ?_
    cases h
    exact ⟨rfl, _, rfl, rfl⟩
   refine fF c10 <| sg0 L 246 ?_
   rcases ite_some h with ⟨c11, h⟩ | ⟨c11, h⟩
   ·refine tT c11 <| awp_skip' <| tT c11 <| awp_post (rg0 L 279 ⟨rfl, rfl⟩) (Turns.trans (Turns.kk [0, 2, 4] [0, 22200]) (Turns.trans (Turns.rr [(0, 0), (22200, 21000)]) (Turns.kp (S' := ⟨[(0, .P 0), (2, .P 21000), (4, .I 1)], [(0, .raw (Az p0)), (21000, .raw [.I 0, .I 0, .str [], .I 0])]⟩)))) ?_
    cases h
    exact ⟨rfl, _, rfl, rfl⟩
   refine fF c11 <| sg0 L 249 ?_
   rcases ite_some h with ⟨c12, h⟩ | ⟨c12, h⟩
   ·refine tT c12 <| awp_skip' <| tT c12 <| awp_post (rg0 L 279 ⟨rfl, rfl⟩) (Turns.trans (Turns.kk [0, 2, 4] [0, 22200]) (Turns.trans (Turns.rr [(0, 0), (22200, 21000)]) (Turns.kp (S' := ⟨[(0, .P 0), (2, .P 21000), (4, .I 1)], [(0, .raw (Az p0)), (21000, .raw [.I 0, .I 0, .str [], .I 0])]⟩)))) ?_
    cases h
    exact ⟨rfl, _, rfl, rfl⟩
   refine fF c12 <| sg0 L 252 ?_
   rcases ite_some h with ⟨c13, h⟩ | ⟨c13, h⟩
   ·refine tT c13 <| awp_skip' <| tT c13 <| awp_post (rg0 L 279 ⟨rfl, rfl⟩) (Turns.trans (Turns.kk [0, 2, 4] [0, 22200]) (Turns.trans (Turns.rr [(0, 0), (22200, 21000)]) (Turns.kp (S' := ⟨[(0, .P 0), (2, .P 21000), (4, .I 1)], [(0, .raw (Az p0)), (21000, .raw [.I 0, .I 0, .str [], .I 0])]⟩)))) ?_
    cases h
    exact ⟨rfl, _, rfl, rfl⟩
   refine fF c13 <| sg0 L 255 ?_
   rcases ite_some h with ⟨c14, h⟩ | ⟨c14, h⟩
   ·refine tT c14 <| awp_skip' <| tT c14 <| awp_post (rg0 L 279 ⟨rfl, rfl⟩) (Turns.trans (Turns.kk [0, 2, 4] [0, 22200]) (Turns.trans (Turns.rr [(0, 0), (22200, 21000)]) (Turns.kp (S' := ⟨[(0, .P 0), (2, .P 21000), (4, .I 1)], [(0, .raw (Az p0)), (21000, .raw [.I 0, .I 0, .str [], .I 0])]⟩)))) ?_
    cases h
    exact ⟨rfl, _, rfl, rfl⟩
   refine fF c14 <| sg0 L 258 ?_
   rcases ite_some h with ⟨c15, h⟩ | ⟨c15, h⟩
   ·refine tT c15 <| awp_skip' <| tT c15 <| awp_post (rg0 L 279 ⟨rfl, rfl⟩) (Turns.trans (Turns.kk [0, 2, 4] [0, 22200]) (Turns.trans (Turns.rr [(0, 0), (22200, 21000)]) (Turns.kp (S' := ⟨[(0, .P 0), (2, .P 21000), (4, .I 1)], [(0, .raw (Az p0)), (21000, .raw [.I 0, .I 0, .str [], .I 0])]⟩)))) ?_
    cases h
    exact ⟨rfl, _, rfl, rfl⟩
   refine fF c15 <| sg0 L 261 ?_
   rcases ite_some h with ⟨c16, h⟩ | ⟨c16, h⟩
   ·refine tT c16 <| awp_skip' <| tT c16 <| awp_post (rg0 L 279 ⟨rfl, rfl⟩) (Turns.trans (Turns.kk [0, 2, 4] [0, 22200]) (Turns.trans (Turns.rr [(0, 0), (22200, 21000)]) (Turns.kp (S' := ⟨[(0, .P 0), (2, .P 21000), (4, .I 1)], [(0, .raw (Az p0)), (21000, .raw [.I 0, .I 0, .str [], .I 0])]⟩)))) ?_
    cases h
    exact ⟨rfl, _, rfl, rfl⟩
   refine fF c16 <| sg0 L 264 ?_
   rcases ite_some h with ⟨c17, h⟩ | ⟨c17, h⟩
   ·refine tT c17 <| awp_skip' <| tT c17 <| awp_post (rg0 L 279 ⟨rfl, rfl⟩) (Turns.trans (Turns.kk [0, 2, 4] [0, 22200]) (Turns.trans (Turns.rr [(0, 0), (22200, 21000)]) (Turns.kp (S' := ⟨[(0, .P 0), (2, .P 21000), (4, .I 1)], [(0, .raw (Az p0)), (21000, .raw [.I 0, .I 0, .str [], .I 0])]⟩)))) ?_
    cases h
    exact ⟨rfl, _, rfl, rfl⟩
   refine fF c17 <| sg0 L 267 ?_
   rcases ite_some h with ⟨c18, h⟩ | ⟨c18, h⟩
   ·refine tT c18 <| awp_skip' <| tT c18 <| awp_post (rg0 L 279 ⟨rfl, rfl⟩) (Turns.trans (Turns.kk [0, 2, 4] [0, 22200]) (Turns.trans (Turns.rr [(0, 0), (22200, 21000)]) (Turns.kp (S' := ⟨[(0, .P 0), (2, .P 21000), (4, .I 1)], [(0, .raw (Az p0)), (21000, .raw [.I 0, .I 0, .str [], .I 0])]⟩)))) ?_
    cases h
    exact ⟨rfl, _, rfl, rfl⟩
   refine fF c18 <| sg0 L 270 ?_
   rcases ite_some h with ⟨c19, h⟩ | ⟨c19, h⟩
   ·refine tT c19 <| awp_skip' <| tT c19 <| awp_post (rg0 L 279 ⟨rfl, rfl⟩) (Turns.trans (Turns.kk [0, 2, 4] [0, 22200]) (Turns.trans (Turns.rr [(0, 0), (22200, 21000)]) (Turns.kp (S' := ⟨[(0, .P 0), (2, .P 21000), (4, .I 1)], [(0, .raw (Az p0)), (21000, .raw [.I 0, .I 0, .str [], .I 0])]⟩)))) ?_
    cases h
    exact ⟨rfl, _, rfl, rfl⟩
   refine fF c19 <| sg0 L 273 ?_
   rcases ite_some h with ⟨c20, h⟩ | ⟨c20, h⟩
   ·refine tT c20 <| awp_skip' <| tT c20 <| awp_post (rg0 L 279 ⟨rfl, rfl⟩) (Turns.trans (Turns.kk [0, 2, 4] [0, 22200]) (Turns.trans (Turns.rr [(0, 0), (22200, 21000)]) (Turns.kp (S' := ⟨[(0, .P 0), (2, .P 21000), (4, .I 1)], [(0, .raw (Az p0)), (21000, .raw [.I 0, .I 0, .str [], .I 0])]⟩)))) ?_
    cases h
    exact ⟨rfl, _, rfl, rfl⟩
   refine fF c20 <| rg0 L 276 ?_
   rcases ite_some h with ⟨c21, h⟩ | ⟨c21, h⟩
   ·refine tT c21 <| awp_post (rg0 L 279 ⟨rfl, rfl⟩) (Turns.trans (Turns.kk [0, 2, 4] [0, 22200]) (Turns.trans (Turns.rr [(0, 0), (22200, 21000)]) (Turns.kp (S' := ⟨[(0, .P 0), (2, .P 21000), (4, .I 1)], [(0, .raw (Az p0)), (21000, .raw [.I 0, .I 0, .str [], .I 0])]⟩)))) ?_
    cases h
    exact ⟨rfl, _, rfl, rfl⟩
   refine fF c21 <| awp_turn (Turns.trans (Turns.kk [0, 2, 4] [0, 22200]) (Turns.rr [(0, 0), (22200, 21000)])) ?_
   refine sk (S' := ⟨[(0, .P 0), (2, .P 21000), (4, .I 0)], [(0, .raw (Az p0)), (21000, .raw [.I 0, .I 0, .str [], .I 0])]⟩) ?_
   cases h
   exact ⟨rfl, _, rfl, rfl⟩
 ·rintro e S ⟨rfl, xt4_5, rfl, rfl⟩
  refine awp_seq <| sg0 L 281 ?_
  rcases ite_some h with ⟨c22, h⟩ | ⟨c22, h⟩
  ·refine tT c22 <| sg0 L 284 <| awp_turn (Turns.trans (Turns.kk [2, 3] [0, 21000]) (Turns.rr [(0, 0), (21000, 100)])) ?_
   refine awp_ret ?_
   cases h
   exact er0
  refine fF c22 <| awp_skip' <| awp_seq ?_
  obtain ⟨g1, h⟩ := guard_some h
  refine rd L mixed 288 [] [] [] [] 16 (plc g1.1 (plc g1.2.1 (pl1 g1.2.2))) ?_
  refine sg0 L 305 <| sg0 L 315 <| awp_turn (Turns.trans (Turns.kk [2, 3] [0, 21000]) (Turns.rr [(0, 0), (21000, 100)])) ?_
  refine awp_ret ?_
  cases h
  exact er0
theorem Ec.okE {K : Nat} {p0 : As} {r : Aw × Int × As} (h : Ec K p0 = some r) : ECall V P 103 [.P 0] [(0, .raw (Az p0))] [0] (.tup [.agg [.I r.1.Kind, .I r.1.At, .str r.1.Text, .I r.1.Int], .I r.2.1]) [(0, .raw [.str r.2.2.src, .I r.2.2.at_])] :=
 eo (fn := Tryz.f103) (n := 64) (m := 100) fun Γ => Ec.body h
def Ea (K : Nat) (p0 : As) : Option (Aw × Int × As) := (Option.bind (Cf K p0 0) (fun a1 => (Option.bind (Ej K a1) (fun a2 => (if a2 = true then (Option.bind (Eb K p0) (fun (a3_0, a3_1, a3_2) => some (a3_0, a3_1, a3_2))) else (Option.bind (Ew K a1) (fun a4 => (if a4 = true then (Option.bind (D6 K p0) (fun (a5_0, a5_1, a5_2) => some (a5_0, a5_1, a5_2))) else (if a1 = 34 then (Option.bind (Dd K p0) (fun (a6_0, a6_1, a6_2) => some (a6_0, a6_1, a6_2))) else (Option.bind (Ec K p0) (fun (a7_0, a7_1, a7_2) => some (a7_0, a7_1, a7_2))))))))))))
theorem Ea.body {Γ : Ent} {K : Nat} {p0 : As} {r : Aw × Int × As} (h : Ea K p0 = some r) : AWp V P 32 100 Γ (Tryz.f72.body.getD .skip) (EndsE P V Tryz.f72 (.tup [.agg [.I r.1.Kind, .I r.1.At, .str r.1.Text, .I r.1.Int], .I r.2.1]) [(0, .raw [.str r.2.2.src, .I r.2.2.at_])]) ⟨args0 0 [.P 0], [(0, .raw (Az p0))]⟩ := by
 unfold Ea at h
 refine sg0 L 200 <| awp_seq <| awp_seq ?_
 obtain ⟨a1, h1, h⟩ := bind_some h
 refine rg L 203 [] [(1, .cv (.lit (.int .i32 a1)))] [] (plt (Cf.ok h1)) ?_
 refine awp_block <| awp_seq ?_
 obtain ⟨a2, h2, h⟩ := bind_some h
 refine rg L 207 [] [(1, .B a2)] [] (plt (Ej.ok h2)) ?_
 rcases ite_some h with ⟨c1, h⟩ | ⟨c1, h⟩
 ·refine tt c1 <| awp_seq ?_
  obtain ⟨⟨a3_0, a3_1, a3_2⟩, h3, h⟩ := bind_some h
  dsimp only at h
  refine rg L 211 [] [] [(1, (ef0 (.tup [.agg (Dp a3_0), .I a3_1]) [(0, .raw (Az a3_2))]))] (pl1 (Eb.okE h3)) ?_
  refine awp_turn (Turns.trans (Turns.kk [2, 3] [0, 200]) (Turns.rr [(0, 0), (200, 100)])) ?_
  refine awp_ret ?_
  cases h
  exact er0
 refine fN c1 <| awp_seq ?_
 obtain ⟨a4, h4, h⟩ := bind_some h
 refine rg L 218 [] [(1, .B a4)] [] (plt (Ew.ok h4)) ?_
 rcases ite_some h with ⟨c2, h⟩ | ⟨c2, h⟩
 ·refine tt c2 <| awp_seq ?_
  obtain ⟨⟨a5_0, a5_1, a5_2⟩, h5, h⟩ := bind_some h
  dsimp only at h
  refine rg L 222 [] [] [(1, (ef0 (.tup [.agg (Dp a5_0), .I a5_1]) [(0, .raw (Az a5_2))]))] (pl1 (D6.okE h5)) ?_
  refine awp_turn (Turns.trans (Turns.kk [2, 3] [0, 200]) (Turns.rr [(0, 0), (200, 100)])) ?_
  refine awp_ret ?_
  cases h
  exact er0
 refine fN c2 <| sg0 L 229 ?_
 rcases ite_some h with ⟨c3, h⟩ | ⟨c3, h⟩
 ·refine tT c3 <| awp_seq ?_
  obtain ⟨⟨a6_0, a6_1, a6_2⟩, h6, h⟩ := bind_some h
  dsimp only at h
  refine rg L 233 [] [] [(1, (ef0 (.tup [.agg (Dp a6_0), .I a6_1]) [(0, .raw (Az a6_2))]))] (pl1 (Dd.okE h6)) ?_
  refine awp_turn (Turns.trans (Turns.kk [2, 3] [0, 200]) (Turns.rr [(0, 0), (200, 100)])) ?_
  refine awp_ret ?_
  cases h
  exact er0
 refine fF c3 <| awp_skip' <| awp_seq ?_
 obtain ⟨⟨a7_0, a7_1, a7_2⟩, h7, h⟩ := bind_some h
 dsimp only at h
 refine rg L 240 [] [] [(1, (ef0 (.tup [.agg (Dp a7_0), .I a7_1]) [(0, .raw (Az a7_2))]))] (pl1 (Ec.okE h7)) ?_
 refine awp_turn (Turns.trans (Turns.kk [2, 3] [0, 200]) (Turns.rr [(0, 0), (200, 100)])) ?_
 refine awp_ret ?_
 cases h
 exact er0
theorem Ea.okE {K : Nat} {p0 : As} {r : Aw × Int × As} (h : Ea K p0 = some r) : ECall V P 72 [.P 0] [(0, .raw (Az p0))] [0] (.tup [.agg [.I r.1.Kind, .I r.1.At, .str r.1.Text, .I r.1.Int], .I r.2.1]) [(0, .raw [.str r.2.2.src, .I r.2.2.at_])] :=
 eo (fn := Tryz.f72) (n := 32) (m := 100) fun Γ => Ea.body h
def En.l16 (K : Nat) (p0 : List UInt8) : Nat → (List UInt8) → Int → (List Aw) → Option (Out ((List Aw) × Int × Int) Unit)
 | 0, _, _, _ => none
 | k + 1, x23300_0, x23300_1, x23301 => (Option.bind (Dh K (⟨x23300_0, x23300_1⟩ : As)) (fun (a1_0, a1_1) => (if a1_1.at_ ≥ (p0.length : Int) then (if (x23301.length + ([(⟨0, a1_1.at_, [], 0⟩ : Aw)] : List Aw).length) * 40 ≤ 140737488355328 then some (Out.done ((x23301 ++ ([(⟨0, a1_1.at_, [], 0⟩ : Aw)] : List Aw)), 0, 0)) else none) else (Option.bind (Ea K a1_1) (fun (a2_0, a2_1, a2_2) => (if a2_1 ≠ 0 then some (Out.done (([] : List Aw), a1_1.at_, a2_1)) else (if (x23301.length + ([(⟨a2_0.Kind, a1_1.at_, a2_0.Text, a2_0.Int⟩ : Aw)] : List Aw).length) * 40 ≤ 140737488355328 then En.l16 K p0 k a2_2.src a2_2.at_ (x23301 ++ ([(⟨a2_0.Kind, a1_1.at_, a2_0.Text, a2_0.Int⟩ : Aw)] : List Aw)) else none)))))))
def En (K : Nat) (p0 : List UInt8) : Option ((List Aw) × Int × Int) := (if (p0.length : Int) > 16384 then some (([] : List Aw), 0, 6) else (obind (En.l16 K p0 K p0 0 ([] : List Aw) : Option (Out ((List Aw) × Int × Int) Unit)) (fun r => r) (fun _ => none)))
theorem En.body {Γ : Ent} {K : Nat} {p0 : List UInt8} {r : (List Aw) × Int × Int} (h : En K p0 = some r) : AWp V P 46 100 Γ (Tryz.f40.body.getD .skip) (EndsE P V Tryz.f40 (.tup [.cv (.ro .Ax r.1), .I r.2.1, .I r.2.2]) []) ⟨args0 0 [.cv (.str p0)], []⟩ := by
 unfold En at h
 refine sg0 L 200 <| awp_seq <| sg0 L 204 ?_
 rcases ite_some h with ⟨c1, h⟩ | ⟨c1, h⟩
 ·refine tT c1 <| sg0 L 208 <| awp_ret ?_
  cases h
  exact er0
 refine fF c1 <| awp_skip' <| sg0 L 212 <| sg0 L 217 <| awp_block <| awp_turn (Turns.trans (Turns.kk [0, 5, 6] [214]) (Turns.trans (Turns.no 6 9500 Tag.Ax) (Turns.trans (Turns.kk [0, 5, 6] [214, 9500]) (Turns.rr [(214, 23300), (9500, 23301)])))) ?_
 refine kp (S' := ⟨[(0, .cv (.str p0)), (5, .P 23300), (6, .cv (.own .Ax 23301))], [(23300, .raw [.str p0, .I 0]), (23301, .lst .Ax ([] : List Aw))]⟩) ?_
 obtain ⟨o1, hp1, h⟩ := obind_some h
 refine awp_conseq (Q' := fun e S => False ∨ (e = .ret ∧ ∃ a, Out.done a = o1 ∧ EndsE P V Tryz.f40 (.tup [.cv (.ro .Ax a.1), .I a.2.1, .I a.2.2]) [] .ret S)) (awp_loop (fun k S => ∃ x23300_0 : List UInt8, ∃ x23300_1 : Int, ∃ x23301 : List Aw, S = ⟨[(0, .cv (.str p0)), (5, .P 23300), (6, .cv (.own .Ax 23301))], [(23300, .raw [.str x23300_0, .I x23300_1]), (23301, .lst .Ax x23301)]⟩ ∧ En.l16 K p0 k x23300_0 x23300_1 x23301 = some o1) ?_ ⟨_, _, _, rfl, hp1⟩) ?_
 ·clear h hp1
  intro k S hS
  obtain ⟨x23300_0, x23300_1, x23301, rfl, h⟩ := hS
  cases k with
  | zero => cases h
  | succ k =>
  unfold En.l16 at h
  refine awp_block <| awp_seq ?_
  obtain ⟨⟨a1_0, a1_1⟩, h1, h⟩ := bind_some h
  dsimp only at h
  refine rg L 219 [] [] [(1, (ef [0] [0] (.cv (.str a1_0)) [(0, .raw (Az a1_1))] [(0, 23300)]))] (pl1 (Dh.okE h1)) ?_
  refine sg0 L 222 <| awp_seq <| sg0 L 228 ?_
  rcases ite_some h with ⟨c2, h⟩ | ⟨c2, h⟩
  ·refine tT c2 <| awp_seq ?_
   obtain ⟨g1, h⟩ := guard_some h
   refine rg L 233 [] [] [] (plt g1) ?_
   refine awp_turn (Turns.trans (Turns.kk [2, 3, 4] [23301]) (Turns.fz 23301)) ?_
   refine awp_ret ?_
   cases h
   exact .inr ⟨rfl, _, rfl, er0⟩
  refine fF c2 <| awp_skip' <| awp_seq ?_
  obtain ⟨⟨a2_0, a2_1, a2_2⟩, h2, h⟩ := bind_some h
  dsimp only at h
  refine rg L 242 [] [] [(1, (ef [0] [0] (.tup [.agg (Dp a2_0), .I a2_1]) [(0, .raw (Az a2_2))] [(0, 23300)]))] (pl1 (Ea.okE h2)) ?_
  refine awp_seq <| sg0 L 251 ?_
  rcases ite_some h with ⟨c3, h⟩ | ⟨c3, h⟩
  ·refine tT c3 <| sg0 L 254 <| awp_ret ?_
   cases h
   exact .inr ⟨rfl, _, rfl, er0⟩
  refine fF c3 <| awp_skip' <| sg0 L 260 ?_
  obtain ⟨g2, h⟩ := guard_some h
  refine ar L 264 [] [] [] (cs := [(x23301.length + ([(⟨a2_0.Kind, a1_1.at_, a2_0.Text, a2_0.Int⟩ : Aw)] : List Aw).length) * 40 ≤ 140737488355328, True]) (S' := ⟨[(0, .cv (.str p0)), (5, .P 23300), (6, .cv (.own .Ax 23301))], [(23300, .raw (Az a2_2)), (23301, .lst .Ax (x23301 ++ ([(⟨a2_0.Kind, a1_1.at_, a2_0.Text, a2_0.Int⟩ : Aw)] : List Aw)))]⟩) (And.intro g2 trivial) ?_
  exact ⟨k, Nat.lt_succ_self k, _, _, _, rfl, h⟩
 ·rintro e S (hf | ⟨rfl, a, rfl, hr⟩)
  ·exact hf.elim
  ·rcases h with ⟨_, e1, h⟩ | ⟨_, e1, h⟩
   ·have e2 := Out.done.inj e1
    subst e2
    subst h
    exact ⟨_, Turns.refl, hr⟩
   ·cases e1
theorem En.ok {K : Nat} {p0 : List UInt8} {r : (List Aw) × Int × Int} (h : En K p0 = some r) : PCall V P 40 [.cv (.str p0)] (.tup [.cv (.ro .Ax r.1), .I r.2.1, .I r.2.2]) := ECall.pcall (eo (fn := Tryz.f40) (n := 46) (m := 100) fun Γ => En.body h) (by kernel_rfl)
def Bo (K : Nat) (p0 : Ab) : Option Aw := (if (0 : Int) ≤ (if (IntKind.i64.wrap ((p0.l.length : Int) - 1)) < p0.i then (IntKind.i64.wrap ((p0.l.length : Int) - 1)) else p0.i) ∧ ((if (IntKind.i64.wrap ((p0.l.length : Int) - 1)) < p0.i then (IntKind.i64.wrap ((p0.l.length : Int) - 1)) else p0.i) : Int) < (p0.l.length : Int) then some ((p0.l.getD (Int.toNat (if (IntKind.i64.wrap ((p0.l.length : Int) - 1)) < p0.i then (IntKind.i64.wrap ((p0.l.length : Int) - 1)) else p0.i)) Fd)) else none)
theorem Bo.body {Γ : Ent} {K : Nat} {p0 : Ab} {r : Aw} (h : Bo K p0 = some r) : AWp V P 20 100 Γ (Tryz.f42.body.getD .skip) (EndsE P V Tryz.f42 (.agg [.I r.Kind, .I r.At, .str r.Text, .I r.Int]) []) ⟨args0 0 [.cv (.pcs (Ac p0) 0)], []⟩ := by
 unfold Bo at h
 refine sg0 L 200 <| awp_seq ?_
 obtain ⟨g1, h⟩ := guard_some h
 refine rd L mixed 202 [] [] [] [200] 18 (pl2 g1.1 g1.2) ?_
 refine awp_turn (Turns.trans (Turns.kk [2] [200]) (Turns.rr [(200, 100)])) ?_
 refine awp_ret ?_
 cases h
 exact er0
theorem Bo.ok {K : Nat} {p0 : Ab} {r : Aw} (h : Bo K p0 = some r) : PCall V P 42 [.cv (.pcs (Ac p0) 0)] (.agg [.I r.Kind, .I r.At, .str r.Text, .I r.Int]) := ECall.pcall (eo (fn := Tryz.f42) (n := 20) (m := 100) fun Γ => Bo.body h) (by kernel_rfl)
def Dw (K : Nat) (p0 : Ab) (p1 : List UInt8) : Option Bool := (Option.bind (Bo K p0) (fun a1 => (if a1.Kind = 2 then some (decide (a1.Text = p1)) else (if a1.Kind = 5 then some (decide (a1.Text = p1)) else some false))))
theorem Dw.body {Γ : Ent} {K : Nat} {p0 : Ab} {p1 : List UInt8} {r : Bool} (h : Dw K p0 p1 = some r) : AWp V P 22 100 Γ (Tryz.f73.body.getD .skip) (EndsE P V Tryz.f73 (.B r) []) ⟨args0 0 [.cv (.pcs (Ac p0) 0), .cv (.str p1)], []⟩ := by
 unfold Dw at h
 refine sg0 L 200 <| awp_seq ?_
 obtain ⟨a1, h1, h⟩ := bind_some h
 refine rg L 202 [] [(1, .agg (Dp a1))] [] (plt (Bo.ok h1)) ?_
 refine awp_seq ?_
 rcases ite_some h with ⟨c1, h⟩ | ⟨c1, h⟩
 ·refine rg L 207 [(3, true)] [] [] (pl1 (decide_eq_true c1)) ?_
  refine awp_ret ?_
  cases h
  exact er0
 rcases ite_some h with ⟨c2, h⟩ | ⟨c2, h⟩
 ·refine rg L 207 [(3, false), (8, true)] [] [] (pl2 (decide_eq_false c1) (decide_eq_true c2)) ?_
  refine awp_ret ?_
  cases h
  exact er0
 refine rg L 207 [(3, false), (8, false)] [] [] (pl2 (decide_eq_false c1) (decide_eq_false c2)) ?_
 refine awp_ret ?_
 cases h
 exact er0
theorem Dw.ok {K : Nat} {p0 : Ab} {p1 : List UInt8} {r : Bool} (h : Dw K p0 p1 = some r) : PCall V P 73 [.cv (.pcs (Ac p0) 0), .cv (.str p1)] (.B r) := ECall.pcall (eo (fn := Tryz.f73) (n := 22) (m := 100) fun Γ => Dw.body h) (by kernel_rfl)
def Aj (K : Nat) (p0 : List UInt8) (p1 : Ab) : Option (Bool × Ab) := (Option.bind (Dw K p1 p0) (fun a1 => (if a1 = true then some (true, (⟨p1.l, (IntKind.i64.wrap (p1.i + 1))⟩ : Ab)) else some (false, p1))))
theorem Aj.body {Γ : Ent} {K : Nat} {p0 : List UInt8} {p1 : Ab} {r : Bool × Ab} (h : Aj K p0 p1 = some r) : AWp V P 16 100 Γ (Tryz.f44.body.getD .skip) (EndsE P V Tryz.f44 (.B r.1) [(0, .raw [.ro .Ax r.2.l, .I r.2.i])]) ⟨args0 0 [.P 0, .cv (.str p0)], [(0, .raw (Ac p1))]⟩ := by
 unfold Aj at h
 refine sg0 L 200 <| awp_seq <| awp_seq ?_
 obtain ⟨a1, h1, h⟩ := bind_some h
 refine rg L 202 [] [(2, .B a1)] [] (plt (Dw.ok h1)) ?_
 rcases ite_some h with ⟨c1, h⟩ | ⟨c1, h⟩
 ·refine ff (b := (!a1)) (congrArg Bool.not (c1)) ?_
  refine awp_skip' <| sg0 L 209 <| sg0 L 218 <| awp_ret ?_
  cases h
  exact er0
 refine tt (b := (!a1)) (congrArg Bool.not (eq_false_of_ne_true c1)) ?_
 refine sg0 L 207 <| awp_ret ?_
 cases h
 exact er0
theorem Aj.okE {K : Nat} {p0 : List UInt8} {p1 : Ab} {r : Bool × Ab} (h : Aj K p0 p1 = some r) : ECall V P 44 [.P 0, .cv (.str p0)] [(0, .raw (Ac p1))] [0] (.B r.1) [(0, .raw [.ro .Ax r.2.l, .I r.2.i])] :=
 eo (fn := Tryz.f44) (n := 16) (m := 100) fun Γ => Aj.body h
def Bj (K : Nat) (p0 : Ab) : Option Int := (Option.bind (Bo K p0) (fun a1 => some a1.At))
def Bj.rep (p0 : Ab) : Int → Outc T
 | v0 => .pan (ofi 49 v0)
def Bj.post (p0 : Ab) : Int → List (Nat × Blk T)
 | v0 => []
theorem Bj.body {Γ : Ent} {K : Nat} {p0 : Ab} {r : Int} (h : Bj K p0 = some r) : AWp V P 7 100 Γ (Tryz.f43.body.getD .skip) (EndsX P V Tryz.f43 (Bj.rep p0 r) (Bj.post p0 r)) ⟨args0 0 [.P 0], [(0, .raw (Ac p0))]⟩ := by
 unfold Bj at h
 obtain ⟨a1, h1, h⟩ := bind_some h
 refine qn L 200 [] [(1, .agg (Dp a1))] [] 5 (ef [] [] (.tup []) [] []) (ofi 49 a1.At) (plc (Bo.ok h1) (plc trivial (pl1 (show (ofi 49 a1.At) = (ofi 49 a1.At) from rfl)))) ?_
 cases h
 exact rfl
theorem Bj.okE {K : Nat} {p0 : Ab} {r : Int} (h : Bj K p0 = some r) : XCall V P 43 [.P 0] [(0, .raw (Ac p0))] [0] (Bj.post p0 r) (Bj.rep p0 r) :=
 xo (fn := Tryz.f43) (n := 7) (m := 100) fun Γ => Bj.body h
def Dl (K : Nat) (p0 : Ab) : Option (Aw × Ab) := (Option.bind (Bo K p0) (fun a1 => some (a1, (⟨p0.l, (IntKind.i64.wrap (p0.i + 1))⟩ : Ab))))
theorem Dl.body {Γ : Ent} {K : Nat} {p0 : Ab} {r : Aw × Ab} (h : Dl K p0 = some r) : AWp V P 14 100 Γ (Tryz.f74.body.getD .skip) (EndsE P V Tryz.f74 (.agg [.I r.1.Kind, .I r.1.At, .str r.1.Text, .I r.1.Int]) [(0, .raw [.ro .Ax r.2.l, .I r.2.i])]) ⟨args0 0 [.P 0], [(0, .raw (Ac p0))]⟩ := by
 unfold Dl at h
 refine sg0 L 200 <| awp_seq ?_
 obtain ⟨a1, h1, h⟩ := bind_some h
 refine rg L 202 [] [(1, .agg (Dp a1))] [] (plt (Bo.ok h1)) ?_
 refine sg0 L 207 <| sg0 L 216 <| awp_turn (Turns.trans (Turns.kk [2] [0, 200]) (Turns.rr [(0, 0), (200, 100)])) ?_
 refine awp_ret ?_
 cases h
 exact er0
theorem Dl.okE {K : Nat} {p0 : Ab} {r : Aw × Ab} (h : Dl K p0 = some r) : ECall V P 74 [.P 0] [(0, .raw (Ac p0))] [0] (.agg [.I r.1.Kind, .I r.1.At, .str r.1.Text, .I r.1.Int]) [(0, .raw [.ro .Ax r.2.l, .I r.2.i])] :=
 eo (fn := Tryz.f74) (n := 14) (m := 100) fun Γ => Dl.body h
def Aq (K : Nat) (p0 : Ab) : Option (Int ⊕ ((List UInt8) × Ab)) := (Option.bind (Bo K p0) (fun a1 => (if a1.Kind ≠ 1 then (Option.bind (Bj K p0) (fun a2 => some (Sum.inl a2))) else (Option.bind (Dl K p0) (fun (a3_0, a3_1) => some (Sum.inr (a3_0.Text, a3_1)))))))
def Aq.rep (p0 : Ab) : Int ⊕ ((List UInt8) × Ab) → Outc T
 | (Sum.inl v0) => .pan (ofi 49 v0)
 | (Sum.inr (v0, v1)) => .ret (.cv (.str v0))
def Aq.post (p0 : Ab) : Int ⊕ ((List UInt8) × Ab) → List (Nat × Blk T)
 | (Sum.inl v0) => []
 | (Sum.inr (v0, v1)) => [(0, .raw [.ro .Ax v1.l, .I v1.i])]
theorem Aq.body {Γ : Ent} {K : Nat} {p0 : Ab} {r : Int ⊕ ((List UInt8) × Ab)} (h : Aq K p0 = some r) : AWp V P 12 100 Γ (Tryz.f45.body.getD .skip) (EndsX P V Tryz.f45 (Aq.rep p0 r) (Aq.post p0 r)) ⟨args0 0 [.P 0], [(0, .raw (Ac p0))]⟩ := by
 unfold Aq at h
 refine sg0 L 200 <| awp_seq <| awp_seq ?_
 obtain ⟨a1, h1, h⟩ := bind_some h
 refine rg L 202 [] [(1, .agg (Dp a1))] [] (plt (Bo.ok h1)) ?_
 rcases ite_some h with ⟨c1, h⟩ | ⟨c1, h⟩
 ·refine tT c1 ?_
  obtain ⟨a2, h2, h⟩ := bind_some h
  refine qn L 207 [] [] [] 1 (ef0 (.tup []) []) (ofi 49 a2) (pl1 (Bj.okE h2)) ?_
  cases h
  exact rfl
 refine fF c1 <| awp_skip' <| awp_seq ?_
 obtain ⟨⟨a3_0, a3_1⟩, h3, h⟩ := bind_some h
 dsimp only at h
 refine rg L 210 [] [] [(1, (ef0 (.agg (Dp a3_0)) [(0, .raw (Ac a3_1))]))] (pl1 (Dl.okE h3)) ?_
 refine awp_ret ?_
 cases h
 exact xr0
theorem Aq.okE {K : Nat} {p0 : Ab} {r : Int ⊕ ((List UInt8) × Ab)} (h : Aq K p0 = some r) : XCall V P 45 [.P 0] [(0, .raw (Ac p0))] [0] (Aq.post p0 r) (Aq.rep p0 r) :=
 xo (fn := Tryz.f45) (n := 12) (m := 100) fun Γ => Aq.body h
def Al (K : Nat) (p0 : List UInt8) (p1 : Ab) : Option (Ab ⊕ Int) := (Option.bind (Aj K p0 p1) (fun (a1_0, a1_1) => (if a1_0 = true then some (Sum.inl a1_1) else (Option.bind (Bj K a1_1) (fun a2 => some (Sum.inr a2))))))
def Al.rep (p0 : List UInt8) (p1 : Ab) : Ab ⊕ Int → Outc T
 | (Sum.inl v0) => .ret (.tup [])
 | (Sum.inr v0) => .pan (ofi 49 v0)
def Al.post (p0 : List UInt8) (p1 : Ab) : Ab ⊕ Int → List (Nat × Blk T)
 | (Sum.inl v0) => [(0, .raw [.ro .Ax v0.l, .I v0.i])]
 | (Sum.inr v0) => []
theorem Al.body {Γ : Ent} {K : Nat} {p0 : List UInt8} {p1 : Ab} {r : Ab ⊕ Int} (h : Al K p0 p1 = some r) : AWp V P 10 100 Γ (Tryz.f46.body.getD .skip) (EndsX P V Tryz.f46 (Al.rep p0 p1 r) (Al.post p0 p1 r)) ⟨args0 0 [.P 0, .cv (.str p0)], [(0, .raw (Ac p1))]⟩ := by
 unfold Al at h
 refine awp_seq ?_
 obtain ⟨⟨a1_0, a1_1⟩, h1, h⟩ := bind_some h
 dsimp only at h
 refine rg L 200 [] [] [(2, (ef0 (.B a1_0) [(0, .raw (Ac a1_1))]))] (pl1 (Aj.okE h1)) ?_
 rcases ite_some h with ⟨c1, h⟩ | ⟨c1, h⟩
 ·refine ff (b := (!a1_0)) (congrArg Bool.not (c1)) ?_
  refine sk (S' := ⟨[], [(0, .raw (Ac a1_1))]⟩) ?_
  cases h
  exact xn0
 refine tt (b := (!a1_0)) (congrArg Bool.not (eq_false_of_ne_true c1)) ?_
 obtain ⟨a2, h2, h⟩ := bind_some h
 refine qn L 205 [] [] [] 1 (ef0 (.tup []) []) (ofi 49 a2) (pl1 (Bj.okE h2)) ?_
 cases h
 exact rfl
theorem Al.okE {K : Nat} {p0 : List UInt8} {p1 : Ab} {r : Ab ⊕ Int} (h : Al K p0 p1 = some r) : XCall V P 46 [.P 0, .cv (.str p0)] [(0, .raw (Ac p1))] [0] (Al.post p0 p1 r) (Al.rep p0 p1 r) :=
 xo (fn := Tryz.f46) (n := 10) (m := 100) fun Γ => Al.body h
def Ci.l7 (K : Nat) (p0 : List (List UInt8)) (p1 : List Int) (p2 : Ab) : Nat → Int → Option (Out (Int × Bool × Ab) Unit)
 | 0, _ => none
 | k + 1, xt12_7h => (if xt12_7h < (p0.length : Int) then (if (0 : Int) ≤ xt12_7h ∧ (xt12_7h : Int) < (p0.length : Int) then (Option.bind (Dw K p2 (p0.getD (Int.toNat xt12_7h) ([] : List UInt8))) (fun a1 => (if a1 = true then (if (xt12_7h : Int) < (p1.length : Int) then some (Out.done ((p1.getD (Int.toNat xt12_7h) (0 : Int)), true, (⟨p2.l, (IntKind.i64.wrap (p2.i + 1))⟩ : Ab))) else none) else Ci.l7 K p0 p1 p2 k (IntKind.i64.wrap (xt12_7h + 1))))) else none) else some (Out.go ()))
def Ci (K : Nat) (p0 : List (List UInt8)) (p1 : List Int) (p2 : Ab) : Option (Int × Bool × Ab) := (obind (Ci.l7 K p0 p1 p2 K 0 : Option (Out (Int × Bool × Ab) Unit)) (fun r => r) (fun _ => some (0, false, p2)))
theorem Ci.body {Γ : Ent} {K : Nat} {p0 : List (List UInt8)} {p1 : List Int} {p2 : Ab} {r : Int × Bool × Ab} (h : Ci K p0 p1 p2 = some r) : AWp V P 32 100 Γ (Tryz.f78.body.getD .skip) (EndsE P V Tryz.f78 (.tup [.I r.1, .B r.2.1]) [(0, .raw [.ro .Ax r.2.2.l, .I r.2.2.i])]) ⟨args0 0 [.P 0, .cv (.ro .C4 p0), .cv (.ro .E1 p1)], [(0, .raw (Ac p2))]⟩ := by
 unfold Ci at h
 refine sg0 L 200 <| awp_seq <| sg0 L 203 <| awp_block <| kp (S' := ⟨[(0, .P 0), (2, .cv (.ro .E1 p1)), (10, .cv (.ro .C4 p0)), (11, .I (p0.length : Int)), (12, .I 0)], [(0, .raw (Ac p2))]⟩) ?_
 obtain ⟨o1, hp1, h⟩ := obind_some h
 refine awp_conseq (Q' := fun e S => (e = .exit 0 ∧ S = ⟨[], [(0, .raw (Ac p2))]⟩ ∧ Out.go () = o1) ∨ (e = .ret ∧ ∃ a, Out.done a = o1 ∧ EndsE P V Tryz.f78 (.tup [.I a.1, .B a.2.1]) [(0, .raw [.ro .Ax a.2.2.l, .I a.2.2.i])] .ret S)) (awp_loop (fun k S => ∃ xt12_7h : Int, S = ⟨[(0, .P 0), (2, .cv (.ro .E1 p1)), (10, .cv (.ro .C4 p0)), (11, .I (p0.length : Int)), (12, .I xt12_7h)], [(0, .raw (Ac p2))]⟩ ∧ Ci.l7 K p0 p1 p2 k xt12_7h = some o1) ?_ ⟨_, rfl, hp1⟩) ?_
 ·clear h hp1
  intro k S hS
  obtain ⟨xt12_7h, rfl, h⟩ := hS
  cases k with
  | zero => cases h
  | succ k =>
  unfold Ci.l7 at h
  refine sg0 L 207 <| awp_seq ?_
  rcases ite_some h with ⟨c1, h⟩ | ⟨c1, h⟩
  ·refine tT c1 <| awp_skip' <| awp_seq <| awp_block <| awp_seq ?_
   obtain ⟨g1, h⟩ := guard_some h
   refine rg L 209 [] [] [] (pl2 g1.1 g1.2) ?_
   refine awp_seq ?_
   obtain ⟨a1, h1, h⟩ := bind_some h
   refine rg L 215 [] [(2, .B a1)] [] (plt (Dw.ok h1)) ?_
   rcases ite_some h with ⟨c2, h⟩ | ⟨c2, h⟩
   ·refine tt c2 <| sg0 L 219 <| awp_seq ?_
    obtain ⟨g2, h⟩ := guard_some h
    refine rg L 228 [] [] [] (pl2 g1.1 g2) ?_
    refine awp_ret ?_
    cases h
    exact .inr ⟨rfl, _, rfl, er0⟩
   refine fN c2 <| awp_skip' <| ar0 L 235 [] [] [] (S' := ⟨[(0, .P 0), (2, .cv (.ro .E1 p1)), (10, .cv (.ro .C4 p0)), (11, .I (p0.length : Int)), (12, .I (IntKind.i64.wrap (xt12_7h + 1)))], [(0, .raw (Ac p2))]⟩) ?_
   exact ⟨k, Nat.lt_succ_self k, _, rfl, h⟩
  refine fF c1 <| ex (S' := ⟨[], [(0, .raw (Ac p2))]⟩) ?_
  cases h
  exact .inl ⟨rfl, rfl, rfl⟩
 ·rintro e S (⟨rfl, rfl, rfl⟩ | ⟨rfl, a, rfl, hr⟩)
  ·rcases h with ⟨_, e1, h⟩ | ⟨_, e1, h⟩
   ·cases e1
   ·have e2 := Out.go.inj e1
    subst e2
    refine ⟨_, Turns.refl, ?_⟩
    refine sg0 L 238 <| awp_ret ?_
    cases h
    exact er0
  ·rcases h with ⟨_, e1, h⟩ | ⟨_, e1, h⟩
   ·have e2 := Out.done.inj e1
    subst e2
    subst h
    exact ⟨_, Turns.refl, hr⟩
   ·cases e1
theorem Ci.okE {K : Nat} {p0 : List (List UInt8)} {p1 : List Int} {p2 : Ab} {r : Int × Bool × Ab} (h : Ci K p0 p1 p2 = some r) : ECall V P 78 [.P 0, .cv (.ro .C4 p0), .cv (.ro .E1 p1)] [(0, .raw (Ac p2))] [0] (.tup [.I r.1, .B r.2.1]) [(0, .raw [.ro .Ax r.2.2.l, .I r.2.2.i])] :=
 eo (fn := Tryz.f78) (n := 32) (m := 100) fun Γ => Ci.body h
def Dn (K : Nat) (p0 : Ab) : Option (Aa × Bool × Ab) := (Option.bind (Bo K p0) (fun a1 => (if a1.Kind = 3 then some ((⟨4, [], a1.Int, [], ([] : List Aa)⟩ : Aa), true, (⟨p0.l, (IntKind.i64.wrap (p0.i + 1))⟩ : Ab)) else (if a1.Kind = 4 then some ((⟨5, [], 0, a1.Text, ([] : List Aa)⟩ : Aa), true, (⟨p0.l, (IntKind.i64.wrap (p0.i + 1))⟩ : Ab)) else (Option.bind (Ci K ([([110, 117, 108, 108] : List UInt8), ([116, 114, 117, 101] : List UInt8), ([102, 97, 108, 115, 101] : List UInt8)] : List (List UInt8)) ([1, 2, 3] : List Int) p0) (fun (a2_0, a2_1, a2_2) => some ((⟨a2_0, [], 0, [], ([] : List Aa)⟩ : Aa), a2_1, a2_2)))))))
theorem Dn.body {Γ : Ent} {K : Nat} {p0 : Ab} {r : Aa × Bool × Ab} (h : Dn K p0 = some r) : AWp V P 47 100 Γ (Tryz.f76.body.getD .skip) (EndsE P V Tryz.f76 (.tup [.agg [.I r.1.Op, .str r.1.Name, .I r.1.Int, .str r.1.Text, .ro .Ad r.1.Kids], .B r.2.1]) [(0, .raw [.ro .Ax r.2.2.l, .I r.2.2.i])]) ⟨args0 0 [.P 0], [(0, .raw (Ac p0))]⟩ := by
 unfold Dn at h
 refine sg0 L 200 <| awp_seq <| awp_seq ?_
 obtain ⟨a1, h1, h⟩ := bind_some h
 refine rg L 203 [] [(1, .agg (Dp a1))] [] (plt (Bo.ok h1)) ?_
 refine awp_block <| sg0 L 208 ?_
 rcases ite_some h with ⟨c1, h⟩ | ⟨c1, h⟩
 ·refine tT c1 <| sg0 L 213 <| sg0 L 222 <| awp_turn (Turns.trans (Turns.kk [2, 3] [0, 200]) (Turns.rr [(0, 0), (200, 100)])) ?_
  refine awp_ret ?_
  cases h
  exact er0
 refine fF c1 <| sg0 L 228 ?_
 rcases ite_some h with ⟨c2, h⟩ | ⟨c2, h⟩
 ·refine tT c2 <| sg0 L 233 <| sg0 L 242 <| awp_turn (Turns.trans (Turns.kk [2, 3] [0, 200]) (Turns.rr [(0, 0), (200, 100)])) ?_
  refine awp_ret ?_
  cases h
  exact er0
 refine fF c2 <| awp_skip' <| awp_seq ?_
 obtain ⟨⟨a2_0, a2_1, a2_2⟩, h2, h⟩ := bind_some h
 dsimp only at h
 refine rg L 248 [] [] [(3, (ef0 (.tup [.I a2_0, .B a2_1]) [(0, .raw (Ac a2_2))]))] (pl1 (Ci.okE h2)) ?_
 refine sg0 L 258 <| awp_turn (Turns.trans (Turns.kk [2, 3] [0, 200]) (Turns.rr [(0, 0), (200, 100)])) ?_
 refine awp_ret ?_
 cases h
 exact er0
theorem Dn.okE {K : Nat} {p0 : Ab} {r : Aa × Bool × Ab} (h : Dn K p0 = some r) : ECall V P 76 [.P 0] [(0, .raw (Ac p0))] [0] (.tup [.agg [.I r.1.Op, .str r.1.Name, .I r.1.Int, .str r.1.Text, .ro .Ad r.1.Kids], .B r.2.1]) [(0, .raw [.ro .Ax r.2.2.l, .I r.2.2.i])] :=
 eo (fn := Tryz.f76) (n := 47) (m := 100) fun Γ => Dn.body h
def Cl (K : Nat) (p0 : Int) (p1 : List Aa) : Option Aa := some (⟨p0, [], 0, [], p1⟩ : Aa)
theorem Cl.body {Γ : Ent} {K : Nat} {p0 : Int} {p1 : List Aa} {r : Aa} (h : Cl K p0 p1 = some r) : AWp V P 8 100 Γ (Tryz.f75.body.getD .skip) (EndsE P V Tryz.f75 (.agg [.I r.Op, .str r.Name, .I r.Int, .str r.Text, .ro .Ad r.Kids]) []) ⟨args0 0 [.I p0, .cv (.ro .Ad p1)], []⟩ := by
 unfold Cl at h
 refine sg0 L 200 <| sg0 L 202 <| awp_turn (Turns.trans (Turns.kk [4] [200]) (Turns.rr [(200, 100)])) ?_
 refine awp_ret ?_
 cases h
 exact er0
theorem Cl.ok {K : Nat} {p0 : Int} {p1 : List Aa} {r : Aa} (h : Cl K p0 p1 = some r) : PCall V P 75 [.I p0, .cv (.ro .Ad p1)] (.agg [.I r.Op, .str r.Name, .I r.Int, .str r.Text, .ro .Ad r.Kids]) := ECall.pcall (eo (fn := Tryz.f75) (n := 8) (m := 100) fun Γ => Cl.body h) (by kernel_rfl)
def A9.rep (p0 : List UInt8) (p1 : Ab) : ((List Aa) × Ab) ⊕ Int → Outc T
 | (Sum.inl (v0, v1)) => .ret (.cv (.ro .Ad v0))
 | (Sum.inr v0) => .pan (ofi 49 v0)
def A9.post (p0 : List UInt8) (p1 : Ab) : ((List Aa) × Ab) ⊕ Int → List (Nat × Blk T)
 | (Sum.inl (v0, v1)) => [(0, .raw [.ro .Ax v1.l, .I v1.i])]
 | (Sum.inr v0) => []
def Bp.rep (p0 : Int) (p1 : List UInt8) (p2 : Ab) : (Aa × Ab) ⊕ Int → Outc T
 | (Sum.inl (v0, v1)) => .ret (.agg [.I v0.Op, .str v0.Name, .I v0.Int, .str v0.Text, .ro .Ad v0.Kids])
 | (Sum.inr v0) => .pan (ofi 49 v0)
def Bp.post (p0 : Int) (p1 : List UInt8) (p2 : Ab) : (Aa × Ab) ⊕ Int → List (Nat × Blk T)
 | (Sum.inl (v0, v1)) => [(0, .raw [.ro .Ax v1.l, .I v1.i])]
 | (Sum.inr v0) => []
def B8.rep (p0 : Ab) : Int ⊕ (Aa × Ab) → Outc T
 | (Sum.inl v0) => .pan (ofi 49 v0)
 | (Sum.inr (v0, v1)) => .ret (.agg [.I v0.Op, .str v0.Name, .I v0.Int, .str v0.Text, .ro .Ad v0.Kids])
def B8.post (p0 : Ab) : Int ⊕ (Aa × Ab) → List (Nat × Blk T)
 | (Sum.inl v0) => []
 | (Sum.inr (v0, v1)) => [(0, .raw [.ro .Ax v1.l, .I v1.i])]
def Bl.rep (p0 : List UInt8) (p1 : Ab) : ((List Aa) × Ab) ⊕ Int → Outc T
 | (Sum.inl (v0, v1)) => .ret (.cv (.ro .Ad v0))
 | (Sum.inr v0) => .pan (ofi 49 v0)
def Bl.post (p0 : List UInt8) (p1 : Ab) : ((List Aa) × Ab) ⊕ Int → List (Nat × Blk T)
 | (Sum.inl (v0, v1)) => [(0, .raw [.ro .Ax v1.l, .I v1.i])]
 | (Sum.inr v0) => []
def B4.rep (p0 : Ab) : (Aa × Ab) ⊕ Int → Outc T
 | (Sum.inl (v0, v1)) => .ret (.agg [.I v0.Op, .str v0.Name, .I v0.Int, .str v0.Text, .ro .Ad v0.Kids])
 | (Sum.inr v0) => .pan (ofi 49 v0)
def B4.post (p0 : Ab) : (Aa × Ab) ⊕ Int → List (Nat × Blk T)
 | (Sum.inl (v0, v1)) => [(0, .raw [.ro .Ax v1.l, .I v1.i])]
 | (Sum.inr v0) => []
def A4.rep (p0 : Ab) : Int ⊕ (Aa × Ab) → Outc T
 | (Sum.inl v0) => .pan (ofi 49 v0)
 | (Sum.inr (v0, v1)) => .ret (.agg [.I v0.Op, .str v0.Name, .I v0.Int, .str v0.Text, .ro .Ad v0.Kids])
def A4.post (p0 : Ab) : Int ⊕ (Aa × Ab) → List (Nat × Blk T)
 | (Sum.inl v0) => []
 | (Sum.inr (v0, v1)) => [(0, .raw [.ro .Ax v1.l, .I v1.i])]
def A6.rep (p0 : Ab) : Int ⊕ (Aa × Ab) → Outc T
 | (Sum.inl v0) => .pan (ofi 49 v0)
 | (Sum.inr (v0, v1)) => .ret (.agg [.I v0.Op, .str v0.Name, .I v0.Int, .str v0.Text, .ro .Ad v0.Kids])
def A6.post (p0 : Ab) : Int ⊕ (Aa × Ab) → List (Nat × Blk T)
 | (Sum.inl v0) => []
 | (Sum.inr (v0, v1)) => [(0, .raw [.ro .Ax v1.l, .I v1.i])]
def Be.rep (p0 : List (List UInt8)) (p1 : List Int) (p2 : Ab) : Int ⊕ (Aa × Ab) → Outc T
 | (Sum.inl v0) => .pan (ofi 49 v0)
 | (Sum.inr (v0, v1)) => .ret (.agg [.I v0.Op, .str v0.Name, .I v0.Int, .str v0.Text, .ro .Ad v0.Kids])
def Be.post (p0 : List (List UInt8)) (p1 : List Int) (p2 : Ab) : Int ⊕ (Aa × Ab) → List (Nat × Blk T)
 | (Sum.inl v0) => []
 | (Sum.inr (v0, v1)) => [(0, .raw [.ro .Ax v1.l, .I v1.i])]
def Bb.rep (p0 : Ab) : Int ⊕ (Aa × Ab) → Outc T
 | (Sum.inl v0) => .pan (ofi 49 v0)
 | (Sum.inr (v0, v1)) => .ret (.agg [.I v0.Op, .str v0.Name, .I v0.Int, .str v0.Text, .ro .Ad v0.Kids])
def Bb.post (p0 : Ab) : Int ⊕ (Aa × Ab) → List (Nat × Blk T)
 | (Sum.inl v0) => []
 | (Sum.inr (v0, v1)) => [(0, .raw [.ro .Ax v1.l, .I v1.i])]
def Bg.rep (p0 : List (List UInt8)) (p1 : List Int) (p2 : Ab) : Int ⊕ (Aa × Ab) → Outc T
 | (Sum.inl v0) => .pan (ofi 49 v0)
 | (Sum.inr (v0, v1)) => .ret (.agg [.I v0.Op, .str v0.Name, .I v0.Int, .str v0.Text, .ro .Ad v0.Kids])
def Bg.post (p0 : List (List UInt8)) (p1 : List Int) (p2 : Ab) : Int ⊕ (Aa × Ab) → List (Nat × Blk T)
 | (Sum.inl v0) => []
 | (Sum.inr (v0, v1)) => [(0, .raw [.ro .Ax v1.l, .I v1.i])]
def B7.rep (p0 : Ab) : Int ⊕ (Aa × Ab) → Outc T
 | (Sum.inl v0) => .pan (ofi 49 v0)
 | (Sum.inr (v0, v1)) => .ret (.agg [.I v0.Op, .str v0.Name, .I v0.Int, .str v0.Text, .ro .Ad v0.Kids])
def B7.post (p0 : Ab) : Int ⊕ (Aa × Ab) → List (Nat × Blk T)
 | (Sum.inl v0) => []
 | (Sum.inr (v0, v1)) => [(0, .raw [.ro .Ax v1.l, .I v1.i])]
def Bn.rep (p0 : Ab) : Int ⊕ (Aa × Ab) → Outc T
 | (Sum.inl v0) => .pan (ofi 49 v0)
 | (Sum.inr (v0, v1)) => .ret (.agg [.I v0.Op, .str v0.Name, .I v0.Int, .str v0.Text, .ro .Ad v0.Kids])
def Bn.post (p0 : Ab) : Int ⊕ (Aa × Ab) → List (Nat × Blk T)
 | (Sum.inl v0) => []
 | (Sum.inr (v0, v1)) => [(0, .raw [.ro .Ax v1.l, .I v1.i])]
def Bf.rep (p0 : List (List UInt8)) (p1 : List Int) (p2 : Ab) : Int ⊕ (Aa × Ab) → Outc T
 | (Sum.inl v0) => .pan (ofi 49 v0)
 | (Sum.inr (v0, v1)) => .ret (.agg [.I v0.Op, .str v0.Name, .I v0.Int, .str v0.Text, .ro .Ad v0.Kids])
def Bf.post (p0 : List (List UInt8)) (p1 : List Int) (p2 : Ab) : Int ⊕ (Aa × Ab) → List (Nat × Blk T)
 | (Sum.inl v0) => []
 | (Sum.inr (v0, v1)) => [(0, .raw [.ro .Ax v1.l, .I v1.i])]
def B6.rep (p0 : Ab) : Int ⊕ (Aa × Ab) → Outc T
 | (Sum.inl v0) => .pan (ofi 49 v0)
 | (Sum.inr (v0, v1)) => .ret (.agg [.I v0.Op, .str v0.Name, .I v0.Int, .str v0.Text, .ro .Ad v0.Kids])
def B6.post (p0 : Ab) : Int ⊕ (Aa × Ab) → List (Nat × Blk T)
 | (Sum.inl v0) => []
 | (Sum.inr (v0, v1)) => [(0, .raw [.ro .Ax v1.l, .I v1.i])]
def Bi.rep (p0 : List (List UInt8)) (p1 : List Int) (p2 : Ab) : Int ⊕ (Aa × Ab) → Outc T
 | (Sum.inl v0) => .pan (ofi 49 v0)
 | (Sum.inr (v0, v1)) => .ret (.agg [.I v0.Op, .str v0.Name, .I v0.Int, .str v0.Text, .ro .Ad v0.Kids])
def Bi.post (p0 : List (List UInt8)) (p1 : List Int) (p2 : Ab) : Int ⊕ (Aa × Ab) → List (Nat × Blk T)
 | (Sum.inl v0) => []
 | (Sum.inr (v0, v1)) => [(0, .raw [.ro .Ax v1.l, .I v1.i])]
def Au.rep (p0 : Ab) : Int ⊕ (Aa × Ab) → Outc T
 | (Sum.inl v0) => .pan (ofi 49 v0)
 | (Sum.inr (v0, v1)) => .ret (.agg [.I v0.Op, .str v0.Name, .I v0.Int, .str v0.Text, .ro .Ad v0.Kids])
def Au.post (p0 : Ab) : Int ⊕ (Aa × Ab) → List (Nat × Blk T)
 | (Sum.inl v0) => []
 | (Sum.inr (v0, v1)) => [(0, .raw [.ro .Ax v1.l, .I v1.i])]
structure Af where
 A9 : (List UInt8) → Ab → Option (((List Aa) × Ab) ⊕ Int)
 Bp : Int → (List UInt8) → Ab → Option ((Aa × Ab) ⊕ Int)
 B8 : Ab → Option (Int ⊕ (Aa × Ab))
 Bl : (List UInt8) → Ab → Option (((List Aa) × Ab) ⊕ Int)
 B4 : Ab → Option ((Aa × Ab) ⊕ Int)
 A4 : Ab → Option (Int ⊕ (Aa × Ab))
 A6 : Ab → Option (Int ⊕ (Aa × Ab))
 Be : (List (List UInt8)) → (List Int) → Ab → Option (Int ⊕ (Aa × Ab))
 Bb : Ab → Option (Int ⊕ (Aa × Ab))
 Bg : (List (List UInt8)) → (List Int) → Ab → Option (Int ⊕ (Aa × Ab))
 B7 : Ab → Option (Int ⊕ (Aa × Ab))
 Bn : Ab → Option (Int ⊕ (Aa × Ab))
 Bf : (List (List UInt8)) → (List Int) → Ab → Option (Int ⊕ (Aa × Ab))
 B6 : Ab → Option (Int ⊕ (Aa × Ab))
 Bi : (List (List UInt8)) → (List Int) → Ab → Option (Int ⊕ (Aa × Ab))
 Au : Ab → Option (Int ⊕ (Aa × Ab))
structure Af.Ok (R : Af) : Prop where
 A9 : ∀ {p0 : List UInt8} {p1 : Ab} {r : ((List Aa) × Ab) ⊕ Int}, R.A9 p0 p1 = some r → XCall V P 48 [.P 0, .cv (.str p0), .cv (.fn (.func 32) [.P 0] [])] [(0, .raw (Ac p1))] [0] (A9.post p0 p1 r) (A9.rep p0 p1 r)
 Bp : ∀ {p0 : Int} {p1 : List UInt8} {p2 : Ab} {r : (Aa × Ab) ⊕ Int}, R.Bp p0 p1 p2 = some r → XCall V P 106 [.P 0, .I p0, .cv (.str p1)] [(0, .raw (Ac p2))] [0] (Bp.post p0 p1 p2 r) (Bp.rep p0 p1 p2 r)
 B8 : ∀ {p0 : Ab} {r : Int ⊕ (Aa × Ab)}, R.B8 p0 = some r → XCall V P 166 [.P 0] [(0, .raw (Ac p0))] [0] (B8.post p0 r) (B8.rep p0 r)
 Bl : ∀ {p0 : List UInt8} {p1 : Ab} {r : ((List Aa) × Ab) ⊕ Int}, R.Bl p0 p1 = some r → XCall V P 48 [.P 0, .cv (.str p0), .cv (.fn (.func 166) [.P 0] [])] [(0, .raw (Ac p1))] [0] (Bl.post p0 p1 r) (Bl.rep p0 p1 r)
 B4 : ∀ {p0 : Ab} {r : (Aa × Ab) ⊕ Int}, R.B4 p0 = some r → XCall V P 163 [.P 0] [(0, .raw (Ac p0))] [0] (B4.post p0 r) (B4.rep p0 r)
 A4 : ∀ {p0 : Ab} {r : Int ⊕ (Aa × Ab)}, R.A4 p0 = some r → XCall V P 156 [.P 0] [(0, .raw (Ac p0))] [0] (A4.post p0 r) (A4.rep p0 r)
 A6 : ∀ {p0 : Ab} {r : Int ⊕ (Aa × Ab)}, R.A6 p0 = some r → XCall V P 146 [.P 0] [(0, .raw (Ac p0))] [0] (A6.post p0 r) (A6.rep p0 r)
 Be : ∀ {p0 : List (List UInt8)} {p1 : List Int} {p2 : Ab} {r : Int ⊕ (Aa × Ab)}, R.Be p0 p1 p2 = some r → XCall V P 62 [.P 0, .cv (.fn (.func 146) [.P 0] []), .cv (.ro .C4 p0), .cv (.ro .E1 p1)] [(0, .raw (Ac p2))] [0] (Be.post p0 p1 p2 r) (Be.rep p0 p1 p2 r)
 Bb : ∀ {p0 : Ab} {r : Int ⊕ (Aa × Ab)}, R.Bb p0 = some r → XCall V P 137 [.P 0] [(0, .raw (Ac p0))] [0] (Bb.post p0 r) (Bb.rep p0 r)
 Bg : ∀ {p0 : List (List UInt8)} {p1 : List Int} {p2 : Ab} {r : Int ⊕ (Aa × Ab)}, R.Bg p0 p1 p2 = some r → XCall V P 62 [.P 0, .cv (.fn (.func 137) [.P 0] []), .cv (.ro .C4 p0), .cv (.ro .E1 p1)] [(0, .raw (Ac p2))] [0] (Bg.post p0 p1 p2 r) (Bg.rep p0 p1 p2 r)
 B7 : ∀ {p0 : Ab} {r : Int ⊕ (Aa × Ab)}, R.B7 p0 = some r → XCall V P 122 [.P 0] [(0, .raw (Ac p0))] [0] (B7.post p0 r) (B7.rep p0 r)
 Bn : ∀ {p0 : Ab} {r : Int ⊕ (Aa × Ab)}, R.Bn p0 = some r → XCall V P 93 [.P 0] [(0, .raw (Ac p0))] [0] (Bn.post p0 r) (Bn.rep p0 r)
 Bf : ∀ {p0 : List (List UInt8)} {p1 : List Int} {p2 : Ab} {r : Int ⊕ (Aa × Ab)}, R.Bf p0 p1 p2 = some r → XCall V P 62 [.P 0, .cv (.fn (.func 93) [.P 0] []), .cv (.ro .C4 p0), .cv (.ro .E1 p1)] [(0, .raw (Ac p2))] [0] (Bf.post p0 p1 p2 r) (Bf.rep p0 p1 p2 r)
 B6 : ∀ {p0 : Ab} {r : Int ⊕ (Aa × Ab)}, R.B6 p0 = some r → XCall V P 63 [.P 0] [(0, .raw (Ac p0))] [0] (B6.post p0 r) (B6.rep p0 r)
 Bi : ∀ {p0 : List (List UInt8)} {p1 : List Int} {p2 : Ab} {r : Int ⊕ (Aa × Ab)}, R.Bi p0 p1 p2 = some r → XCall V P 62 [.P 0, .cv (.fn (.func 63) [.P 0] []), .cv (.ro .C4 p0), .cv (.ro .E1 p1)] [(0, .raw (Ac p2))] [0] (Bi.post p0 p1 p2 r) (Bi.rep p0 p1 p2 r)
 Au : ∀ {p0 : Ab} {r : Int ⊕ (Aa × Ab)}, R.Au p0 = some r → XCall V P 32 [.P 0] [(0, .raw (Ac p0))] [0] (Au.post p0 r) (Au.rep p0 r)
def A9.l15 (K : Nat) (R : Af) : Nat → (List Aw) → Int → (List Aa) → Option (Out (((List Aa) × Ab) ⊕ Int) ((List Aw) × Int × (List Aa)))
 | 0, _, _, _ => none
 | k + 1, xh0_0_15h, xh0_1_15h, x23100 => (Option.bind (Aj K ([44] : List UInt8) (⟨xh0_0_15h, xh0_1_15h⟩ : Ab)) (fun (a3_0, a3_1) => (if a3_0 = true then (Option.bind (R.Au a3_1) (fun a4 => match a4 with | (Sum.inl a4) => some (Out.done (Sum.inr a4)) | (Sum.inr (a4_0, a4_1)) => (if (x23100.length + ([(⟨a4_0.Op, a4_0.Name, a4_0.Int, a4_0.Text, a4_0.Kids⟩ : Aa)] : List Aa).length) * 72 ≤ 140737488355328 then A9.l15 K R k a4_1.l a4_1.i (x23100 ++ ([(⟨a4_0.Op, a4_0.Name, a4_0.Int, a4_0.Text, a4_0.Kids⟩ : Aa)] : List Aa)) else none))) else some (Out.go (a3_1.l, a3_1.i, x23100)))))
def A9.F (K : Nat) (R : Af) (p0 : List UInt8) (p1 : Ab) : Option (((List Aa) × Ab) ⊕ Int) := (Option.bind (Aj K p0 p1) (fun (a1_0, a1_1) => (if a1_0 = true then some (Sum.inl (([] : List Aa), a1_1)) else (Option.bind (R.Au a1_1) (fun a2 => match a2 with | (Sum.inl a2) => some (Sum.inr a2) | (Sum.inr (a2_0, a2_1)) => (obind (A9.l15 K R K a2_1.l a2_1.i ([(⟨a2_0.Op, a2_0.Name, a2_0.Int, a2_0.Text, a2_0.Kids⟩ : Aa)] : List Aa) : Option (Out (((List Aa) × Ab) ⊕ Int) ((List Aw) × Int × (List Aa)))) (fun r => r) (fun (xh0_0_15, xh0_1_15, x23000) => (Option.bind (Al K p0 (⟨xh0_0_15, xh0_1_15⟩ : Ab)) (fun a5 => match a5 with | (Sum.inl a5) => some (Sum.inl (x23000, a5)) | (Sum.inr a5) => some (Sum.inr a5))))))))))
theorem A9.body {Γ : Ent} {K : Nat} {R : Af} (hR : R.Ok) {p0 : List UInt8} {p1 : Ab} {r : ((List Aa) × Ab) ⊕ Int} (h : A9.F K R p0 p1 = some r) : AWp V P 25 100 Γ (Tryz.f48.body.getD .skip) (EndsX P V Tryz.f48 (A9.rep p0 p1 r) (A9.post p0 p1 r)) ⟨args0 0 [.P 0, .cv (.str p0), .cv (.fn (.func 32) [.P 0] [])], [(0, .raw (Ac p1))]⟩ := by
 unfold A9.F at h
 refine sg0 L 200 <| awp_seq <| awp_seq ?_
 obtain ⟨⟨a1_0, a1_1⟩, h1, h⟩ := bind_some h
 dsimp only at h
 refine rg L 202 [] [] [(2, (ef0 (.B a1_0) [(0, .raw (Ac a1_1))]))] (pl1 (Aj.okE h1)) ?_
 rcases ite_some h with ⟨c1, h⟩ | ⟨c1, h⟩
 ·refine tt c1 <| sg0 L 206 <| awp_ret ?_
  cases h
  exact xr0
 refine fN c1 <| awp_skip' <| awp_seq ?_
 obtain ⟨a2, h2, h⟩ := bind_some h
 rcases a2 with a2 | a2
 ·dsimp only at h
  refine qn L 100208 [] [] [] 1 (ef0 (.tup []) []) (ofi 49 a2) (pl1 (hR.Au h2)) ?_
  cases h
  exact rfl
 ·obtain ⟨a2_0, a2_1⟩ := a2
  dsimp only at h
  refine rg L 100208 [] [] [(1, (ef0 (.agg (Ae a2_0)) [(0, .raw (Ac a2_1))]))] (pl1 (hR.Au h2)) ?_
  refine awp_seq <| awp_block <| awp_turn (Turns.trans (Turns.kk [0, 1, 2, 7] [0, 100210]) (Turns.rr [(0, 0), (100210, 23100)])) ?_
  refine kp (S' := ⟨[(0, .P 0), (1, .cv (.str p0)), (2, .cv (.fn (.func 32) [.P 0] [])), (7, .cv (.own .Ad 23100))], [(0, .raw (Ac a2_1)), (23100, .lst .Ad ([(⟨a2_0.Op, a2_0.Name, a2_0.Int, a2_0.Text, a2_0.Kids⟩ : Aa)] : List Aa))]⟩) ?_
  obtain ⟨o1, hp1, h⟩ := obind_some h
  refine awp_conseq (Q' := fun e S => (e = .exit 0 ∧ ∃ xh0_0_15 : List Aw, ∃ xh0_1_15 : Int, ∃ x23000 : List Aa, S = ⟨[(0, .P 0), (1, .cv (.str p0)), (7, .cv (.own .Ad 23000))], [(0, .raw [.ro .Ax xh0_0_15, .I xh0_1_15]), (23000, .lst .Ad x23000)]⟩ ∧ Out.go (xh0_0_15, xh0_1_15, x23000) = o1) ∨ ((e = .ret ∨ ∃ ch, e = .panic ch) ∧ ∃ a, Out.done a = o1 ∧ EndsX P V Tryz.f48 (A9.rep p0 p1 a) (A9.post p0 p1 a) e S)) (awp_loop (fun k S => ∃ xh0_0_15h : List Aw, ∃ xh0_1_15h : Int, ∃ x23100 : List Aa, S = ⟨[(0, .P 0), (1, .cv (.str p0)), (2, .cv (.fn (.func 32) [.P 0] [])), (7, .cv (.own .Ad 23100))], [(0, .raw [.ro .Ax xh0_0_15h, .I xh0_1_15h]), (23100, .lst .Ad x23100)]⟩ ∧ A9.l15 K R k xh0_0_15h xh0_1_15h x23100 = some o1) ?_ ⟨_, _, _, rfl, hp1⟩) ?_
  ·clear h hp1
   intro k S hS
   obtain ⟨xh0_0_15h, xh0_1_15h, x23100, rfl, h⟩ := hS
   cases k with
   | zero => cases h
   | succ k =>
   unfold A9.l15 at h
   refine awp_seq <| awp_seq ?_
   obtain ⟨⟨a3_0, a3_1⟩, h3, h⟩ := bind_some h
   dsimp only at h
   refine rg L 213 [] [] [(1, (ef0 (.B a3_0) [(0, .raw (Ac a3_1))]))] (pl1 (Aj.okE h3)) ?_
   rcases ite_some h with ⟨c2, h⟩ | ⟨c2, h⟩
   ·refine tt c2 <| awp_skip' <| awp_block ?_
    obtain ⟨a4, h4, h⟩ := bind_some h
    rcases a4 with a4 | a4
    ·dsimp only at h
     refine qn L 216 [] [] [] 2 (ef0 (.tup []) []) (ofi 49 a4) (pl1 (hR.Au h4)) ?_
     cases h
     exact .inr ⟨.inr ⟨_, rfl⟩, _, rfl, rfl⟩
    ·obtain ⟨a4_0, a4_1⟩ := a4
     dsimp only at h
     obtain ⟨g1, h⟩ := guard_some h
     refine ar L 216 [] [] [(2, (ef0 (.agg (Ae a4_0)) [(0, .raw (Ac a4_1))]))] (cs := [ECall V P 32 [.P 0] [(0, .raw (Ac a3_1))] [0] (.agg (Ae a4_0)) [(0, .raw (Ac a4_1))], (x23100.length + ([(⟨a4_0.Op, a4_0.Name, a4_0.Int, a4_0.Text, a4_0.Kids⟩ : Aa)] : List Aa).length) * 72 ≤ 140737488355328, True]) (S' := ⟨[(0, .P 0), (1, .cv (.str p0)), (2, .cv (.fn (.func 32) [.P 0] [])), (7, .cv (.own .Ad 23100))], [(0, .raw (Ac a4_1)), (23100, .lst .Ad (x23100 ++ ([(⟨a4_0.Op, a4_0.Name, a4_0.Int, a4_0.Text, a4_0.Kids⟩ : Aa)] : List Aa)))]⟩) (And.intro (hR.Au h4) (And.intro g1 trivial)) ?_
     exact ⟨k, Nat.lt_succ_self k, _, _, _, rfl, h⟩
   refine fN c2 <| awp_turn (Turns.trans (Turns.kk [0, 1, 7] [0, 23100]) (Turns.rr [(0, 0), (23100, 23000)])) ?_
   refine ex (S' := ⟨[(0, .P 0), (1, .cv (.str p0)), (7, .cv (.own .Ad 23000))], [(0, .raw (Ac a3_1)), (23000, .lst .Ad x23100)]⟩) ?_
   cases h
   exact .inl ⟨rfl, _, _, _, rfl, rfl⟩
  ·rintro e S (⟨rfl, xh0_0_15, xh0_1_15, x23000, rfl, rfl⟩ | ⟨he, a, rfl, hr⟩)
   ·rcases h with ⟨_, e1, h⟩ | ⟨_, e1, h⟩
    ·cases e1
    ·have e2 := Out.go.inj e1
     subst e2
     dsimp only at h
     refine ⟨_, Turns.refl, ?_⟩
     refine awp_seq ?_
     obtain ⟨a5, h5, h⟩ := bind_some h
     rcases a5 with a5 | a5
     ·dsimp only at h
      refine rg L 223 [] [] [(2, (ef0 (.tup []) [(0, .raw (Ac a5))]))] (pl1 (Al.okE h5)) ?_
      refine sg0 L 227 <| awp_turn (Turns.trans (Turns.kk [6] [0, 23000]) (Turns.fz 23000)) ?_
      refine awp_ret ?_
      cases h
      exact xr0
     ·obtain ⟨a5, rfl⟩ : ∃ z, z = a5 := ⟨_, rfl⟩
      dsimp only at h
      refine qn L 223 [] [] [] 2 (ef0 (.tup []) []) (ofi 49 a5) (pl1 (Al.okE h5)) ?_
      cases h
      exact rfl
   ·rcases h with ⟨_, e1, h⟩ | ⟨_, e1, h⟩
    ·have e2 := Out.done.inj e1
     subst e2
     subst h
     rcases he with rfl | ⟨ch, rfl⟩
     ·exact ⟨_, Turns.refl, hr⟩
     ·exact ⟨_, Turns.refl, hr⟩
    ·cases e1
def Bp.F (K : Nat) (R : Af) (p0 : Int) (p1 : List UInt8) (p2 : Ab) : Option ((Aa × Ab) ⊕ Int) := (Option.bind (Al K ([40] : List UInt8) p2) (fun a1 => match a1 with | (Sum.inl a1) => (Option.bind (R.A9 ([41] : List UInt8) a1) (fun a2 => match a2 with | (Sum.inl (a2_0, a2_1)) => some (Sum.inl ((⟨p0, p1, 0, [], a2_0⟩ : Aa), a2_1)) | (Sum.inr a2) => some (Sum.inr a2))) | (Sum.inr a1) => some (Sum.inr a1)))
theorem Bp.body {Γ : Ent} {K : Nat} {R : Af} (hR : R.Ok) {p0 : Int} {p1 : List UInt8} {p2 : Ab} {r : (Aa × Ab) ⊕ Int} (h : Bp.F K R p0 p1 p2 = some r) : AWp V P 16 100 Γ (Tryz.f106.body.getD .skip) (EndsX P V Tryz.f106 (Bp.rep p0 p1 p2 r) (Bp.post p0 p1 p2 r)) ⟨args0 0 [.P 0, .I p0, .cv (.str p1)], [(0, .raw (Ac p2))]⟩ := by
 unfold Bp.F at h
 refine sg0 L 200 <| awp_seq ?_
 obtain ⟨a1, h1, h⟩ := bind_some h
 rcases a1 with a1 | a1
 ·dsimp only at h
  refine rg L 202 [] [] [(1, (ef0 (.tup []) [(0, .raw (Ac a1))]))] (pl1 (Al.okE h1)) ?_
  refine awp_seq ?_
  obtain ⟨a2, h2, h⟩ := bind_some h
  rcases a2 with ⟨a2_0, a2_1⟩ | a2
  ·dsimp only at h
   refine rg L 205 [] [] [(5, (ef0 (.cv (.ro .Ad a2_0)) [(0, .raw (Ac a2_1))]))] (pl1 (hR.A9 h2)) ?_
   refine awp_turn (Turns.trans (Turns.kk [6] [0, 200]) (Turns.rr [(0, 0), (200, 100)])) ?_
   refine awp_ret ?_
   cases h
   exact xr0
  ·obtain ⟨a2, rfl⟩ : ∃ z, z = a2 := ⟨_, rfl⟩
   dsimp only at h
   refine qn L 205 [] [] [] 5 (ef0 (.tup []) []) (ofi 49 a2) (pl1 (hR.A9 h2)) ?_
   cases h
   exact rfl
 ·obtain ⟨a1, rfl⟩ : ∃ z, z = a1 := ⟨_, rfl⟩
  dsimp only at h
  refine qn L 202 [] [] [] 1 (ef0 (.tup []) []) (ofi 49 a1) (pl1 (Al.okE h1)) ?_
  cases h
  exact rfl
def B8.F (K : Nat) (R : Af) (p0 : Ab) : Option (Int ⊕ (Aa × Ab)) := (Option.bind (Bo K p0) (fun a1 => (if a1.Kind ≠ 4 then (Option.bind (Bj K p0) (fun a2 => some (Sum.inl a2))) else (Option.bind (Dl K p0) (fun (a3_0, a3_1) => (Option.bind (Al K ([58] : List UInt8) a3_1) (fun a4 => match a4 with | (Sum.inl a4) => (Option.bind (R.Au a4) (fun a5 => match a5 with | (Sum.inl a5) => some (Sum.inl a5) | (Sum.inr (a5_0, a5_1)) => some (Sum.inr ((⟨9, [], 0, a3_0.Text, ([(⟨a5_0.Op, a5_0.Name, a5_0.Int, a5_0.Text, a5_0.Kids⟩ : Aa)] : List Aa)⟩ : Aa), a5_1)))) | (Sum.inr a4) => some (Sum.inl a4))))))))
theorem B8.body {Γ : Ent} {K : Nat} {R : Af} (hR : R.Ok) {p0 : Ab} {r : Int ⊕ (Aa × Ab)} (h : B8.F K R p0 = some r) : AWp V P 21 100 Γ (Tryz.f166.body.getD .skip) (EndsX P V Tryz.f166 (B8.rep p0 r) (B8.post p0 r)) ⟨args0 0 [.P 0], [(0, .raw (Ac p0))]⟩ := by
 unfold B8.F at h
 refine sg0 L 200 <| awp_seq <| awp_seq ?_
 obtain ⟨a1, h1, h⟩ := bind_some h
 refine rg L 202 [] [(1, .agg (Dp a1))] [] (plt (Bo.ok h1)) ?_
 rcases ite_some h with ⟨c1, h⟩ | ⟨c1, h⟩
 ·refine tT c1 ?_
  obtain ⟨a2, h2, h⟩ := bind_some h
  refine qn L 207 [] [] [] 1 (ef0 (.tup []) []) (ofi 49 a2) (pl1 (Bj.okE h2)) ?_
  cases h
  exact rfl
 refine fF c1 <| awp_skip' <| awp_seq ?_
 obtain ⟨⟨a3_0, a3_1⟩, h3, h⟩ := bind_some h
 dsimp only at h
 refine rg L 210 [] [] [(1, (ef0 (.agg (Dp a3_0)) [(0, .raw (Ac a3_1))]))] (pl1 (Dl.okE h3)) ?_
 refine awp_seq ?_
 obtain ⟨a4, h4, h⟩ := bind_some h
 rcases a4 with a4 | a4
 ·dsimp only at h
  refine rg L 217 [] [] [(1, (ef0 (.tup []) [(0, .raw (Ac a4))]))] (pl1 (Al.okE h4)) ?_
  refine awp_seq ?_
  obtain ⟨a5, h5, h⟩ := bind_some h
  rcases a5 with a5 | a5
  ·dsimp only at h
   refine qn L 220 [] [] [] 1 (ef0 (.tup []) []) (ofi 49 a5) (pl1 (hR.Au h5)) ?_
   cases h
   exact rfl
  ·obtain ⟨a5_0, a5_1⟩ := a5
   dsimp only at h
   refine rg L 220 [] [] [(1, (ef0 (.agg (Ae a5_0)) [(0, .raw (Ac a5_1))]))] (pl1 (hR.Au h5)) ?_
   refine sg0 L 226 <| awp_turn (Turns.trans (Turns.kk [2] [0, 200]) (Turns.rr [(0, 0), (200, 100)])) ?_
   refine awp_ret ?_
   cases h
   exact xr0
 ·obtain ⟨a4, rfl⟩ : ∃ z, z = a4 := ⟨_, rfl⟩
  dsimp only at h
  refine qn L 217 [] [] [] 1 (ef0 (.tup []) []) (ofi 49 a4) (pl1 (Al.okE h4)) ?_
  cases h
  exact rfl
def Bl.l15 (K : Nat) (R : Af) : Nat → (List Aw) → Int → (List Aa) → Option (Out (((List Aa) × Ab) ⊕ Int) ((List Aw) × Int × (List Aa)))
 | 0, _, _, _ => none
 | k + 1, xh0_0_15h, xh0_1_15h, x23100 => (Option.bind (Aj K ([44] : List UInt8) (⟨xh0_0_15h, xh0_1_15h⟩ : Ab)) (fun (a3_0, a3_1) => (if a3_0 = true then (Option.bind (R.B8 a3_1) (fun a4 => match a4 with | (Sum.inl a4) => some (Out.done (Sum.inr a4)) | (Sum.inr (a4_0, a4_1)) => (if (x23100.length + ([(⟨a4_0.Op, a4_0.Name, a4_0.Int, a4_0.Text, a4_0.Kids⟩ : Aa)] : List Aa).length) * 72 ≤ 140737488355328 then Bl.l15 K R k a4_1.l a4_1.i (x23100 ++ ([(⟨a4_0.Op, a4_0.Name, a4_0.Int, a4_0.Text, a4_0.Kids⟩ : Aa)] : List Aa)) else none))) else some (Out.go (a3_1.l, a3_1.i, x23100)))))
def Bl.F (K : Nat) (R : Af) (p0 : List UInt8) (p1 : Ab) : Option (((List Aa) × Ab) ⊕ Int) := (Option.bind (Aj K p0 p1) (fun (a1_0, a1_1) => (if a1_0 = true then some (Sum.inl (([] : List Aa), a1_1)) else (Option.bind (R.B8 a1_1) (fun a2 => match a2 with | (Sum.inl a2) => some (Sum.inr a2) | (Sum.inr (a2_0, a2_1)) => (obind (Bl.l15 K R K a2_1.l a2_1.i ([(⟨a2_0.Op, a2_0.Name, a2_0.Int, a2_0.Text, a2_0.Kids⟩ : Aa)] : List Aa) : Option (Out (((List Aa) × Ab) ⊕ Int) ((List Aw) × Int × (List Aa)))) (fun r => r) (fun (xh0_0_15, xh0_1_15, x23000) => (Option.bind (Al K p0 (⟨xh0_0_15, xh0_1_15⟩ : Ab)) (fun a5 => match a5 with | (Sum.inl a5) => some (Sum.inl (x23000, a5)) | (Sum.inr a5) => some (Sum.inr a5))))))))))
theorem Bl.body {Γ : Ent} {K : Nat} {R : Af} (hR : R.Ok) {p0 : List UInt8} {p1 : Ab} {r : ((List Aa) × Ab) ⊕ Int} (h : Bl.F K R p0 p1 = some r) : AWp V P 25 100 Γ (Tryz.f48.body.getD .skip) (EndsX P V Tryz.f48 (Bl.rep p0 p1 r) (Bl.post p0 p1 r)) ⟨args0 0 [.P 0, .cv (.str p0), .cv (.fn (.func 166) [.P 0] [])], [(0, .raw (Ac p1))]⟩ := by
 unfold Bl.F at h
 refine sg0 L 200 <| awp_seq <| awp_seq ?_
 obtain ⟨⟨a1_0, a1_1⟩, h1, h⟩ := bind_some h
 dsimp only at h
 refine rg L 202 [] [] [(2, (ef0 (.B a1_0) [(0, .raw (Ac a1_1))]))] (pl1 (Aj.okE h1)) ?_
 rcases ite_some h with ⟨c1, h⟩ | ⟨c1, h⟩
 ·refine tt c1 <| sg0 L 206 <| awp_ret ?_
  cases h
  exact xr0
 refine fN c1 <| awp_skip' <| awp_seq ?_
 obtain ⟨a2, h2, h⟩ := bind_some h
 rcases a2 with a2 | a2
 ·dsimp only at h
  refine qn L 100208 [] [] [] 1 (ef0 (.tup []) []) (ofi 49 a2) (pl1 (hR.B8 h2)) ?_
  cases h
  exact rfl
 ·obtain ⟨a2_0, a2_1⟩ := a2
  dsimp only at h
  refine rg L 100208 [] [] [(1, (ef0 (.agg (Ae a2_0)) [(0, .raw (Ac a2_1))]))] (pl1 (hR.B8 h2)) ?_
  refine awp_seq <| awp_block <| awp_turn (Turns.trans (Turns.kk [0, 1, 2, 7] [0, 100210]) (Turns.rr [(0, 0), (100210, 23100)])) ?_
  refine kp (S' := ⟨[(0, .P 0), (1, .cv (.str p0)), (2, .cv (.fn (.func 166) [.P 0] [])), (7, .cv (.own .Ad 23100))], [(0, .raw (Ac a2_1)), (23100, .lst .Ad ([(⟨a2_0.Op, a2_0.Name, a2_0.Int, a2_0.Text, a2_0.Kids⟩ : Aa)] : List Aa))]⟩) ?_
  obtain ⟨o1, hp1, h⟩ := obind_some h
  refine awp_conseq (Q' := fun e S => (e = .exit 0 ∧ ∃ xh0_0_15 : List Aw, ∃ xh0_1_15 : Int, ∃ x23000 : List Aa, S = ⟨[(0, .P 0), (1, .cv (.str p0)), (7, .cv (.own .Ad 23000))], [(0, .raw [.ro .Ax xh0_0_15, .I xh0_1_15]), (23000, .lst .Ad x23000)]⟩ ∧ Out.go (xh0_0_15, xh0_1_15, x23000) = o1) ∨ ((e = .ret ∨ ∃ ch, e = .panic ch) ∧ ∃ a, Out.done a = o1 ∧ EndsX P V Tryz.f48 (Bl.rep p0 p1 a) (Bl.post p0 p1 a) e S)) (awp_loop (fun k S => ∃ xh0_0_15h : List Aw, ∃ xh0_1_15h : Int, ∃ x23100 : List Aa, S = ⟨[(0, .P 0), (1, .cv (.str p0)), (2, .cv (.fn (.func 166) [.P 0] [])), (7, .cv (.own .Ad 23100))], [(0, .raw [.ro .Ax xh0_0_15h, .I xh0_1_15h]), (23100, .lst .Ad x23100)]⟩ ∧ Bl.l15 K R k xh0_0_15h xh0_1_15h x23100 = some o1) ?_ ⟨_, _, _, rfl, hp1⟩) ?_
  ·clear h hp1
   intro k S hS
   obtain ⟨xh0_0_15h, xh0_1_15h, x23100, rfl, h⟩ := hS
   cases k with
   | zero => cases h
   | succ k =>
   unfold Bl.l15 at h
   refine awp_seq <| awp_seq ?_
   obtain ⟨⟨a3_0, a3_1⟩, h3, h⟩ := bind_some h
   dsimp only at h
   refine rg L 213 [] [] [(1, (ef0 (.B a3_0) [(0, .raw (Ac a3_1))]))] (pl1 (Aj.okE h3)) ?_
   rcases ite_some h with ⟨c2, h⟩ | ⟨c2, h⟩
   ·refine tt c2 <| awp_skip' <| awp_block ?_
    obtain ⟨a4, h4, h⟩ := bind_some h
    rcases a4 with a4 | a4
    ·dsimp only at h
     refine qn L 216 [] [] [] 2 (ef0 (.tup []) []) (ofi 49 a4) (pl1 (hR.B8 h4)) ?_
     cases h
     exact .inr ⟨.inr ⟨_, rfl⟩, _, rfl, rfl⟩
    ·obtain ⟨a4_0, a4_1⟩ := a4
     dsimp only at h
     obtain ⟨g1, h⟩ := guard_some h
     refine ar L 216 [] [] [(2, (ef0 (.agg (Ae a4_0)) [(0, .raw (Ac a4_1))]))] (cs := [ECall V P 166 [.P 0] [(0, .raw (Ac a3_1))] [0] (.agg (Ae a4_0)) [(0, .raw (Ac a4_1))], (x23100.length + ([(⟨a4_0.Op, a4_0.Name, a4_0.Int, a4_0.Text, a4_0.Kids⟩ : Aa)] : List Aa).length) * 72 ≤ 140737488355328, True]) (S' := ⟨[(0, .P 0), (1, .cv (.str p0)), (2, .cv (.fn (.func 166) [.P 0] [])), (7, .cv (.own .Ad 23100))], [(0, .raw (Ac a4_1)), (23100, .lst .Ad (x23100 ++ ([(⟨a4_0.Op, a4_0.Name, a4_0.Int, a4_0.Text, a4_0.Kids⟩ : Aa)] : List Aa)))]⟩) (And.intro (hR.B8 h4) (And.intro g1 trivial)) ?_
     exact ⟨k, Nat.lt_succ_self k, _, _, _, rfl, h⟩
   refine fN c2 <| awp_turn (Turns.trans (Turns.kk [0, 1, 7] [0, 23100]) (Turns.rr [(0, 0), (23100, 23000)])) ?_
   refine ex (S' := ⟨[(0, .P 0), (1, .cv (.str p0)), (7, .cv (.own .Ad 23000))], [(0, .raw (Ac a3_1)), (23000, .lst .Ad x23100)]⟩) ?_
   cases h
   exact .inl ⟨rfl, _, _, _, rfl, rfl⟩
  ·rintro e S (⟨rfl, xh0_0_15, xh0_1_15, x23000, rfl, rfl⟩ | ⟨he, a, rfl, hr⟩)
   ·rcases h with ⟨_, e1, h⟩ | ⟨_, e1, h⟩
    ·cases e1
    ·have e2 := Out.go.inj e1
     subst e2
     dsimp only at h
     refine ⟨_, Turns.refl, ?_⟩
     refine awp_seq ?_
     obtain ⟨a5, h5, h⟩ := bind_some h
     rcases a5 with a5 | a5
     ·dsimp only at h
      refine rg L 223 [] [] [(2, (ef0 (.tup []) [(0, .raw (Ac a5))]))] (pl1 (Al.okE h5)) ?_
      refine sg0 L 227 <| awp_turn (Turns.trans (Turns.kk [6] [0, 23000]) (Turns.fz 23000)) ?_
      refine awp_ret ?_
      cases h
      exact xr0
     ·obtain ⟨a5, rfl⟩ : ∃ z, z = a5 := ⟨_, rfl⟩
      dsimp only at h
      refine qn L 223 [] [] [] 2 (ef0 (.tup []) []) (ofi 49 a5) (pl1 (Al.okE h5)) ?_
      cases h
      exact rfl
   ·rcases h with ⟨_, e1, h⟩ | ⟨_, e1, h⟩
    ·have e2 := Out.done.inj e1
     subst e2
     subst h
     rcases he with rfl | ⟨ch, rfl⟩
     ·exact ⟨_, Turns.refl, hr⟩
     ·exact ⟨_, Turns.refl, hr⟩
    ·cases e1
def B4.F (K : Nat) (R : Af) (p0 : Ab) : Option ((Aa × Ab) ⊕ Int) := (Option.bind (Dn K p0) (fun (a1_0, a1_1, a1_2) => (if a1_1 = true then some (Sum.inl (a1_0, a1_2)) else (Option.bind (Bo K a1_2) (fun a2 => (if a2.Kind = 1 then (Option.bind (Aq K a1_2) (fun a3 => match a3 with | (Sum.inl a3) => some (Sum.inr a3) | (Sum.inr (a3_0, a3_1)) => (Option.bind (Dw K a3_1 ([40] : List UInt8)) (fun a4 => (if a4 = true then (Option.bind (R.Bp 10 a3_0 a3_1) (fun a5 => match a5 with | (Sum.inl (a5_0, a5_1)) => some (Sum.inl (a5_0, a5_1)) | (Sum.inr a5) => some (Sum.inr a5))) else some (Sum.inl ((⟨6, a3_0, 0, [], ([] : List Aa)⟩ : Aa), a3_1))))))) else (Option.bind (Aj K ([91] : List UInt8) a1_2) (fun (a6_0, a6_1) => (if a6_0 = true then (Option.bind (R.A9 ([93] : List UInt8) a6_1) (fun a7 => match a7 with | (Sum.inl (a7_0, a7_1)) => some (Sum.inl ((⟨7, [], 0, [], a7_0⟩ : Aa), a7_1)) | (Sum.inr a7) => some (Sum.inr a7))) else (Option.bind (Aj K ([123] : List UInt8) a6_1) (fun (a8_0, a8_1) => (if a8_0 = true then (Option.bind (R.Bl ([125] : List UInt8) a8_1) (fun a9 => match a9 with | (Sum.inl (a9_0, a9_1)) => some (Sum.inl ((⟨8, [], 0, [], a9_0⟩ : Aa), a9_1)) | (Sum.inr a9) => some (Sum.inr a9))) else (Option.bind (Al K ([40] : List UInt8) a8_1) (fun a10 => match a10 with | (Sum.inl a10) => (Option.bind (R.Au a10) (fun a11 => match a11 with | (Sum.inl a11) => some (Sum.inr a11) | (Sum.inr (a11_0, a11_1)) => (Option.bind (Al K ([41] : List UInt8) a11_1) (fun a12 => match a12 with | (Sum.inl a12) => some (Sum.inl (a11_0, a12)) | (Sum.inr a12) => some (Sum.inr a12))))) | (Sum.inr a10) => some (Sum.inr a10)))))))))))))))
theorem B4.body {Γ : Ent} {K : Nat} {R : Af} (hR : R.Ok) {p0 : Ab} {r : (Aa × Ab) ⊕ Int} (h : B4.F K R p0 = some r) : AWp V P 51 100 Γ (Tryz.f163.body.getD .skip) (EndsX P V Tryz.f163 (B4.rep p0 r) (B4.post p0 r)) ⟨args0 0 [.P 0], [(0, .raw (Ac p0))]⟩ := by
 unfold B4.F at h
 refine sg0 L 200 <| awp_seq <| awp_seq ?_
 obtain ⟨⟨a1_0, a1_1, a1_2⟩, h1, h⟩ := bind_some h
 dsimp only at h
 refine rg L 202 [] [] [(1, (ef0 (.tup [.agg (Ae a1_0), .B a1_1]) [(0, .raw (Ac a1_2))]))] (pl1 (Dn.okE h1)) ?_
 refine sg0 L 211 ?_
 rcases ite_some h with ⟨c1, h⟩ | ⟨c1, h⟩
 ·refine tt c1 <| sg0 L 213 <| awp_turn (Turns.trans (Turns.kk [2] [0, 200]) (Turns.rr [(0, 0), (200, 100)])) ?_
  refine awp_ret ?_
  cases h
  exact xr0
 refine fN c1 <| awp_skip' <| awp_seq <| awp_block <| awp_seq ?_
 obtain ⟨a2, h2, h⟩ := bind_some h
 refine rg L 216 [] [(1, .agg (Dp a2))] [] (plt (Bo.ok h2)) ?_
 rcases ite_some h with ⟨c2, h⟩ | ⟨c2, h⟩
 ·refine tT c2 <| awp_seq ?_
  obtain ⟨a3, h3, h⟩ := bind_some h
  rcases a3 with a3 | a3
  ·dsimp only at h
   refine qn L 222 [] [] [] 1 (ef0 (.tup []) []) (ofi 49 a3) (pl1 (Aq.okE h3)) ?_
   cases h
   exact rfl
  ·obtain ⟨a3_0, a3_1⟩ := a3
   dsimp only at h
   refine rg L 222 [] [] [(1, (ef0 (.cv (.str a3_0)) [(0, .raw (Ac a3_1))]))] (pl1 (Aq.okE h3)) ?_
   refine awp_seq <| awp_seq ?_
   obtain ⟨a4, h4, h⟩ := bind_some h
   refine rg L 226 [] [(1, .B a4)] [] (plt (Dw.ok h4)) ?_
   rcases ite_some h with ⟨c3, h⟩ | ⟨c3, h⟩
   ·refine tt c3 <| awp_seq ?_
    obtain ⟨a5, h5, h⟩ := bind_some h
    rcases a5 with ⟨a5_0, a5_1⟩ | a5
    ·dsimp only at h
     refine rg L 229 [] [] [(2, (ef0 (.agg (Ae a5_0)) [(0, .raw (Ac a5_1))]))] (pl1 (hR.Bp h5)) ?_
     refine awp_turn (Turns.trans (Turns.kk [2] [0, 200]) (Turns.rr [(0, 0), (200, 100)])) ?_
     refine awp_ret ?_
     cases h
     exact xr0
    ·obtain ⟨a5, rfl⟩ : ∃ z, z = a5 := ⟨_, rfl⟩
     dsimp only at h
     refine qn L 229 [] [] [] 2 (ef0 (.tup []) []) (ofi 49 a5) (pl1 (hR.Bp h5)) ?_
     cases h
     exact rfl
   refine fN c3 <| awp_skip' <| sg0 L 234 <| awp_turn (Turns.trans (Turns.kk [2] [0, 200]) (Turns.rr [(0, 0), (200, 100)])) ?_
   refine awp_ret ?_
   cases h
   exact xr0
 refine fF c2 <| awp_seq ?_
 obtain ⟨⟨a6_0, a6_1⟩, h6, h⟩ := bind_some h
 dsimp only at h
 refine rg L 238 [] [] [(1, (ef0 (.B a6_0) [(0, .raw (Ac a6_1))]))] (pl1 (Aj.okE h6)) ?_
 rcases ite_some h with ⟨c4, h⟩ | ⟨c4, h⟩
 ·refine tt c4 <| awp_seq ?_
  obtain ⟨a7, h7, h⟩ := bind_some h
  rcases a7 with ⟨a7_0, a7_1⟩ | a7
  ·dsimp only at h
   refine rg L 242 [] [] [(3, (ef0 (.cv (.ro .Ad a7_0)) [(0, .raw (Ac a7_1))]))] (pl1 (hR.A9 h7)) ?_
   refine awp_turn (Turns.trans (Turns.kk [2] [0, 200]) (Turns.rr [(0, 0), (200, 100)])) ?_
   refine awp_ret ?_
   cases h
   exact xr0
  ·obtain ⟨a7, rfl⟩ : ∃ z, z = a7 := ⟨_, rfl⟩
   dsimp only at h
   refine qn L 242 [] [] [] 3 (ef0 (.tup []) []) (ofi 49 a7) (pl1 (hR.A9 h7)) ?_
   cases h
   exact rfl
 refine fN c4 <| awp_seq ?_
 obtain ⟨⟨a8_0, a8_1⟩, h8, h⟩ := bind_some h
 dsimp only at h
 refine rg L 249 [] [] [(1, (ef0 (.B a8_0) [(0, .raw (Ac a8_1))]))] (pl1 (Aj.okE h8)) ?_
 rcases ite_some h with ⟨c5, h⟩ | ⟨c5, h⟩
 ·refine tt c5 <| awp_seq ?_
  obtain ⟨a9, h9, h⟩ := bind_some h
  rcases a9 with ⟨a9_0, a9_1⟩ | a9
  ·dsimp only at h
   refine rg L 253 [] [] [(3, (ef0 (.cv (.ro .Ad a9_0)) [(0, .raw (Ac a9_1))]))] (pl1 (hR.Bl h9)) ?_
   refine awp_turn (Turns.trans (Turns.kk [2] [0, 200]) (Turns.rr [(0, 0), (200, 100)])) ?_
   refine awp_ret ?_
   cases h
   exact xr0
  ·obtain ⟨a9, rfl⟩ : ∃ z, z = a9 := ⟨_, rfl⟩
   dsimp only at h
   refine qn L 253 [] [] [] 3 (ef0 (.tup []) []) (ofi 49 a9) (pl1 (hR.Bl h9)) ?_
   cases h
   exact rfl
 refine fN c5 <| awp_skip' <| awp_seq ?_
 obtain ⟨a10, h10, h⟩ := bind_some h
 rcases a10 with a10 | a10
 ·dsimp only at h
  refine rg L 260 [] [] [(1, (ef0 (.tup []) [(0, .raw (Ac a10))]))] (pl1 (Al.okE h10)) ?_
  refine awp_seq ?_
  obtain ⟨a11, h11, h⟩ := bind_some h
  rcases a11 with a11 | a11
  ·dsimp only at h
   refine qn L 263 [] [] [] 1 (ef0 (.tup []) []) (ofi 49 a11) (pl1 (hR.Au h11)) ?_
   cases h
   exact rfl
  ·obtain ⟨a11_0, a11_1⟩ := a11
   dsimp only at h
   refine rg L 263 [] [] [(1, (ef0 (.agg (Ae a11_0)) [(0, .raw (Ac a11_1))]))] (pl1 (hR.Au h11)) ?_
   refine awp_seq ?_
   obtain ⟨a12, h12, h⟩ := bind_some h
   rcases a12 with a12 | a12
   ·dsimp only at h
    refine rg L 268 [] [] [(1, (ef0 (.tup []) [(0, .raw (Ac a12))]))] (pl1 (Al.okE h12)) ?_
    refine sg0 L 271 <| awp_turn (Turns.trans (Turns.kk [2] [0, 200]) (Turns.rr [(0, 0), (200, 100)])) ?_
    refine awp_ret ?_
    cases h
    exact xr0
   ·obtain ⟨a12, rfl⟩ : ∃ z, z = a12 := ⟨_, rfl⟩
    dsimp only at h
    refine qn L 268 [] [] [] 1 (ef0 (.tup []) []) (ofi 49 a12) (pl1 (Al.okE h12)) ?_
    cases h
    exact rfl
 ·obtain ⟨a10, rfl⟩ : ∃ z, z = a10 := ⟨_, rfl⟩
  dsimp only at h
  refine qn L 260 [] [] [] 1 (ef0 (.tup []) []) (ofi 49 a10) (pl1 (Al.okE h10)) ?_
  cases h
  exact rfl
def A4.l6 (K : Nat) (R : Af) : Nat → (List Aw) → Int → Int → (List UInt8) → Int → (List UInt8) → (List Aa) → Option (Out (Int ⊕ (Aa × Ab)) Unit)
 | 0, _, _, _, _, _, _, _ => none
 | k + 1, xh0_0_6h, xh0_1_6h, x21301_0, x21301_1, x21301_2, x21301_3, x21301_4 => (Option.bind (Aj K ([46] : List UInt8) (⟨xh0_0_6h, xh0_1_6h⟩ : Ab)) (fun (a2_0, a2_1) => (if a2_0 = true then (Option.bind (Aq K a2_1) (fun a3 => match a3 with | (Sum.inl a3) => some (Out.done (Sum.inl a3)) | (Sum.inr (a3_0, a3_1)) => A4.l6 K R k a3_1.l a3_1.i 29 a3_0 0 [] ([(⟨x21301_0, x21301_1, x21301_2, x21301_3, x21301_4⟩ : Aa)] : List Aa))) else (Option.bind (Aj K ([91] : List UInt8) a2_1) (fun (a4_0, a4_1) => (if a4_0 = true then (Option.bind (R.Au a4_1) (fun a5 => match a5 with | (Sum.inl a5) => some (Out.done (Sum.inl a5)) | (Sum.inr (a5_0, a5_1)) => (Option.bind (Cl K 28 ([(⟨x21301_0, x21301_1, x21301_2, x21301_3, x21301_4⟩ : Aa), (⟨a5_0.Op, a5_0.Name, a5_0.Int, a5_0.Text, a5_0.Kids⟩ : Aa)] : List Aa)) (fun a6 => (Option.bind (Al K ([93] : List UInt8) a5_1) (fun a7 => match a7 with | (Sum.inl a7) => A4.l6 K R k a7.l a7.i a6.Op a6.Name a6.Int a6.Text a6.Kids | (Sum.inr a7) => some (Out.done (Sum.inl a7)))))))) else some (Out.done (Sum.inr ((⟨x21301_0, x21301_1, x21301_2, x21301_3, x21301_4⟩ : Aa), a4_1)))))))))
def A4.F (K : Nat) (R : Af) (p0 : Ab) : Option (Int ⊕ (Aa × Ab)) := (Option.bind (R.B4 p0) (fun a1 => match a1 with | (Sum.inl (a1_0, a1_1)) => (obind (A4.l6 K R K a1_1.l a1_1.i a1_0.Op a1_0.Name a1_0.Int a1_0.Text a1_0.Kids : Option (Out (Int ⊕ (Aa × Ab)) Unit)) (fun r => r) (fun _ => none)) | (Sum.inr a1) => some (Sum.inl a1)))
theorem A4.body {Γ : Ent} {K : Nat} {R : Af} (hR : R.Ok) {p0 : Ab} {r : Int ⊕ (Aa × Ab)} (h : A4.F K R p0 = some r) : AWp V P 25 100 Γ (Tryz.f156.body.getD .skip) (EndsX P V Tryz.f156 (A4.rep p0 r) (A4.post p0 r)) ⟨args0 0 [.P 0], [(0, .raw (Ac p0))]⟩ := by
 unfold A4.F at h
 refine sg0 L 200 <| awp_seq ?_
 obtain ⟨a1, h1, h⟩ := bind_some h
 rcases a1 with ⟨a1_0, a1_1⟩ | a1
 ·dsimp only at h
  refine rg L 202 [] [] [(1, (ef0 (.agg (Ae a1_0)) [(0, .raw (Ac a1_1))]))] (pl1 (hR.B4 h1)) ?_
  refine awp_block <| awp_turn (Turns.trans (Turns.kk [0, 2, 3] [0, 200, 204]) (Turns.rr [(0, 0), (200, 21300), (204, 21301)])) ?_
  refine kp (S' := ⟨[(0, .P 0), (2, .P 21300), (3, .P 21301)], [(0, .raw (Ac a1_1)), (21300, .raw [.I 0, .str [], .I 0, .str [], .N]), (21301, .raw (Ae a1_0))]⟩) ?_
  obtain ⟨o1, hp1, h⟩ := obind_some h
  refine awp_conseq (Q' := fun e S => False ∨ ((e = .ret ∨ ∃ ch, e = .panic ch) ∧ ∃ a, Out.done a = o1 ∧ EndsX P V Tryz.f156 (A4.rep p0 a) (A4.post p0 a) e S)) (awp_loop (fun k S => ∃ xh0_0_6h : List Aw, ∃ xh0_1_6h : Int, ∃ x21301_0 : Int, ∃ x21301_1 : List UInt8, ∃ x21301_2 : Int, ∃ x21301_3 : List UInt8, ∃ x21301_4 : List Aa, S = ⟨[(0, .P 0), (2, .P 21300), (3, .P 21301)], [(0, .raw [.ro .Ax xh0_0_6h, .I xh0_1_6h]), (21300, .raw [.I 0, .str [], .I 0, .str [], .N]), (21301, .raw [.I x21301_0, .str x21301_1, .I x21301_2, .str x21301_3, .ro .Ad x21301_4])]⟩ ∧ A4.l6 K R k xh0_0_6h xh0_1_6h x21301_0 x21301_1 x21301_2 x21301_3 x21301_4 = some o1) ?_ ⟨_, _, _, _, _, _, _, rfl, hp1⟩) ?_
  ·clear h hp1
   intro k S hS
   obtain ⟨xh0_0_6h, xh0_1_6h, x21301_0, x21301_1, x21301_2, x21301_3, x21301_4, rfl, h⟩ := hS
   cases k with
   | zero => cases h
   | succ k =>
   unfold A4.l6 at h
   refine awp_block <| awp_block <| awp_seq ?_
   obtain ⟨⟨a2_0, a2_1⟩, h2, h⟩ := bind_some h
   dsimp only at h
   refine rg L 207 [] [] [(1, (ef0 (.B a2_0) [(0, .raw (Ac a2_1))]))] (pl1 (Aj.okE h2)) ?_
   rcases ite_some h with ⟨c1, h⟩ | ⟨c1, h⟩
   ·refine tt c1 ?_
    obtain ⟨a3, h3, h⟩ := bind_some h
    rcases a3 with a3 | a3
    ·dsimp only at h
     refine qP L mixed 211 [] [] [] [0] 1 (ef0 (.tup []) []) (ofi 49 a3) (plc (Aq.okE h3) (plc (Aq.okE h3) (pl1 (Aq.okE h3)))) ?_
     cases h
     exact .inr ⟨.inr ⟨_, rfl⟩, _, rfl, rfl⟩
    ·obtain ⟨a3_0, a3_1⟩ := a3
     dsimp only at h
     refine hB L mixed 211 [] [] [(1, (ef0 (.cv (.str a3_0)) [(0, .raw (Ac a3_1))]))] [0] 3 (plc (Aq.okE h3) (plc (Aq.okE h3) (pl1 (Aq.okE h3)))) (S' := ⟨[(0, .P 0), (2, .P 21300), (3, .P 21301)], [(0, .raw (Ac a3_1)), (21300, .raw [.I 0, .str [], .I 0, .str [], .N]), (21301, .raw [.I 29, .str a3_0, .I 0, .str [], .ro .Ad ([(⟨x21301_0, x21301_1, x21301_2, x21301_3, x21301_4⟩ : Aa)] : List Aa)])]⟩) ?_
     exact ⟨k, Nat.lt_succ_self k, _, _, _, _, _, _, _, rfl, h⟩
   refine fN c1 <| awp_seq ?_
   obtain ⟨⟨a4_0, a4_1⟩, h4, h⟩ := bind_some h
   dsimp only at h
   refine rg L 218 [] [] [(1, (ef0 (.B a4_0) [(0, .raw (Ac a4_1))]))] (pl1 (Aj.okE h4)) ?_
   rcases ite_some h with ⟨c2, h⟩ | ⟨c2, h⟩
   ·refine tt c2 <| awp_seq ?_
    obtain ⟨a5, h5, h⟩ := bind_some h
    rcases a5 with a5 | a5
    ·dsimp only at h
     refine qP L mixed 222 [] [] [] [1] 2 (ef0 (.tup []) []) (ofi 49 a5) (pl2 (hR.Au h5) (hR.Au h5)) ?_
     cases h
     exact .inr ⟨.inr ⟨_, rfl⟩, _, rfl, rfl⟩
    ·obtain ⟨a5_0, a5_1⟩ := a5
     dsimp only at h
     obtain ⟨a6, h6, h⟩ := bind_some h
     refine hB L mixed 222 [] [(4, .agg (Ae a6))] [(2, (ef0 (.agg (Ae a5_0)) [(0, .raw (Ac a5_1))]))] [1] 2 (plc (hR.Au h5) (plc (Cl.ok h6) (plc trivial (plc (hR.Au h5) (plc (Cl.ok h6) (pl1 trivial)))))) (S' := ⟨[(0, .P 0), (2, .P 21300), (3, .P 21301)], [(0, .raw (Ac a5_1)), (21300, .raw [.I 0, .str [], .I 0, .str [], .N]), (21301, .raw (Ae a6))]⟩) ?_
     obtain ⟨a7, h7, h⟩ := bind_some h
     rcases a7 with a7 | a7
     ·dsimp only at h
      refine ar L 229 [] [] [(1, (ef0 (.tup []) [(0, .raw (Ac a7))]))] (cs := [ECall V P 46 [.P 0, .cv (.str ([93] : List UInt8))] [(0, .raw (Ac a5_1))] [0] (.tup []) [(0, .raw (Ac a7))]]) (S' := ⟨[(0, .P 0), (2, .P 21300), (3, .P 21301)], [(0, .raw (Ac a7)), (21300, .raw [.I 0, .str [], .I 0, .str [], .N]), (21301, .raw (Ae a6))]⟩) (Al.okE h7) ?_
      exact ⟨k, Nat.lt_succ_self k, _, _, _, _, _, _, _, rfl, h⟩
     ·obtain ⟨a7, rfl⟩ : ∃ z, z = a7 := ⟨_, rfl⟩
      dsimp only at h
      refine qn L 229 [] [] [] 1 (ef0 (.tup []) []) (ofi 49 a7) (pl1 (Al.okE h7)) ?_
      cases h
      exact .inr ⟨.inr ⟨_, rfl⟩, _, rfl, rfl⟩
   refine fN c2 <| sg0 L 232 <| awp_turn (Turns.trans (Turns.kk [2] [0, 21300]) (Turns.rr [(0, 0), (21300, 100)])) ?_
   refine awp_ret ?_
   cases h
   exact .inr ⟨.inl rfl, _, rfl, xr0⟩
  ·rintro e S (hf | ⟨he, a, rfl, hr⟩)
   ·exact hf.elim
   ·rcases h with ⟨_, e1, h⟩ | ⟨_, e1, h⟩
    ·have e2 := Out.done.inj e1
     subst e2
     subst h
     rcases he with rfl | ⟨ch, rfl⟩
     ·exact ⟨_, Turns.refl, hr⟩
     ·exact ⟨_, Turns.refl, hr⟩
    ·cases e1
 ·obtain ⟨a1, rfl⟩ : ∃ z, z = a1 := ⟨_, rfl⟩
  dsimp only at h
  refine qn L 202 [] [] [] 1 (ef0 (.tup []) []) (ofi 49 a1) (pl1 (hR.B4 h1)) ?_
  cases h
  exact rfl
def A6.F (K : Nat) (R : Af) (p0 : Ab) : Option (Int ⊕ (Aa × Ab)) := (Option.bind (Aj K ([45] : List UInt8) p0) (fun (a1_0, a1_1) => (if a1_0 = true then (Option.bind (R.A6 a1_1) (fun a2 => match a2 with | (Sum.inl a2) => some (Sum.inl a2) | (Sum.inr (a2_0, a2_1)) => (Option.bind (Cl K 14 ([(⟨a2_0.Op, a2_0.Name, a2_0.Int, a2_0.Text, a2_0.Kids⟩ : Aa)] : List Aa)) (fun a3 => some (Sum.inr (a3, a2_1)))))) else (Option.bind (Aj K ([97, 119, 97, 105, 116] : List UInt8) a1_1) (fun (a4_0, a4_1) => (if a4_0 = true then (Option.bind (R.A6 a4_1) (fun a5 => match a5 with | (Sum.inl a5) => some (Sum.inl a5) | (Sum.inr (a5_0, a5_1)) => (Option.bind (Cl K 12 ([(⟨a5_0.Op, a5_0.Name, a5_0.Int, a5_0.Text, a5_0.Kids⟩ : Aa)] : List Aa)) (fun a6 => some (Sum.inr (a6, a5_1)))))) else (Option.bind (Aj K ([103, 111] : List UInt8) a4_1) (fun (a7_0, a7_1) => (if a7_0 = true then (Option.bind (Aq K a7_1) (fun a8 => match a8 with | (Sum.inl a8) => some (Sum.inl a8) | (Sum.inr (a8_0, a8_1)) => (Option.bind (R.Bp 11 a8_0 a8_1) (fun a9 => match a9 with | (Sum.inl (a9_0, a9_1)) => some (Sum.inr (a9_0, a9_1)) | (Sum.inr a9) => some (Sum.inl a9))))) else (Option.bind (R.A4 a7_1) (fun a10 => match a10 with | (Sum.inl a10) => some (Sum.inl a10) | (Sum.inr (a10_0, a10_1)) => some (Sum.inr (a10_0, a10_1)))))))))))))
theorem A6.body {Γ : Ent} {K : Nat} {R : Af} (hR : R.Ok) {p0 : Ab} {r : Int ⊕ (Aa × Ab)} (h : A6.F K R p0 = some r) : AWp V P 26 100 Γ (Tryz.f146.body.getD .skip) (EndsX P V Tryz.f146 (A6.rep p0 r) (A6.post p0 r)) ⟨args0 0 [.P 0], [(0, .raw (Ac p0))]⟩ := by
 unfold A6.F at h
 refine sg0 L 200 <| awp_seq <| awp_block <| awp_seq ?_
 obtain ⟨⟨a1_0, a1_1⟩, h1, h⟩ := bind_some h
 dsimp only at h
 refine rg L 202 [] [] [(1, (ef0 (.B a1_0) [(0, .raw (Ac a1_1))]))] (pl1 (Aj.okE h1)) ?_
 rcases ite_some h with ⟨c1, h⟩ | ⟨c1, h⟩
 ·refine tt c1 <| awp_seq ?_
  obtain ⟨a2, h2, h⟩ := bind_some h
  rcases a2 with a2 | a2
  ·dsimp only at h
   refine qn L 206 [] [] [] 1 (ef0 (.tup []) []) (ofi 49 a2) (pl1 (hR.A6 h2)) ?_
   cases h
   exact rfl
  ·obtain ⟨a2_0, a2_1⟩ := a2
   dsimp only at h
   obtain ⟨a3, h3, h⟩ := bind_some h
   refine rg L 206 [] [(3, .agg (Ae a3))] [(1, (ef0 (.agg (Ae a2_0)) [(0, .raw (Ac a2_1))]))] (plc (hR.A6 h2) (plc (Cl.ok h3) (pl1 trivial))) ?_
   refine awp_turn (Turns.trans (Turns.kk [2] [0, 200]) (Turns.rr [(0, 0), (200, 100)])) ?_
   refine awp_ret ?_
   cases h
   exact xr0
 refine fN c1 <| awp_seq ?_
 obtain ⟨⟨a4_0, a4_1⟩, h4, h⟩ := bind_some h
 dsimp only at h
 refine rg L 212 [] [] [(1, (ef0 (.B a4_0) [(0, .raw (Ac a4_1))]))] (pl1 (Aj.okE h4)) ?_
 rcases ite_some h with ⟨c2, h⟩ | ⟨c2, h⟩
 ·refine tt c2 <| awp_seq ?_
  obtain ⟨a5, h5, h⟩ := bind_some h
  rcases a5 with a5 | a5
  ·dsimp only at h
   refine qn L 216 [] [] [] 1 (ef0 (.tup []) []) (ofi 49 a5) (pl1 (hR.A6 h5)) ?_
   cases h
   exact rfl
  ·obtain ⟨a5_0, a5_1⟩ := a5
   dsimp only at h
   obtain ⟨a6, h6, h⟩ := bind_some h
   refine rg L 216 [] [(3, .agg (Ae a6))] [(1, (ef0 (.agg (Ae a5_0)) [(0, .raw (Ac a5_1))]))] (plc (hR.A6 h5) (plc (Cl.ok h6) (pl1 trivial))) ?_
   refine awp_turn (Turns.trans (Turns.kk [2] [0, 200]) (Turns.rr [(0, 0), (200, 100)])) ?_
   refine awp_ret ?_
   cases h
   exact xr0
 refine fN c2 <| awp_seq ?_
 obtain ⟨⟨a7_0, a7_1⟩, h7, h⟩ := bind_some h
 dsimp only at h
 refine rg L 222 [] [] [(1, (ef0 (.B a7_0) [(0, .raw (Ac a7_1))]))] (pl1 (Aj.okE h7)) ?_
 rcases ite_some h with ⟨c3, h⟩ | ⟨c3, h⟩
 ·refine tt c3 <| awp_seq ?_
  obtain ⟨a8, h8, h⟩ := bind_some h
  rcases a8 with a8 | a8
  ·dsimp only at h
   refine qn L 226 [] [] [] 2 (ef0 (.tup []) []) (ofi 49 a8) (pl1 (Aq.okE h8)) ?_
   cases h
   exact rfl
  ·obtain ⟨a8_0, a8_1⟩ := a8
   dsimp only at h
   obtain ⟨a9, h9, h⟩ := bind_some h
   rcases a9 with ⟨a9_0, a9_1⟩ | a9
   ·dsimp only at h
    refine rg L 226 [] [] [(2, (ef0 (.cv (.str a8_0)) [(0, .raw (Ac a8_1))])), (3, (ef0 (.agg (Ae a9_0)) [(0, .raw (Ac a9_1))]))] (pl2 (Aq.okE h8) (hR.Bp h9)) ?_
    refine awp_turn (Turns.trans (Turns.kk [2] [0, 200]) (Turns.rr [(0, 0), (200, 100)])) ?_
    refine awp_ret ?_
    cases h
    exact xr0
   ·obtain ⟨a9, rfl⟩ : ∃ z, z = a9 := ⟨_, rfl⟩
    dsimp only at h
    refine qn L 226 [] [] [(2, (ef0 (.cv (.str a8_0)) [(0, .raw (Ac a8_1))]))] 3 (ef0 (.tup []) []) (ofi 49 a9) (pl2 (Aq.okE h8) (hR.Bp h9)) ?_
    cases h
    exact rfl
 refine fN c3 <| awp_skip' <| awp_seq ?_
 obtain ⟨a10, h10, h⟩ := bind_some h
 rcases a10 with a10 | a10
 ·dsimp only at h
  refine qn L 232 [] [] [] 1 (ef0 (.tup []) []) (ofi 49 a10) (pl1 (hR.A4 h10)) ?_
  cases h
  exact rfl
 ·obtain ⟨a10_0, a10_1⟩ := a10
  dsimp only at h
  refine rg L 232 [] [] [(1, (ef0 (.agg (Ae a10_0)) [(0, .raw (Ac a10_1))]))] (pl1 (hR.A4 h10)) ?_
  refine awp_turn (Turns.trans (Turns.kk [2] [0, 200]) (Turns.rr [(0, 0), (200, 100)])) ?_
  refine awp_ret ?_
  cases h
  exact xr0
def Be.l6 (K : Nat) (R : Af) (p0 : List (List UInt8)) (p1 : List Int) : Nat → (List Aw) → Int → Int → (List UInt8) → Int → (List UInt8) → (List Aa) → Option (Out (Int ⊕ (Aa × Ab)) Unit)
 | 0, _, _, _, _, _, _, _ => none
 | k + 1, xh0_0_6h, xh0_1_6h, x21301_0, x21301_1, x21301_2, x21301_3, x21301_4 => (Option.bind (Ci K p0 p1 (⟨xh0_0_6h, xh0_1_6h⟩ : Ab)) (fun (a2_0, a2_1, a2_2) => (if a2_1 = true then (Option.bind (R.A6 a2_2) (fun a3 => match a3 with | (Sum.inl a3) => some (Out.done (Sum.inl a3)) | (Sum.inr (a3_0, a3_1)) => (Option.bind (Cl K a2_0 ([(⟨x21301_0, x21301_1, x21301_2, x21301_3, x21301_4⟩ : Aa), (⟨a3_0.Op, a3_0.Name, a3_0.Int, a3_0.Text, a3_0.Kids⟩ : Aa)] : List Aa)) (fun a4 => Be.l6 K R p0 p1 k a3_1.l a3_1.i a4.Op a4.Name a4.Int a4.Text a4.Kids)))) else some (Out.done (Sum.inr ((⟨x21301_0, x21301_1, x21301_2, x21301_3, x21301_4⟩ : Aa), a2_2))))))
def Be.F (K : Nat) (R : Af) (p0 : List (List UInt8)) (p1 : List Int) (p2 : Ab) : Option (Int ⊕ (Aa × Ab)) := (Option.bind (R.A6 p2) (fun a1 => match a1 with | (Sum.inl a1) => some (Sum.inl a1) | (Sum.inr (a1_0, a1_1)) => (obind (Be.l6 K R p0 p1 K a1_1.l a1_1.i a1_0.Op a1_0.Name a1_0.Int a1_0.Text a1_0.Kids : Option (Out (Int ⊕ (Aa × Ab)) Unit)) (fun r => r) (fun _ => none))))
theorem Be.body {Γ : Ent} {K : Nat} {R : Af} (hR : R.Ok) {p0 : List (List UInt8)} {p1 : List Int} {p2 : Ab} {r : Int ⊕ (Aa × Ab)} (h : Be.F K R p0 p1 p2 = some r) : AWp V P 30 100 Γ (Tryz.f62.body.getD .skip) (EndsX P V Tryz.f62 (Be.rep p0 p1 p2 r) (Be.post p0 p1 p2 r)) ⟨args0 0 [.P 0, .cv (.fn (.func 146) [.P 0] []), .cv (.ro .C4 p0), .cv (.ro .E1 p1)], [(0, .raw (Ac p2))]⟩ := by
 unfold Be.F at h
 refine sg0 L 200 <| awp_seq ?_
 obtain ⟨a1, h1, h⟩ := bind_some h
 rcases a1 with a1 | a1
 ·dsimp only at h
  refine qn L 202 [] [] [] 1 (ef0 (.tup []) []) (ofi 49 a1) (pl1 (hR.A6 h1)) ?_
  cases h
  exact rfl
 ·obtain ⟨a1_0, a1_1⟩ := a1
  dsimp only at h
  refine rg L 202 [] [] [(1, (ef0 (.agg (Ae a1_0)) [(0, .raw (Ac a1_1))]))] (pl1 (hR.A6 h1)) ?_
  refine awp_block <| awp_turn (Turns.trans (Turns.kk [0, 1, 2, 3, 8, 9] [0, 200, 204]) (Turns.rr [(0, 0), (200, 21300), (204, 21301)])) ?_
  refine kp (S' := ⟨[(0, .P 0), (1, .cv (.fn (.func 146) [.P 0] [])), (2, .cv (.ro .C4 p0)), (3, .cv (.ro .E1 p1)), (8, .P 21300), (9, .P 21301)], [(0, .raw (Ac a1_1)), (21300, .raw [.I 0, .str [], .I 0, .str [], .N]), (21301, .raw (Ae a1_0))]⟩) ?_
  obtain ⟨o1, hp1, h⟩ := obind_some h
  refine awp_conseq (Q' := fun e S => False ∨ ((e = .ret ∨ ∃ ch, e = .panic ch) ∧ ∃ a, Out.done a = o1 ∧ EndsX P V Tryz.f62 (Be.rep p0 p1 p2 a) (Be.post p0 p1 p2 a) e S)) (awp_loop (fun k S => ∃ xh0_0_6h : List Aw, ∃ xh0_1_6h : Int, ∃ x21301_0 : Int, ∃ x21301_1 : List UInt8, ∃ x21301_2 : Int, ∃ x21301_3 : List UInt8, ∃ x21301_4 : List Aa, S = ⟨[(0, .P 0), (1, .cv (.fn (.func 146) [.P 0] [])), (2, .cv (.ro .C4 p0)), (3, .cv (.ro .E1 p1)), (8, .P 21300), (9, .P 21301)], [(0, .raw [.ro .Ax xh0_0_6h, .I xh0_1_6h]), (21300, .raw [.I 0, .str [], .I 0, .str [], .N]), (21301, .raw [.I x21301_0, .str x21301_1, .I x21301_2, .str x21301_3, .ro .Ad x21301_4])]⟩ ∧ Be.l6 K R p0 p1 k xh0_0_6h xh0_1_6h x21301_0 x21301_1 x21301_2 x21301_3 x21301_4 = some o1) ?_ ⟨_, _, _, _, _, _, _, rfl, hp1⟩) ?_
  ·clear h hp1
   intro k S hS
   obtain ⟨xh0_0_6h, xh0_1_6h, x21301_0, x21301_1, x21301_2, x21301_3, x21301_4, rfl, h⟩ := hS
   cases k with
   | zero => cases h
   | succ k =>
   unfold Be.l6 at h
   refine awp_block <| awp_seq ?_
   obtain ⟨⟨a2_0, a2_1, a2_2⟩, h2, h⟩ := bind_some h
   dsimp only at h
   refine rg L 207 [] [] [(3, (ef0 (.tup [.I a2_0, .B a2_1]) [(0, .raw (Ac a2_2))]))] (pl1 (Ci.okE h2)) ?_
   refine awp_seq <| sg0 L 217 ?_
   rcases ite_some h with ⟨c1, h⟩ | ⟨c1, h⟩
   ·refine ff (b := (!a2_1)) (congrArg Bool.not (c1)) ?_
    refine awp_skip' ?_
    obtain ⟨a3, h3, h⟩ := bind_some h
    rcases a3 with a3 | a3
    ·dsimp only at h
     refine qP L mixed 223 [] [] [] [0, 2] 3 (ef0 (.tup []) []) (ofi 49 a3) (pl2 (hR.A6 h3) (hR.A6 h3)) ?_
     cases h
     exact .inr ⟨.inr ⟨_, rfl⟩, _, rfl, rfl⟩
    ·obtain ⟨a3_0, a3_1⟩ := a3
     dsimp only at h
     obtain ⟨a4, h4, h⟩ := bind_some h
     refine hB L mixed 223 [] [(5, .agg (Ae a4))] [(3, (ef0 (.agg (Ae a3_0)) [(0, .raw (Ac a3_1))]))] [0, 2] 2 (plc (hR.A6 h3) (plc (Cl.ok h4) (plc trivial (plc (hR.A6 h3) (plc (Cl.ok h4) (pl1 trivial)))))) (S' := ⟨[(0, .P 0), (1, .cv (.fn (.func 146) [.P 0] [])), (2, .cv (.ro .C4 p0)), (3, .cv (.ro .E1 p1)), (8, .P 21300), (9, .P 21301)], [(0, .raw (Ac a3_1)), (21300, .raw [.I 0, .str [], .I 0, .str [], .N]), (21301, .raw (Ae a4))]⟩) ?_
     exact ⟨k, Nat.lt_succ_self k, _, _, _, _, _, _, _, rfl, h⟩
   refine tt (b := (!a2_1)) (congrArg Bool.not (eq_false_of_ne_true c1)) ?_
   refine sg0 L 220 <| awp_turn (Turns.trans (Turns.kk [8] [0, 21300]) (Turns.rr [(0, 0), (21300, 100)])) ?_
   refine awp_ret ?_
   cases h
   exact .inr ⟨.inl rfl, _, rfl, xr0⟩
  ·rintro e S (hf | ⟨he, a, rfl, hr⟩)
   ·exact hf.elim
   ·rcases h with ⟨_, e1, h⟩ | ⟨_, e1, h⟩
    ·have e2 := Out.done.inj e1
     subst e2
     subst h
     rcases he with rfl | ⟨ch, rfl⟩
     ·exact ⟨_, Turns.refl, hr⟩
     ·exact ⟨_, Turns.refl, hr⟩
    ·cases e1
def Bb.F (K : Nat) (R : Af) (p0 : Ab) : Option (Int ⊕ (Aa × Ab)) := (Option.bind (R.Be ([([42] : List UInt8), ([47] : List UInt8), ([37] : List UInt8)] : List (List UInt8)) ([15, 16, 17] : List Int) p0) (fun a1 => match a1 with | (Sum.inl a1) => some (Sum.inl a1) | (Sum.inr (a1_0, a1_1)) => some (Sum.inr (a1_0, a1_1))))
theorem Bb.body {Γ : Ent} {K : Nat} {R : Af} (hR : R.Ok) {p0 : Ab} {r : Int ⊕ (Aa × Ab)} (h : Bb.F K R p0 = some r) : AWp V P 9 100 Γ (Tryz.f137.body.getD .skip) (EndsX P V Tryz.f137 (Bb.rep p0 r) (Bb.post p0 r)) ⟨args0 0 [.P 0], [(0, .raw (Ac p0))]⟩ := by
 unfold Bb.F at h
 refine sg0 L 200 <| awp_seq ?_
 obtain ⟨a1, h1, h⟩ := bind_some h
 rcases a1 with a1 | a1
 ·dsimp only at h
  refine qn L 202 [] [] [] 5 (ef0 (.tup []) []) (ofi 49 a1) (pl1 (hR.Be h1)) ?_
  cases h
  exact rfl
 ·obtain ⟨a1_0, a1_1⟩ := a1
  dsimp only at h
  refine rg L 202 [] [] [(5, (ef0 (.agg (Ae a1_0)) [(0, .raw (Ac a1_1))]))] (pl1 (hR.Be h1)) ?_
  refine awp_turn (Turns.trans (Turns.kk [2] [0, 200]) (Turns.rr [(0, 0), (200, 100)])) ?_
  refine awp_ret ?_
  cases h
  exact xr0
def Bg.l6 (K : Nat) (R : Af) (p0 : List (List UInt8)) (p1 : List Int) : Nat → (List Aw) → Int → Int → (List UInt8) → Int → (List UInt8) → (List Aa) → Option (Out (Int ⊕ (Aa × Ab)) Unit)
 | 0, _, _, _, _, _, _, _ => none
 | k + 1, xh0_0_6h, xh0_1_6h, x21301_0, x21301_1, x21301_2, x21301_3, x21301_4 => (Option.bind (Ci K p0 p1 (⟨xh0_0_6h, xh0_1_6h⟩ : Ab)) (fun (a2_0, a2_1, a2_2) => (if a2_1 = true then (Option.bind (R.Bb a2_2) (fun a3 => match a3 with | (Sum.inl a3) => some (Out.done (Sum.inl a3)) | (Sum.inr (a3_0, a3_1)) => (Option.bind (Cl K a2_0 ([(⟨x21301_0, x21301_1, x21301_2, x21301_3, x21301_4⟩ : Aa), (⟨a3_0.Op, a3_0.Name, a3_0.Int, a3_0.Text, a3_0.Kids⟩ : Aa)] : List Aa)) (fun a4 => Bg.l6 K R p0 p1 k a3_1.l a3_1.i a4.Op a4.Name a4.Int a4.Text a4.Kids)))) else some (Out.done (Sum.inr ((⟨x21301_0, x21301_1, x21301_2, x21301_3, x21301_4⟩ : Aa), a2_2))))))
def Bg.F (K : Nat) (R : Af) (p0 : List (List UInt8)) (p1 : List Int) (p2 : Ab) : Option (Int ⊕ (Aa × Ab)) := (Option.bind (R.Bb p2) (fun a1 => match a1 with | (Sum.inl a1) => some (Sum.inl a1) | (Sum.inr (a1_0, a1_1)) => (obind (Bg.l6 K R p0 p1 K a1_1.l a1_1.i a1_0.Op a1_0.Name a1_0.Int a1_0.Text a1_0.Kids : Option (Out (Int ⊕ (Aa × Ab)) Unit)) (fun r => r) (fun _ => none))))
theorem Bg.body {Γ : Ent} {K : Nat} {R : Af} (hR : R.Ok) {p0 : List (List UInt8)} {p1 : List Int} {p2 : Ab} {r : Int ⊕ (Aa × Ab)} (h : Bg.F K R p0 p1 p2 = some r) : AWp V P 30 100 Γ (Tryz.f62.body.getD .skip) (EndsX P V Tryz.f62 (Bg.rep p0 p1 p2 r) (Bg.post p0 p1 p2 r)) ⟨args0 0 [.P 0, .cv (.fn (.func 137) [.P 0] []), .cv (.ro .C4 p0), .cv (.ro .E1 p1)], [(0, .raw (Ac p2))]⟩ := by
 unfold Bg.F at h
 refine sg0 L 200 <| awp_seq ?_
 obtain ⟨a1, h1, h⟩ := bind_some h
 rcases a1 with a1 | a1
 ·dsimp only at h
  refine qn L 202 [] [] [] 1 (ef0 (.tup []) []) (ofi 49 a1) (pl1 (hR.Bb h1)) ?_
  cases h
  exact rfl
 ·obtain ⟨a1_0, a1_1⟩ := a1
  dsimp only at h
  refine rg L 202 [] [] [(1, (ef0 (.agg (Ae a1_0)) [(0, .raw (Ac a1_1))]))] (pl1 (hR.Bb h1)) ?_
  refine awp_block <| awp_turn (Turns.trans (Turns.kk [0, 1, 2, 3, 8, 9] [0, 200, 204]) (Turns.rr [(0, 0), (200, 21300), (204, 21301)])) ?_
  refine kp (S' := ⟨[(0, .P 0), (1, .cv (.fn (.func 137) [.P 0] [])), (2, .cv (.ro .C4 p0)), (3, .cv (.ro .E1 p1)), (8, .P 21300), (9, .P 21301)], [(0, .raw (Ac a1_1)), (21300, .raw [.I 0, .str [], .I 0, .str [], .N]), (21301, .raw (Ae a1_0))]⟩) ?_
  obtain ⟨o1, hp1, h⟩ := obind_some h
  refine awp_conseq (Q' := fun e S => False ∨ ((e = .ret ∨ ∃ ch, e = .panic ch) ∧ ∃ a, Out.done a = o1 ∧ EndsX P V Tryz.f62 (Bg.rep p0 p1 p2 a) (Bg.post p0 p1 p2 a) e S)) (awp_loop (fun k S => ∃ xh0_0_6h : List Aw, ∃ xh0_1_6h : Int, ∃ x21301_0 : Int, ∃ x21301_1 : List UInt8, ∃ x21301_2 : Int, ∃ x21301_3 : List UInt8, ∃ x21301_4 : List Aa, S = ⟨[(0, .P 0), (1, .cv (.fn (.func 137) [.P 0] [])), (2, .cv (.ro .C4 p0)), (3, .cv (.ro .E1 p1)), (8, .P 21300), (9, .P 21301)], [(0, .raw [.ro .Ax xh0_0_6h, .I xh0_1_6h]), (21300, .raw [.I 0, .str [], .I 0, .str [], .N]), (21301, .raw [.I x21301_0, .str x21301_1, .I x21301_2, .str x21301_3, .ro .Ad x21301_4])]⟩ ∧ Bg.l6 K R p0 p1 k xh0_0_6h xh0_1_6h x21301_0 x21301_1 x21301_2 x21301_3 x21301_4 = some o1) ?_ ⟨_, _, _, _, _, _, _, rfl, hp1⟩) ?_
  ·clear h hp1
   intro k S hS
   obtain ⟨xh0_0_6h, xh0_1_6h, x21301_0, x21301_1, x21301_2, x21301_3, x21301_4, rfl, h⟩ := hS
   cases k with
   | zero => cases h
   | succ k =>
   unfold Bg.l6 at h
   refine awp_block <| awp_seq ?_
   obtain ⟨⟨a2_0, a2_1, a2_2⟩, h2, h⟩ := bind_some h
   dsimp only at h
   refine rg L 207 [] [] [(3, (ef0 (.tup [.I a2_0, .B a2_1]) [(0, .raw (Ac a2_2))]))] (pl1 (Ci.okE h2)) ?_
   refine awp_seq <| sg0 L 217 ?_
   rcases ite_some h with ⟨c1, h⟩ | ⟨c1, h⟩
   ·refine ff (b := (!a2_1)) (congrArg Bool.not (c1)) ?_
    refine awp_skip' ?_
    obtain ⟨a3, h3, h⟩ := bind_some h
    rcases a3 with a3 | a3
    ·dsimp only at h
     refine qP L mixed 223 [] [] [] [0, 2] 3 (ef0 (.tup []) []) (ofi 49 a3) (pl2 (hR.Bb h3) (hR.Bb h3)) ?_
     cases h
     exact .inr ⟨.inr ⟨_, rfl⟩, _, rfl, rfl⟩
    ·obtain ⟨a3_0, a3_1⟩ := a3
     dsimp only at h
     obtain ⟨a4, h4, h⟩ := bind_some h
     refine hB L mixed 223 [] [(5, .agg (Ae a4))] [(3, (ef0 (.agg (Ae a3_0)) [(0, .raw (Ac a3_1))]))] [0, 2] 2 (plc (hR.Bb h3) (plc (Cl.ok h4) (plc trivial (plc (hR.Bb h3) (plc (Cl.ok h4) (pl1 trivial)))))) (S' := ⟨[(0, .P 0), (1, .cv (.fn (.func 137) [.P 0] [])), (2, .cv (.ro .C4 p0)), (3, .cv (.ro .E1 p1)), (8, .P 21300), (9, .P 21301)], [(0, .raw (Ac a3_1)), (21300, .raw [.I 0, .str [], .I 0, .str [], .N]), (21301, .raw (Ae a4))]⟩) ?_
     exact ⟨k, Nat.lt_succ_self k, _, _, _, _, _, _, _, rfl, h⟩
   refine tt (b := (!a2_1)) (congrArg Bool.not (eq_false_of_ne_true c1)) ?_
   refine sg0 L 220 <| awp_turn (Turns.trans (Turns.kk [8] [0, 21300]) (Turns.rr [(0, 0), (21300, 100)])) ?_
   refine awp_ret ?_
   cases h
   exact .inr ⟨.inl rfl, _, rfl, xr0⟩
  ·rintro e S (hf | ⟨he, a, rfl, hr⟩)
   ·exact hf.elim
   ·rcases h with ⟨_, e1, h⟩ | ⟨_, e1, h⟩
    ·have e2 := Out.done.inj e1
     subst e2
     subst h
     rcases he with rfl | ⟨ch, rfl⟩
     ·exact ⟨_, Turns.refl, hr⟩
     ·exact ⟨_, Turns.refl, hr⟩
    ·cases e1
def B7.F (K : Nat) (R : Af) (p0 : Ab) : Option (Int ⊕ (Aa × Ab)) := (Option.bind (R.Bg ([([43] : List UInt8), ([45] : List UInt8)] : List (List UInt8)) ([18, 19] : List Int) p0) (fun a1 => match a1 with | (Sum.inl a1) => some (Sum.inl a1) | (Sum.inr (a1_0, a1_1)) => some (Sum.inr (a1_0, a1_1))))
theorem B7.body {Γ : Ent} {K : Nat} {R : Af} (hR : R.Ok) {p0 : Ab} {r : Int ⊕ (Aa × Ab)} (h : B7.F K R p0 = some r) : AWp V P 9 100 Γ (Tryz.f122.body.getD .skip) (EndsX P V Tryz.f122 (B7.rep p0 r) (B7.post p0 r)) ⟨args0 0 [.P 0], [(0, .raw (Ac p0))]⟩ := by
 unfold B7.F at h
 refine sg0 L 200 <| awp_seq ?_
 obtain ⟨a1, h1, h⟩ := bind_some h
 rcases a1 with a1 | a1
 ·dsimp only at h
  refine qn L 202 [] [] [] 5 (ef0 (.tup []) []) (ofi 49 a1) (pl1 (hR.Bg h1)) ?_
  cases h
  exact rfl
 ·obtain ⟨a1_0, a1_1⟩ := a1
  dsimp only at h
  refine rg L 202 [] [] [(5, (ef0 (.agg (Ae a1_0)) [(0, .raw (Ac a1_1))]))] (pl1 (hR.Bg h1)) ?_
  refine awp_turn (Turns.trans (Turns.kk [2] [0, 200]) (Turns.rr [(0, 0), (200, 100)])) ?_
  refine awp_ret ?_
  cases h
  exact xr0
def Bn.F (K : Nat) (R : Af) (p0 : Ab) : Option (Int ⊕ (Aa × Ab)) := (Option.bind (Aj K ([110, 111, 116] : List UInt8) p0) (fun (a1_0, a1_1) => (if a1_0 = true then (Option.bind (R.Bn a1_1) (fun a2 => match a2 with | (Sum.inl a2) => some (Sum.inl a2) | (Sum.inr (a2_0, a2_1)) => (Option.bind (Cl K 13 ([(⟨a2_0.Op, a2_0.Name, a2_0.Int, a2_0.Text, a2_0.Kids⟩ : Aa)] : List Aa)) (fun a3 => some (Sum.inr (a3, a2_1)))))) else (Option.bind (R.B7 a1_1) (fun a4 => match a4 with | (Sum.inl a4) => some (Sum.inl a4) | (Sum.inr (a4_0, a4_1)) => (Option.bind (Ci K ([([60] : List UInt8), ([60, 61] : List UInt8), ([62] : List UInt8), ([62, 61] : List UInt8), ([61, 61] : List UInt8), ([33, 61] : List UInt8)] : List (List UInt8)) ([20, 21, 22, 23, 24, 25] : List Int) a4_1) (fun (a5_0, a5_1, a5_2) => (if a5_1 = true then (Option.bind (R.B7 a5_2) (fun a6 => match a6 with | (Sum.inl a6) => some (Sum.inl a6) | (Sum.inr (a6_0, a6_1)) => (Option.bind (Cl K a5_0 ([(⟨a4_0.Op, a4_0.Name, a4_0.Int, a4_0.Text, a4_0.Kids⟩ : Aa), (⟨a6_0.Op, a6_0.Name, a6_0.Int, a6_0.Text, a6_0.Kids⟩ : Aa)] : List Aa)) (fun a7 => some (Sum.inr (a7, a6_1)))))) else some (Sum.inr (a4_0, a5_2))))))))))
theorem Bn.body {Γ : Ent} {K : Nat} {R : Af} (hR : R.Ok) {p0 : Ab} {r : Int ⊕ (Aa × Ab)} (h : Bn.F K R p0 = some r) : AWp V P 29 100 Γ (Tryz.f93.body.getD .skip) (EndsX P V Tryz.f93 (Bn.rep p0 r) (Bn.post p0 r)) ⟨args0 0 [.P 0], [(0, .raw (Ac p0))]⟩ := by
 unfold Bn.F at h
 refine sg0 L 200 <| awp_seq <| awp_seq ?_
 obtain ⟨⟨a1_0, a1_1⟩, h1, h⟩ := bind_some h
 dsimp only at h
 refine rg L 202 [] [] [(1, (ef0 (.B a1_0) [(0, .raw (Ac a1_1))]))] (pl1 (Aj.okE h1)) ?_
 rcases ite_some h with ⟨c1, h⟩ | ⟨c1, h⟩
 ·refine tt c1 <| awp_seq ?_
  obtain ⟨a2, h2, h⟩ := bind_some h
  rcases a2 with a2 | a2
  ·dsimp only at h
   refine qn L 205 [] [] [] 1 (ef0 (.tup []) []) (ofi 49 a2) (pl1 (hR.Bn h2)) ?_
   cases h
   exact rfl
  ·obtain ⟨a2_0, a2_1⟩ := a2
   dsimp only at h
   obtain ⟨a3, h3, h⟩ := bind_some h
   refine rg L 205 [] [(3, .agg (Ae a3))] [(1, (ef0 (.agg (Ae a2_0)) [(0, .raw (Ac a2_1))]))] (plc (hR.Bn h2) (plc (Cl.ok h3) (pl1 trivial))) ?_
   refine awp_turn (Turns.trans (Turns.kk [2] [0, 200]) (Turns.rr [(0, 0), (200, 100)])) ?_
   refine awp_ret ?_
   cases h
   exact xr0
 refine fN c1 <| awp_skip' <| awp_seq ?_
 obtain ⟨a4, h4, h⟩ := bind_some h
 rcases a4 with a4 | a4
 ·dsimp only at h
  refine qn L 211 [] [] [] 1 (ef0 (.tup []) []) (ofi 49 a4) (pl1 (hR.B7 h4)) ?_
  cases h
  exact rfl
 ·obtain ⟨a4_0, a4_1⟩ := a4
  dsimp only at h
  refine rg L 211 [] [] [(1, (ef0 (.agg (Ae a4_0)) [(0, .raw (Ac a4_1))]))] (pl1 (hR.B7 h4)) ?_
  refine awp_seq <| awp_seq ?_
  obtain ⟨⟨a5_0, a5_1, a5_2⟩, h5, h⟩ := bind_some h
  dsimp only at h
  refine rg L 216 [] [] [(3, (ef0 (.tup [.I a5_0, .B a5_1]) [(0, .raw (Ac a5_2))]))] (pl1 (Ci.okE h5)) ?_
  refine sg0 L 226 ?_
  rcases ite_some h with ⟨c2, h⟩ | ⟨c2, h⟩
  ·refine tt c2 <| awp_seq ?_
   obtain ⟨a6, h6, h⟩ := bind_some h
   rcases a6 with a6 | a6
   ·dsimp only at h
    refine qP L mixed 228 [] [] [] [0, 2] 3 (ef0 (.tup []) []) (ofi 49 a6) (pl2 (hR.B7 h6) (hR.B7 h6)) ?_
    cases h
    exact rfl
   ·obtain ⟨a6_0, a6_1⟩ := a6
    dsimp only at h
    obtain ⟨a7, h7, h⟩ := bind_some h
    refine hB L mixed 228 [] [(5, .agg (Ae a7))] [(3, (ef0 (.agg (Ae a6_0)) [(0, .raw (Ac a6_1))]))] [0, 2] 2 (plc (hR.B7 h6) (plc (Cl.ok h7) (plc trivial (plc (hR.B7 h6) (plc (Cl.ok h7) (pl1 trivial)))))) (S' := ⟨[(2, .P 200)], [(0, .raw (Ac a6_1)), (200, .raw (Ae a7))]⟩) ?_
    refine awp_turn (Turns.trans (Turns.kk [2] [0, 200]) (Turns.rr [(0, 0), (200, 100)])) ?_
    refine awp_ret ?_
    cases h
    exact xr0
  refine fN c2 <| awp_skip' <| sg0 L 236 <| awp_turn (Turns.trans (Turns.kk [2] [0, 200]) (Turns.rr [(0, 0), (200, 100)])) ?_
  refine awp_ret ?_
  cases h
  exact xr0
def Bf.l6 (K : Nat) (R : Af) (p0 : List (List UInt8)) (p1 : List Int) : Nat → (List Aw) → Int → Int → (List UInt8) → Int → (List UInt8) → (List Aa) → Option (Out (Int ⊕ (Aa × Ab)) Unit)
 | 0, _, _, _, _, _, _, _ => none
 | k + 1, xh0_0_6h, xh0_1_6h, x21301_0, x21301_1, x21301_2, x21301_3, x21301_4 => (Option.bind (Ci K p0 p1 (⟨xh0_0_6h, xh0_1_6h⟩ : Ab)) (fun (a2_0, a2_1, a2_2) => (if a2_1 = true then (Option.bind (R.Bn a2_2) (fun a3 => match a3 with | (Sum.inl a3) => some (Out.done (Sum.inl a3)) | (Sum.inr (a3_0, a3_1)) => (Option.bind (Cl K a2_0 ([(⟨x21301_0, x21301_1, x21301_2, x21301_3, x21301_4⟩ : Aa), (⟨a3_0.Op, a3_0.Name, a3_0.Int, a3_0.Text, a3_0.Kids⟩ : Aa)] : List Aa)) (fun a4 => Bf.l6 K R p0 p1 k a3_1.l a3_1.i a4.Op a4.Name a4.Int a4.Text a4.Kids)))) else some (Out.done (Sum.inr ((⟨x21301_0, x21301_1, x21301_2, x21301_3, x21301_4⟩ : Aa), a2_2))))))
def Bf.F (K : Nat) (R : Af) (p0 : List (List UInt8)) (p1 : List Int) (p2 : Ab) : Option (Int ⊕ (Aa × Ab)) := (Option.bind (R.Bn p2) (fun a1 => match a1 with | (Sum.inl a1) => some (Sum.inl a1) | (Sum.inr (a1_0, a1_1)) => (obind (Bf.l6 K R p0 p1 K a1_1.l a1_1.i a1_0.Op a1_0.Name a1_0.Int a1_0.Text a1_0.Kids : Option (Out (Int ⊕ (Aa × Ab)) Unit)) (fun r => r) (fun _ => none))))
theorem Bf.body {Γ : Ent} {K : Nat} {R : Af} (hR : R.Ok) {p0 : List (List UInt8)} {p1 : List Int} {p2 : Ab} {r : Int ⊕ (Aa × Ab)} (h : Bf.F K R p0 p1 p2 = some r) : AWp V P 30 100 Γ (Tryz.f62.body.getD .skip) (EndsX P V Tryz.f62 (Bf.rep p0 p1 p2 r) (Bf.post p0 p1 p2 r)) ⟨args0 0 [.P 0, .cv (.fn (.func 93) [.P 0] []), .cv (.ro .C4 p0), .cv (.ro .E1 p1)], [(0, .raw (Ac p2))]⟩ := by
 unfold Bf.F at h
 refine sg0 L 200 <| awp_seq ?_
 obtain ⟨a1, h1, h⟩ := bind_some h
 rcases a1 with a1 | a1
 ·dsimp only at h
  refine qn L 202 [] [] [] 1 (ef0 (.tup []) []) (ofi 49 a1) (pl1 (hR.Bn h1)) ?_
  cases h
  exact rfl
 ·obtain ⟨a1_0, a1_1⟩ := a1
  dsimp only at h
  refine rg L 202 [] [] [(1, (ef0 (.agg (Ae a1_0)) [(0, .raw (Ac a1_1))]))] (pl1 (hR.Bn h1)) ?_
  refine awp_block <| awp_turn (Turns.trans (Turns.kk [0, 1, 2, 3, 8, 9] [0, 200, 204]) (Turns.rr [(0, 0), (200, 21300), (204, 21301)])) ?_
  refine kp (S' := ⟨[(0, .P 0), (1, .cv (.fn (.func 93) [.P 0] [])), (2, .cv (.ro .C4 p0)), (3, .cv (.ro .E1 p1)), (8, .P 21300), (9, .P 21301)], [(0, .raw (Ac a1_1)), (21300, .raw [.I 0, .str [], .I 0, .str [], .N]), (21301, .raw (Ae a1_0))]⟩) ?_
  obtain ⟨o1, hp1, h⟩ := obind_some h
  refine awp_conseq (Q' := fun e S => False ∨ ((e = .ret ∨ ∃ ch, e = .panic ch) ∧ ∃ a, Out.done a = o1 ∧ EndsX P V Tryz.f62 (Bf.rep p0 p1 p2 a) (Bf.post p0 p1 p2 a) e S)) (awp_loop (fun k S => ∃ xh0_0_6h : List Aw, ∃ xh0_1_6h : Int, ∃ x21301_0 : Int, ∃ x21301_1 : List UInt8, ∃ x21301_2 : Int, ∃ x21301_3 : List UInt8, ∃ x21301_4 : List Aa, S = ⟨[(0, .P 0), (1, .cv (.fn (.func 93) [.P 0] [])), (2, .cv (.ro .C4 p0)), (3, .cv (.ro .E1 p1)), (8, .P 21300), (9, .P 21301)], [(0, .raw [.ro .Ax xh0_0_6h, .I xh0_1_6h]), (21300, .raw [.I 0, .str [], .I 0, .str [], .N]), (21301, .raw [.I x21301_0, .str x21301_1, .I x21301_2, .str x21301_3, .ro .Ad x21301_4])]⟩ ∧ Bf.l6 K R p0 p1 k xh0_0_6h xh0_1_6h x21301_0 x21301_1 x21301_2 x21301_3 x21301_4 = some o1) ?_ ⟨_, _, _, _, _, _, _, rfl, hp1⟩) ?_
  ·clear h hp1
   intro k S hS
   obtain ⟨xh0_0_6h, xh0_1_6h, x21301_0, x21301_1, x21301_2, x21301_3, x21301_4, rfl, h⟩ := hS
   cases k with
   | zero => cases h
   | succ k =>
   unfold Bf.l6 at h
   refine awp_block <| awp_seq ?_
   obtain ⟨⟨a2_0, a2_1, a2_2⟩, h2, h⟩ := bind_some h
   dsimp only at h
   refine rg L 207 [] [] [(3, (ef0 (.tup [.I a2_0, .B a2_1]) [(0, .raw (Ac a2_2))]))] (pl1 (Ci.okE h2)) ?_
   refine awp_seq <| sg0 L 217 ?_
   rcases ite_some h with ⟨c1, h⟩ | ⟨c1, h⟩
   ·refine ff (b := (!a2_1)) (congrArg Bool.not (c1)) ?_
    refine awp_skip' ?_
    obtain ⟨a3, h3, h⟩ := bind_some h
    rcases a3 with a3 | a3
    ·dsimp only at h
     refine qP L mixed 223 [] [] [] [0, 2] 3 (ef0 (.tup []) []) (ofi 49 a3) (pl2 (hR.Bn h3) (hR.Bn h3)) ?_
     cases h
     exact .inr ⟨.inr ⟨_, rfl⟩, _, rfl, rfl⟩
    ·obtain ⟨a3_0, a3_1⟩ := a3
     dsimp only at h
     obtain ⟨a4, h4, h⟩ := bind_some h
     refine hB L mixed 223 [] [(5, .agg (Ae a4))] [(3, (ef0 (.agg (Ae a3_0)) [(0, .raw (Ac a3_1))]))] [0, 2] 2 (plc (hR.Bn h3) (plc (Cl.ok h4) (plc trivial (plc (hR.Bn h3) (plc (Cl.ok h4) (pl1 trivial)))))) (S' := ⟨[(0, .P 0), (1, .cv (.fn (.func 93) [.P 0] [])), (2, .cv (.ro .C4 p0)), (3, .cv (.ro .E1 p1)), (8, .P 21300), (9, .P 21301)], [(0, .raw (Ac a3_1)), (21300, .raw [.I 0, .str [], .I 0, .str [], .N]), (21301, .raw (Ae a4))]⟩) ?_
     exact ⟨k, Nat.lt_succ_self k, _, _, _, _, _, _, _, rfl, h⟩
   refine tt (b := (!a2_1)) (congrArg Bool.not (eq_false_of_ne_true c1)) ?_
   refine sg0 L 220 <| awp_turn (Turns.trans (Turns.kk [8] [0, 21300]) (Turns.rr [(0, 0), (21300, 100)])) ?_
   refine awp_ret ?_
   cases h
   exact .inr ⟨.inl rfl, _, rfl, xr0⟩
  ·rintro e S (hf | ⟨he, a, rfl, hr⟩)
   ·exact hf.elim
   ·rcases h with ⟨_, e1, h⟩ | ⟨_, e1, h⟩
    ·have e2 := Out.done.inj e1
     subst e2
     subst h
     rcases he with rfl | ⟨ch, rfl⟩
     ·exact ⟨_, Turns.refl, hr⟩
     ·exact ⟨_, Turns.refl, hr⟩
    ·cases e1
def B6.F (K : Nat) (R : Af) (p0 : Ab) : Option (Int ⊕ (Aa × Ab)) := (Option.bind (R.Bf ([([97, 110, 100] : List UInt8)] : List (List UInt8)) ([26] : List Int) p0) (fun a1 => match a1 with | (Sum.inl a1) => some (Sum.inl a1) | (Sum.inr (a1_0, a1_1)) => some (Sum.inr (a1_0, a1_1))))
theorem B6.body {Γ : Ent} {K : Nat} {R : Af} (hR : R.Ok) {p0 : Ab} {r : Int ⊕ (Aa × Ab)} (h : B6.F K R p0 = some r) : AWp V P 9 100 Γ (Tryz.f63.body.getD .skip) (EndsX P V Tryz.f63 (B6.rep p0 r) (B6.post p0 r)) ⟨args0 0 [.P 0], [(0, .raw (Ac p0))]⟩ := by
 unfold B6.F at h
 refine sg0 L 200 <| awp_seq ?_
 obtain ⟨a1, h1, h⟩ := bind_some h
 rcases a1 with a1 | a1
 ·dsimp only at h
  refine qn L 202 [] [] [] 5 (ef0 (.tup []) []) (ofi 49 a1) (pl1 (hR.Bf h1)) ?_
  cases h
  exact rfl
 ·obtain ⟨a1_0, a1_1⟩ := a1
  dsimp only at h
  refine rg L 202 [] [] [(5, (ef0 (.agg (Ae a1_0)) [(0, .raw (Ac a1_1))]))] (pl1 (hR.Bf h1)) ?_
  refine awp_turn (Turns.trans (Turns.kk [2] [0, 200]) (Turns.rr [(0, 0), (200, 100)])) ?_
  refine awp_ret ?_
  cases h
  exact xr0
def Bi.l6 (K : Nat) (R : Af) (p0 : List (List UInt8)) (p1 : List Int) : Nat → (List Aw) → Int → Int → (List UInt8) → Int → (List UInt8) → (List Aa) → Option (Out (Int ⊕ (Aa × Ab)) Unit)
 | 0, _, _, _, _, _, _, _ => none
 | k + 1, xh0_0_6h, xh0_1_6h, x21301_0, x21301_1, x21301_2, x21301_3, x21301_4 => (Option.bind (Ci K p0 p1 (⟨xh0_0_6h, xh0_1_6h⟩ : Ab)) (fun (a2_0, a2_1, a2_2) => (if a2_1 = true then (Option.bind (R.B6 a2_2) (fun a3 => match a3 with | (Sum.inl a3) => some (Out.done (Sum.inl a3)) | (Sum.inr (a3_0, a3_1)) => (Option.bind (Cl K a2_0 ([(⟨x21301_0, x21301_1, x21301_2, x21301_3, x21301_4⟩ : Aa), (⟨a3_0.Op, a3_0.Name, a3_0.Int, a3_0.Text, a3_0.Kids⟩ : Aa)] : List Aa)) (fun a4 => Bi.l6 K R p0 p1 k a3_1.l a3_1.i a4.Op a4.Name a4.Int a4.Text a4.Kids)))) else some (Out.done (Sum.inr ((⟨x21301_0, x21301_1, x21301_2, x21301_3, x21301_4⟩ : Aa), a2_2))))))
def Bi.F (K : Nat) (R : Af) (p0 : List (List UInt8)) (p1 : List Int) (p2 : Ab) : Option (Int ⊕ (Aa × Ab)) := (Option.bind (R.B6 p2) (fun a1 => match a1 with | (Sum.inl a1) => some (Sum.inl a1) | (Sum.inr (a1_0, a1_1)) => (obind (Bi.l6 K R p0 p1 K a1_1.l a1_1.i a1_0.Op a1_0.Name a1_0.Int a1_0.Text a1_0.Kids : Option (Out (Int ⊕ (Aa × Ab)) Unit)) (fun r => r) (fun _ => none))))
theorem Bi.body {Γ : Ent} {K : Nat} {R : Af} (hR : R.Ok) {p0 : List (List UInt8)} {p1 : List Int} {p2 : Ab} {r : Int ⊕ (Aa × Ab)} (h : Bi.F K R p0 p1 p2 = some r) : AWp V P 30 100 Γ (Tryz.f62.body.getD .skip) (EndsX P V Tryz.f62 (Bi.rep p0 p1 p2 r) (Bi.post p0 p1 p2 r)) ⟨args0 0 [.P 0, .cv (.fn (.func 63) [.P 0] []), .cv (.ro .C4 p0), .cv (.ro .E1 p1)], [(0, .raw (Ac p2))]⟩ := by
 unfold Bi.F at h
 refine sg0 L 200 <| awp_seq ?_
 obtain ⟨a1, h1, h⟩ := bind_some h
 rcases a1 with a1 | a1
 ·dsimp only at h
  refine qn L 202 [] [] [] 1 (ef0 (.tup []) []) (ofi 49 a1) (pl1 (hR.B6 h1)) ?_
  cases h
  exact rfl
 ·obtain ⟨a1_0, a1_1⟩ := a1
  dsimp only at h
  refine rg L 202 [] [] [(1, (ef0 (.agg (Ae a1_0)) [(0, .raw (Ac a1_1))]))] (pl1 (hR.B6 h1)) ?_
  refine awp_block <| awp_turn (Turns.trans (Turns.kk [0, 1, 2, 3, 8, 9] [0, 200, 204]) (Turns.rr [(0, 0), (200, 21300), (204, 21301)])) ?_
  refine kp (S' := ⟨[(0, .P 0), (1, .cv (.fn (.func 63) [.P 0] [])), (2, .cv (.ro .C4 p0)), (3, .cv (.ro .E1 p1)), (8, .P 21300), (9, .P 21301)], [(0, .raw (Ac a1_1)), (21300, .raw [.I 0, .str [], .I 0, .str [], .N]), (21301, .raw (Ae a1_0))]⟩) ?_
  obtain ⟨o1, hp1, h⟩ := obind_some h
  refine awp_conseq (Q' := fun e S => False ∨ ((e = .ret ∨ ∃ ch, e = .panic ch) ∧ ∃ a, Out.done a = o1 ∧ EndsX P V Tryz.f62 (Bi.rep p0 p1 p2 a) (Bi.post p0 p1 p2 a) e S)) (awp_loop (fun k S => ∃ xh0_0_6h : List Aw, ∃ xh0_1_6h : Int, ∃ x21301_0 : Int, ∃ x21301_1 : List UInt8, ∃ x21301_2 : Int, ∃ x21301_3 : List UInt8, ∃ x21301_4 : List Aa, S = ⟨[(0, .P 0), (1, .cv (.fn (.func 63) [.P 0] [])), (2, .cv (.ro .C4 p0)), (3, .cv (.ro .E1 p1)), (8, .P 21300), (9, .P 21301)], [(0, .raw [.ro .Ax xh0_0_6h, .I xh0_1_6h]), (21300, .raw [.I 0, .str [], .I 0, .str [], .N]), (21301, .raw [.I x21301_0, .str x21301_1, .I x21301_2, .str x21301_3, .ro .Ad x21301_4])]⟩ ∧ Bi.l6 K R p0 p1 k xh0_0_6h xh0_1_6h x21301_0 x21301_1 x21301_2 x21301_3 x21301_4 = some o1) ?_ ⟨_, _, _, _, _, _, _, rfl, hp1⟩) ?_
  ·clear h hp1
   intro k S hS
   obtain ⟨xh0_0_6h, xh0_1_6h, x21301_0, x21301_1, x21301_2, x21301_3, x21301_4, rfl, h⟩ := hS
   cases k with
   | zero => cases h
   | succ k =>
   unfold Bi.l6 at h
   refine awp_block <| awp_seq ?_
   obtain ⟨⟨a2_0, a2_1, a2_2⟩, h2, h⟩ := bind_some h
   dsimp only at h
   refine rg L 207 [] [] [(3, (ef0 (.tup [.I a2_0, .B a2_1]) [(0, .raw (Ac a2_2))]))] (pl1 (Ci.okE h2)) ?_
   refine awp_seq <| sg0 L 217 ?_
   rcases ite_some h with ⟨c1, h⟩ | ⟨c1, h⟩
   ·refine ff (b := (!a2_1)) (congrArg Bool.not (c1)) ?_
    refine awp_skip' ?_
    obtain ⟨a3, h3, h⟩ := bind_some h
    rcases a3 with a3 | a3
    ·dsimp only at h
     refine qP L mixed 223 [] [] [] [0, 2] 3 (ef0 (.tup []) []) (ofi 49 a3) (pl2 (hR.B6 h3) (hR.B6 h3)) ?_
     cases h
     exact .inr ⟨.inr ⟨_, rfl⟩, _, rfl, rfl⟩
    ·obtain ⟨a3_0, a3_1⟩ := a3
     dsimp only at h
     obtain ⟨a4, h4, h⟩ := bind_some h
     refine hB L mixed 223 [] [(5, .agg (Ae a4))] [(3, (ef0 (.agg (Ae a3_0)) [(0, .raw (Ac a3_1))]))] [0, 2] 2 (plc (hR.B6 h3) (plc (Cl.ok h4) (plc trivial (plc (hR.B6 h3) (plc (Cl.ok h4) (pl1 trivial)))))) (S' := ⟨[(0, .P 0), (1, .cv (.fn (.func 63) [.P 0] [])), (2, .cv (.ro .C4 p0)), (3, .cv (.ro .E1 p1)), (8, .P 21300), (9, .P 21301)], [(0, .raw (Ac a3_1)), (21300, .raw [.I 0, .str [], .I 0, .str [], .N]), (21301, .raw (Ae a4))]⟩) ?_
     exact ⟨k, Nat.lt_succ_self k, _, _, _, _, _, _, _, rfl, h⟩
   refine tt (b := (!a2_1)) (congrArg Bool.not (eq_false_of_ne_true c1)) ?_
   refine sg0 L 220 <| awp_turn (Turns.trans (Turns.kk [8] [0, 21300]) (Turns.rr [(0, 0), (21300, 100)])) ?_
   refine awp_ret ?_
   cases h
   exact .inr ⟨.inl rfl, _, rfl, xr0⟩
  ·rintro e S (hf | ⟨he, a, rfl, hr⟩)
   ·exact hf.elim
   ·rcases h with ⟨_, e1, h⟩ | ⟨_, e1, h⟩
    ·have e2 := Out.done.inj e1
     subst e2
     subst h
     rcases he with rfl | ⟨ch, rfl⟩
     ·exact ⟨_, Turns.refl, hr⟩
     ·exact ⟨_, Turns.refl, hr⟩
    ·cases e1
def Au.F (K : Nat) (R : Af) (p0 : Ab) : Option (Int ⊕ (Aa × Ab)) := (Option.bind (R.Bi ([([111, 114] : List UInt8)] : List (List UInt8)) ([27] : List Int) p0) (fun a1 => match a1 with | (Sum.inl a1) => some (Sum.inl a1) | (Sum.inr (a1_0, a1_1)) => some (Sum.inr (a1_0, a1_1))))
theorem Au.body {Γ : Ent} {K : Nat} {R : Af} (hR : R.Ok) {p0 : Ab} {r : Int ⊕ (Aa × Ab)} (h : Au.F K R p0 = some r) : AWp V P 9 100 Γ (Tryz.f32.body.getD .skip) (EndsX P V Tryz.f32 (Au.rep p0 r) (Au.post p0 r)) ⟨args0 0 [.P 0], [(0, .raw (Ac p0))]⟩ := by
 unfold Au.F at h
 refine sg0 L 200 <| awp_seq ?_
 obtain ⟨a1, h1, h⟩ := bind_some h
 rcases a1 with a1 | a1
 ·dsimp only at h
  refine qn L 202 [] [] [] 5 (ef0 (.tup []) []) (ofi 49 a1) (pl1 (hR.Bi h1)) ?_
  cases h
  exact rfl
 ·obtain ⟨a1_0, a1_1⟩ := a1
  dsimp only at h
  refine rg L 202 [] [] [(5, (ef0 (.agg (Ae a1_0)) [(0, .raw (Ac a1_1))]))] (pl1 (hR.Bi h1)) ?_
  refine awp_turn (Turns.trans (Turns.kk [2] [0, 200]) (Turns.rr [(0, 0), (200, 100)])) ?_
  refine awp_ret ?_
  cases h
  exact xr0
def Af.upto (K : Nat) : Nat → Af
 | 0 => ⟨fun _ _ => none, fun _ _ _ => none, fun _ => none, fun _ _ => none, fun _ => none, fun _ => none, fun _ => none, fun _ _ _ => none, fun _ => none, fun _ _ _ => none, fun _ => none, fun _ => none, fun _ _ _ => none, fun _ => none, fun _ _ _ => none, fun _ => none⟩
 | k + 1 => ⟨A9.F K (Af.upto K k), Bp.F K (Af.upto K k), B8.F K (Af.upto K k), Bl.F K (Af.upto K k), B4.F K (Af.upto K k), A4.F K (Af.upto K k), A6.F K (Af.upto K k), Be.F K (Af.upto K k), Bb.F K (Af.upto K k), Bg.F K (Af.upto K k), B7.F K (Af.upto K k), Bn.F K (Af.upto K k), Bf.F K (Af.upto K k), B6.F K (Af.upto K k), Bi.F K (Af.upto K k), Au.F K (Af.upto K k)⟩
theorem Af.upto_ok (K : Nat) : ∀ k, (Af.upto K k).Ok
 | 0 => ⟨fun h => (by cases h), fun h => (by cases h), fun h => (by cases h), fun h => (by cases h), fun h => (by cases h), fun h => (by cases h), fun h => (by cases h), fun h => (by cases h), fun h => (by cases h), fun h => (by cases h), fun h => (by cases h), fun h => (by cases h), fun h => (by cases h), fun h => (by cases h), fun h => (by cases h), fun h => (by cases h)⟩
 | k + 1 => ⟨fun {p0 p1 r} h => xo (fn := Tryz.f48) (n := 25) (m := 100) fun Γ => A9.body (K := K) (Af.upto_ok K k) h, fun {p0 p1 p2 r} h => xo (fn := Tryz.f106) (n := 16) (m := 100) fun Γ => Bp.body (K := K) (Af.upto_ok K k) h, fun {p0 r} h => xo (fn := Tryz.f166) (n := 21) (m := 100) fun Γ => B8.body (K := K) (Af.upto_ok K k) h, fun {p0 p1 r} h => xo (fn := Tryz.f48) (n := 25) (m := 100) fun Γ => Bl.body (K := K) (Af.upto_ok K k) h, fun {p0 r} h => xo (fn := Tryz.f163) (n := 51) (m := 100) fun Γ => B4.body (K := K) (Af.upto_ok K k) h, fun {p0 r} h => xo (fn := Tryz.f156) (n := 25) (m := 100) fun Γ => A4.body (K := K) (Af.upto_ok K k) h, fun {p0 r} h => xo (fn := Tryz.f146) (n := 26) (m := 100) fun Γ => A6.body (K := K) (Af.upto_ok K k) h, fun {p0 p1 p2 r} h => xo (fn := Tryz.f62) (n := 30) (m := 100) fun Γ => Be.body (K := K) (Af.upto_ok K k) h, fun {p0 r} h => xo (fn := Tryz.f137) (n := 9) (m := 100) fun Γ => Bb.body (K := K) (Af.upto_ok K k) h, fun {p0 p1 p2 r} h => xo (fn := Tryz.f62) (n := 30) (m := 100) fun Γ => Bg.body (K := K) (Af.upto_ok K k) h, fun {p0 r} h => xo (fn := Tryz.f122) (n := 9) (m := 100) fun Γ => B7.body (K := K) (Af.upto_ok K k) h, fun {p0 r} h => xo (fn := Tryz.f93) (n := 29) (m := 100) fun Γ => Bn.body (K := K) (Af.upto_ok K k) h, fun {p0 p1 p2 r} h => xo (fn := Tryz.f62) (n := 30) (m := 100) fun Γ => Bf.body (K := K) (Af.upto_ok K k) h, fun {p0 r} h => xo (fn := Tryz.f63) (n := 9) (m := 100) fun Γ => B6.body (K := K) (Af.upto_ok K k) h, fun {p0 p1 p2 r} h => xo (fn := Tryz.f62) (n := 30) (m := 100) fun Γ => Bi.body (K := K) (Af.upto_ok K k) h, fun {p0 r} h => xo (fn := Tryz.f32) (n := 9) (m := 100) fun Γ => Au.body (K := K) (Af.upto_ok K k) h⟩
def A9 (K : Nat) (p0 : List UInt8) (p1 : Ab) : Option (((List Aa) × Ab) ⊕ Int) := (Af.upto K K).A9 p0 p1
theorem A9.okE {K : Nat} {p0 : List UInt8} {p1 : Ab} {r : ((List Aa) × Ab) ⊕ Int} (h : A9 K p0 p1 = some r) : XCall V P 48 [.P 0, .cv (.str p0), .cv (.fn (.func 32) [.P 0] [])] [(0, .raw (Ac p1))] [0] (A9.post p0 p1 r) (A9.rep p0 p1 r) := (Af.upto_ok K K).A9 h
def Bp (K : Nat) (p0 : Int) (p1 : List UInt8) (p2 : Ab) : Option ((Aa × Ab) ⊕ Int) := (Af.upto K K).Bp p0 p1 p2
theorem Bp.okE {K : Nat} {p0 : Int} {p1 : List UInt8} {p2 : Ab} {r : (Aa × Ab) ⊕ Int} (h : Bp K p0 p1 p2 = some r) : XCall V P 106 [.P 0, .I p0, .cv (.str p1)] [(0, .raw (Ac p2))] [0] (Bp.post p0 p1 p2 r) (Bp.rep p0 p1 p2 r) := (Af.upto_ok K K).Bp h
def B8 (K : Nat) (p0 : Ab) : Option (Int ⊕ (Aa × Ab)) := (Af.upto K K).B8 p0
theorem B8.okE {K : Nat} {p0 : Ab} {r : Int ⊕ (Aa × Ab)} (h : B8 K p0 = some r) : XCall V P 166 [.P 0] [(0, .raw (Ac p0))] [0] (B8.post p0 r) (B8.rep p0 r) := (Af.upto_ok K K).B8 h
def Bl (K : Nat) (p0 : List UInt8) (p1 : Ab) : Option (((List Aa) × Ab) ⊕ Int) := (Af.upto K K).Bl p0 p1
theorem Bl.okE {K : Nat} {p0 : List UInt8} {p1 : Ab} {r : ((List Aa) × Ab) ⊕ Int} (h : Bl K p0 p1 = some r) : XCall V P 48 [.P 0, .cv (.str p0), .cv (.fn (.func 166) [.P 0] [])] [(0, .raw (Ac p1))] [0] (Bl.post p0 p1 r) (Bl.rep p0 p1 r) := (Af.upto_ok K K).Bl h
def B4 (K : Nat) (p0 : Ab) : Option ((Aa × Ab) ⊕ Int) := (Af.upto K K).B4 p0
theorem B4.okE {K : Nat} {p0 : Ab} {r : (Aa × Ab) ⊕ Int} (h : B4 K p0 = some r) : XCall V P 163 [.P 0] [(0, .raw (Ac p0))] [0] (B4.post p0 r) (B4.rep p0 r) := (Af.upto_ok K K).B4 h
def A4 (K : Nat) (p0 : Ab) : Option (Int ⊕ (Aa × Ab)) := (Af.upto K K).A4 p0
theorem A4.okE {K : Nat} {p0 : Ab} {r : Int ⊕ (Aa × Ab)} (h : A4 K p0 = some r) : XCall V P 156 [.P 0] [(0, .raw (Ac p0))] [0] (A4.post p0 r) (A4.rep p0 r) := (Af.upto_ok K K).A4 h
def A6 (K : Nat) (p0 : Ab) : Option (Int ⊕ (Aa × Ab)) := (Af.upto K K).A6 p0
theorem A6.okE {K : Nat} {p0 : Ab} {r : Int ⊕ (Aa × Ab)} (h : A6 K p0 = some r) : XCall V P 146 [.P 0] [(0, .raw (Ac p0))] [0] (A6.post p0 r) (A6.rep p0 r) := (Af.upto_ok K K).A6 h
def Be (K : Nat) (p0 : List (List UInt8)) (p1 : List Int) (p2 : Ab) : Option (Int ⊕ (Aa × Ab)) := (Af.upto K K).Be p0 p1 p2
theorem Be.okE {K : Nat} {p0 : List (List UInt8)} {p1 : List Int} {p2 : Ab} {r : Int ⊕ (Aa × Ab)} (h : Be K p0 p1 p2 = some r) : XCall V P 62 [.P 0, .cv (.fn (.func 146) [.P 0] []), .cv (.ro .C4 p0), .cv (.ro .E1 p1)] [(0, .raw (Ac p2))] [0] (Be.post p0 p1 p2 r) (Be.rep p0 p1 p2 r) := (Af.upto_ok K K).Be h
def Bb (K : Nat) (p0 : Ab) : Option (Int ⊕ (Aa × Ab)) := (Af.upto K K).Bb p0
theorem Bb.okE {K : Nat} {p0 : Ab} {r : Int ⊕ (Aa × Ab)} (h : Bb K p0 = some r) : XCall V P 137 [.P 0] [(0, .raw (Ac p0))] [0] (Bb.post p0 r) (Bb.rep p0 r) := (Af.upto_ok K K).Bb h
def Bg (K : Nat) (p0 : List (List UInt8)) (p1 : List Int) (p2 : Ab) : Option (Int ⊕ (Aa × Ab)) := (Af.upto K K).Bg p0 p1 p2
theorem Bg.okE {K : Nat} {p0 : List (List UInt8)} {p1 : List Int} {p2 : Ab} {r : Int ⊕ (Aa × Ab)} (h : Bg K p0 p1 p2 = some r) : XCall V P 62 [.P 0, .cv (.fn (.func 137) [.P 0] []), .cv (.ro .C4 p0), .cv (.ro .E1 p1)] [(0, .raw (Ac p2))] [0] (Bg.post p0 p1 p2 r) (Bg.rep p0 p1 p2 r) := (Af.upto_ok K K).Bg h
def B7 (K : Nat) (p0 : Ab) : Option (Int ⊕ (Aa × Ab)) := (Af.upto K K).B7 p0
theorem B7.okE {K : Nat} {p0 : Ab} {r : Int ⊕ (Aa × Ab)} (h : B7 K p0 = some r) : XCall V P 122 [.P 0] [(0, .raw (Ac p0))] [0] (B7.post p0 r) (B7.rep p0 r) := (Af.upto_ok K K).B7 h
def Bn (K : Nat) (p0 : Ab) : Option (Int ⊕ (Aa × Ab)) := (Af.upto K K).Bn p0
theorem Bn.okE {K : Nat} {p0 : Ab} {r : Int ⊕ (Aa × Ab)} (h : Bn K p0 = some r) : XCall V P 93 [.P 0] [(0, .raw (Ac p0))] [0] (Bn.post p0 r) (Bn.rep p0 r) := (Af.upto_ok K K).Bn h
def Bf (K : Nat) (p0 : List (List UInt8)) (p1 : List Int) (p2 : Ab) : Option (Int ⊕ (Aa × Ab)) := (Af.upto K K).Bf p0 p1 p2
theorem Bf.okE {K : Nat} {p0 : List (List UInt8)} {p1 : List Int} {p2 : Ab} {r : Int ⊕ (Aa × Ab)} (h : Bf K p0 p1 p2 = some r) : XCall V P 62 [.P 0, .cv (.fn (.func 93) [.P 0] []), .cv (.ro .C4 p0), .cv (.ro .E1 p1)] [(0, .raw (Ac p2))] [0] (Bf.post p0 p1 p2 r) (Bf.rep p0 p1 p2 r) := (Af.upto_ok K K).Bf h
def B6 (K : Nat) (p0 : Ab) : Option (Int ⊕ (Aa × Ab)) := (Af.upto K K).B6 p0
theorem B6.okE {K : Nat} {p0 : Ab} {r : Int ⊕ (Aa × Ab)} (h : B6 K p0 = some r) : XCall V P 63 [.P 0] [(0, .raw (Ac p0))] [0] (B6.post p0 r) (B6.rep p0 r) := (Af.upto_ok K K).B6 h
def Bi (K : Nat) (p0 : List (List UInt8)) (p1 : List Int) (p2 : Ab) : Option (Int ⊕ (Aa × Ab)) := (Af.upto K K).Bi p0 p1 p2
theorem Bi.okE {K : Nat} {p0 : List (List UInt8)} {p1 : List Int} {p2 : Ab} {r : Int ⊕ (Aa × Ab)} (h : Bi K p0 p1 p2 = some r) : XCall V P 62 [.P 0, .cv (.fn (.func 63) [.P 0] []), .cv (.ro .C4 p0), .cv (.ro .E1 p1)] [(0, .raw (Ac p2))] [0] (Bi.post p0 p1 p2 r) (Bi.rep p0 p1 p2 r) := (Af.upto_ok K K).Bi h
def Au (K : Nat) (p0 : Ab) : Option (Int ⊕ (Aa × Ab)) := (Af.upto K K).Au p0
theorem Au.okE {K : Nat} {p0 : Ab} {r : Int ⊕ (Aa × Ab)} (h : Au K p0 = some r) : XCall V P 32 [.P 0] [(0, .raw (Ac p0))] [0] (Au.post p0 r) (Au.rep p0 r) := (Af.upto_ok K K).Au h
structure Dx where
 Co : Aa → Option Int
structure Dx.Ok (R : Dx) : Prop where
 Co : ∀ {p0 : Aa} {r : Int}, R.Co p0 = some r → ECall V P 21 [.agg (Ae p0)] [] [] (.I r) []
theorem Co.okR {R : Dx} (hR : R.Ok) {p0 : Aa} {r : Int} (h : R.Co p0 = some r) : PCall V P 21 [.agg (Ae p0)] (.I r) := (hR.Co h).pcall (by kernel_rfl)
def Co.l9 (K : Nat) (R : Dx) (p0 : Aa) : Nat → Int → Int → Option Int
 | 0, _, _ => none
 | k + 1, xt3_9h, xt9_9h => (if xt9_9h < (p0.Kids.length : Int) then (if (0 : Int) ≤ xt9_9h ∧ (xt9_9h : Int) < (p0.Kids.length : Int) then (Option.bind (R.Co (p0.Kids.getD (Int.toNat xt9_9h) Ai)) (fun a1 => Co.l9 K R p0 k (IntKind.i64.wrap (xt3_9h + a1)) (IntKind.i64.wrap (xt9_9h + 1)))) else none) else some xt3_9h)
def Co.F (K : Nat) (R : Dx) (p0 : Aa) : Option Int := (Option.bind (Co.l9 K R p0 K 1 0 : Option Int) (fun xt3_9 => some xt3_9))
theorem Co.body {Γ : Ent} {K : Nat} {R : Dx} (hR : R.Ok) {p0 : Aa} {r : Int} (h : Co.F K R p0 = some r) : AWp V P 19 100 Γ (Tryz.f21.body.getD .skip) (EndsE P V Tryz.f21 (.I r) []) ⟨args0 0 [.agg (Ae p0)], []⟩ := by
 unfold Co.F at h
 refine sg0 L 200 <| sg0 L 203 <| awp_seq <| sg0 L 205 <| awp_block <| kp (S' := ⟨[(3, .I 1), (7, .cv (.ro .Ad p0.Kids)), (8, .I (p0.Kids.length : Int)), (9, .I 0)], []⟩) ?_
 obtain ⟨o1, hp1, h⟩ := bind_some h
 refine awp_conseq (Q' := fun e S => (e = .exit 0 ∧ ∃ xt3_9 : Int, S = ⟨[(3, .I xt3_9)], []⟩ ∧ xt3_9 = o1)) (awp_loop (fun k S => ∃ xt3_9h : Int, ∃ xt9_9h : Int, S = ⟨[(3, .I xt3_9h), (7, .cv (.ro .Ad p0.Kids)), (8, .I (p0.Kids.length : Int)), (9, .I xt9_9h)], []⟩ ∧ Co.l9 K R p0 k xt3_9h xt9_9h = some o1) ?_ ⟨_, _, rfl, hp1⟩) ?_
 ·clear h hp1
  intro k S hS
  obtain ⟨xt3_9h, xt9_9h, rfl, h⟩ := hS
  cases k with
  | zero => cases h
  | succ k =>
  unfold Co.l9 at h
  refine sg0 L 210 <| awp_seq ?_
  rcases ite_some h with ⟨c1, h⟩ | ⟨c1, h⟩
  ·refine tT c1 <| awp_skip' <| awp_seq <| awp_block <| awp_seq ?_
   obtain ⟨g1, h⟩ := guard_some h
   refine rg L 212 [] [] [] (pl2 g1.1 g1.2) ?_
   obtain ⟨a1, h1, h⟩ := bind_some h
   refine rg L 217 [] [(2, .I a1)] [] (plt (Co.okR hR h1)) ?_
   refine ar0 L 223 [] [] [] (S' := ⟨[(3, .I (IntKind.i64.wrap (xt3_9h + a1))), (7, .cv (.ro .Ad p0.Kids)), (8, .I (p0.Kids.length : Int)), (9, .I (IntKind.i64.wrap (xt9_9h + 1)))], []⟩) ?_
   exact ⟨k, Nat.lt_succ_self k, _, _, rfl, h⟩
  refine fF c1 <| ex (S' := ⟨[(3, .I xt3_9h)], []⟩) ?_
  cases h
  exact ⟨rfl, _, rfl, rfl⟩
 ·rintro e S ⟨rfl, xt3_9, rfl, rfl⟩
  refine ⟨_, Turns.refl, ?_⟩
  refine sg0 L 226 <| awp_ret ?_
  cases h
  exact er0
def Dx.upto (K : Nat) : Nat → Dx
 | 0 => ⟨fun _ => none⟩
 | k + 1 => ⟨Co.F K (Dx.upto K k)⟩
theorem Dx.upto_ok (K : Nat) : ∀ k, (Dx.upto K k).Ok
 | 0 => ⟨fun h => (by cases h)⟩
 | k + 1 => ⟨fun {p0 r} h => eo (fn := Tryz.f21) (n := 19) (m := 100) fun Γ => Co.body (K := K) (Dx.upto_ok K k) h⟩
def Co (K : Nat) (p0 : Aa) : Option Int := (Dx.upto K K).Co p0
theorem Co.okE {K : Nat} {p0 : Aa} {r : Int} (h : Co K p0 = some r) : ECall V P 21 [.agg (Ae p0)] [] [] (.I r) [] := (Dx.upto_ok K K).Co h
theorem Co.ok {K : Nat} {p0 : Aa} {r : Int} (h : Co K p0 = some r) : PCall V P 21 [.agg (Ae p0)] (.I r) := (Co.okE h).pcall (by kernel_rfl)
structure Dr where
 Cm : Aa → Option Int
structure Dr.Ok (R : Dr) : Prop where
 Cm : ∀ {p0 : Aa} {r : Int}, R.Cm p0 = some r → ECall V P 22 [.agg (Ae p0)] [] [] (.I r) []
theorem Cm.okR {R : Dr} (hR : R.Ok) {p0 : Aa} {r : Int} (h : R.Cm p0 = some r) : PCall V P 22 [.agg (Ae p0)] (.I r) := (hR.Cm h).pcall (by kernel_rfl)
def Cm.l9 (K : Nat) (R : Dr) (p0 : Aa) : Nat → Int → Int → Option Int
 | 0, _, _ => none
 | k + 1, xt3_9h, xt9_9h => (if xt9_9h < (p0.Kids.length : Int) then (if (0 : Int) ≤ xt9_9h ∧ (xt9_9h : Int) < (p0.Kids.length : Int) then (Option.bind (R.Cm (p0.Kids.getD (Int.toNat xt9_9h) Ai)) (fun a1 => Cm.l9 K R p0 k (if a1 > xt3_9h then a1 else xt3_9h) (IntKind.i64.wrap (xt9_9h + 1)))) else none) else some xt3_9h)
def Cm.F (K : Nat) (R : Dr) (p0 : Aa) : Option Int := (Option.bind (Cm.l9 K R p0 K 0 0 : Option Int) (fun xt3_9 => some (IntKind.i64.wrap (xt3_9 + 1))))
theorem Cm.body {Γ : Ent} {K : Nat} {R : Dr} (hR : R.Ok) {p0 : Aa} {r : Int} (h : Cm.F K R p0 = some r) : AWp V P 20 100 Γ (Tryz.f22.body.getD .skip) (EndsE P V Tryz.f22 (.I r) []) ⟨args0 0 [.agg (Ae p0)], []⟩ := by
 unfold Cm.F at h
 refine sg0 L 200 <| sg0 L 203 <| awp_seq <| sg0 L 205 <| awp_block <| kp (S' := ⟨[(3, .I 0), (7, .cv (.ro .Ad p0.Kids)), (8, .I (p0.Kids.length : Int)), (9, .I 0)], []⟩) ?_
 obtain ⟨o1, hp1, h⟩ := bind_some h
 refine awp_conseq (Q' := fun e S => (e = .exit 0 ∧ ∃ xt3_9 : Int, S = ⟨[(3, .I xt3_9)], []⟩ ∧ xt3_9 = o1)) (awp_loop (fun k S => ∃ xt3_9h : Int, ∃ xt9_9h : Int, S = ⟨[(3, .I xt3_9h), (7, .cv (.ro .Ad p0.Kids)), (8, .I (p0.Kids.length : Int)), (9, .I xt9_9h)], []⟩ ∧ Cm.l9 K R p0 k xt3_9h xt9_9h = some o1) ?_ ⟨_, _, rfl, hp1⟩) ?_
 ·clear h hp1
  intro k S hS
  obtain ⟨xt3_9h, xt9_9h, rfl, h⟩ := hS
  cases k with
  | zero => cases h
  | succ k =>
  unfold Cm.l9 at h
  refine sg0 L 210 <| awp_seq ?_
  rcases ite_some h with ⟨c1, h⟩ | ⟨c1, h⟩
  ·refine tT c1 <| awp_skip' <| awp_seq <| awp_block <| awp_seq ?_
   obtain ⟨g1, h⟩ := guard_some h
   refine rg L 212 [] [] [] (pl2 g1.1 g1.2) ?_
   obtain ⟨a1, h1, h⟩ := bind_some h
   refine rg L 217 [] [(2, .I a1)] [] (plt (Cm.okR hR h1)) ?_
   refine ar0 L 223 [] [] [] (S' := ⟨[(3, .I (if a1 > xt3_9h then a1 else xt3_9h)), (7, .cv (.ro .Ad p0.Kids)), (8, .I (p0.Kids.length : Int)), (9, .I (IntKind.i64.wrap (xt9_9h + 1)))], []⟩) ?_
   exact ⟨k, Nat.lt_succ_self k, _, _, rfl, h⟩
  refine fF c1 <| ex (S' := ⟨[(3, .I xt3_9h)], []⟩) ?_
  cases h
  exact ⟨rfl, _, rfl, rfl⟩
 ·rintro e S ⟨rfl, xt3_9, rfl, rfl⟩
  refine ⟨_, Turns.refl, ?_⟩
  refine sg0 L 226 <| awp_ret ?_
  cases h
  exact er0
def Dr.upto (K : Nat) : Nat → Dr
 | 0 => ⟨fun _ => none⟩
 | k + 1 => ⟨Cm.F K (Dr.upto K k)⟩
theorem Dr.upto_ok (K : Nat) : ∀ k, (Dr.upto K k).Ok
 | 0 => ⟨fun h => (by cases h)⟩
 | k + 1 => ⟨fun {p0 r} h => eo (fn := Tryz.f22) (n := 20) (m := 100) fun Γ => Cm.body (K := K) (Dr.upto_ok K k) h⟩
def Cm (K : Nat) (p0 : Aa) : Option Int := (Dr.upto K K).Cm p0
theorem Cm.okE {K : Nat} {p0 : Aa} {r : Int} (h : Cm K p0 = some r) : ECall V P 22 [.agg (Ae p0)] [] [] (.I r) [] := (Dr.upto_ok K K).Cm h
theorem Cm.ok {K : Nat} {p0 : Aa} {r : Int} (h : Cm K p0 = some r) : PCall V P 22 [.agg (Ae p0)] (.I r) := (Cm.okE h).pcall (by kernel_rfl)
def Ei (K : Nat) (p0 : List Aw) (p1 : Int) : Option (Int ⊕ (Aa × Int × Int)) := (Option.bind (Au K (⟨p0, 0⟩ : Ab)) (fun a1 => match a1 with | (Sum.inl a1) => some (Sum.inl a1) | (Sum.inr (a1_0, a1_1)) => (Option.bind (Bo K a1_1) (fun a2 => (if a2.Kind ≠ 0 then (Option.bind (Bj K a1_1) (fun a3 => some (Sum.inl a3))) else (Option.bind (Co K a1_0) (fun a4 => (if a4 > 4000 then some (Sum.inr ((⟨0, [], 0, [], ([] : List Aa)⟩ : Aa), 0, 6)) else (Option.bind (Cm K a1_0) (fun a5 => (if a5 > 40 then some (Sum.inr ((⟨0, [], 0, [], ([] : List Aa)⟩ : Aa), 0, 7)) else some (Sum.inr (a1_0, 0, 0)))))))))))))
def Ei.rep (p0 : List Aw) (p1 : Int) : Int ⊕ (Aa × Int × Int) → Outc T
 | (Sum.inl v0) => .pan (ofi 49 v0)
 | (Sum.inr (v0, v1, v2)) => .ret (.tup [.agg [.I v0.Op, .str v0.Name, .I v0.Int, .str v0.Text, .ro .Ad v0.Kids], .I v1, .I v2])
theorem Ei.body {Γ : Ent} {K : Nat} {p0 : List Aw} {p1 : Int} {r : Int ⊕ (Aa × Int × Int)} (h : Ei K p0 p1 = some r) : AWp V P 44 93 Γ (codeY (codeY (codeY (codeY (Tryz.f25.body.getD .skip))))) (EndsR P V Tryz.f25 (Ei.rep p0 p1 r)) ⟨[(1, .cv (.fn (.func 32) [] [])), (4, .P 90), (5, .P 91), (6, .P 92), (7, .cv (.ro .Ax p0))], [(90, .raw [.I 0, .str [], .I 0, .str [], .N]), (91, .raw [.I p1]), (92, .raw [.I 0])]⟩ := by
 unfold Ei at h
 refine sg0 L 200 <| awp_seq ?_
 obtain ⟨a1, h1, h⟩ := bind_some h
 rcases a1 with a1 | a1
 ·dsimp only at h
  refine pn L 205 [] [] [] 2 [4, 5, 6] [90, 91, 92] (ef [0] [0] (.tup []) [] [(0, 202)]) (ofi 49 a1) (cs := [XPan V P 32 [.P 0] [(0, .raw [.ro .Ax p0, .I 0])] (ofi 49 a1)]) (S' := ⟨[(4, .P 90), (5, .P 91), (6, .P 92)], [(90, .raw [.I 0, .str [], .I 0, .str [], .N]), (91, .raw [.I p1]), (92, .raw [.I 0])]⟩) (Au.okE h1) ?_
  cases h
  exact (rp : EndsR P V Tryz.f25 (Ei.rep p0 p1 (Sum.inl a1)) _ _)
 ·obtain ⟨a1_0, a1_1⟩ := a1
  dsimp only at h
  refine rg L 205 [] [] [(2, (ef [0] [0] (.agg (Ae a1_0)) [(0, .raw (Ac a1_1))] [(0, 202)]))] (pl1 (Au.okE h1)) ?_
  refine awp_seq <| awp_seq ?_
  obtain ⟨a2, h2, h⟩ := bind_some h
  refine rg L 210 [] [(1, .agg (Dp a2))] [] (plt (Bo.ok h2)) ?_
  rcases ite_some h with ⟨c1, h⟩ | ⟨c1, h⟩
  ·refine tT c1 ?_
   obtain ⟨a3, h3, h⟩ := bind_some h
   refine pn L 215 [] [] [] 1 [4, 5, 6] [90, 91, 92] (ef [0] [0] (.tup []) [] [(0, 202)]) (ofi 49 a3) (cs := [XPan V P 43 [.P 0] [(0, .raw (Ac a1_1))] (ofi 49 a3)]) (S' := ⟨[(4, .P 90), (5, .P 91), (6, .P 92)], [(90, .raw (Ae a1_0)), (91, .raw [.I p1]), (92, .raw [.I 0])]⟩) (Bj.okE h3) ?_
   cases h
   exact (rp : EndsR P V Tryz.f25 (Ei.rep p0 p1 (Sum.inl a3)) _ _)
  refine fF c1 <| awp_skip' <| awp_seq <| awp_block <| awp_seq ?_
  obtain ⟨a4, h4, h⟩ := bind_some h
  refine rg L 218 [] [(1, .I a4)] [] (plt (Co.ok h4)) ?_
  rcases ite_some h with ⟨c2, h⟩ | ⟨c2, h⟩
  ·refine tT c2 <| sg0 L 223 <| awp_ret ?_
   cases h
   exact rr0
  refine fF c2 <| awp_seq ?_
  obtain ⟨a5, h5, h⟩ := bind_some h
  refine rg L 228 [] [(1, .I a5)] [] (plt (Cm.ok h5)) ?_
  rcases ite_some h with ⟨c3, h⟩ | ⟨c3, h⟩
  ·refine tT c3 <| sg0 L 233 <| awp_ret ?_
   cases h
   exact rr0
  refine fF c3 <| awp_skip' <| sg0 L 238 <| awp_ret ?_
  cases h
  exact rr0
def F8 : Int ⊕ (Aa × Int × Int) → Aa × Int × Int
 | (Sum.inl v0) => (Ai, v0, 29)
 | (Sum.inr (v0, v1, v2)) => (v0, v1, v2)
def Fk (K : Nat) (p0 : List UInt8) : Option (Aa × Int × Int) := Option.bind (En K p0) (fun (a1_0, a1_1, a1_2) => if a1_2 ≠ 0 then some (Ai, a1_1, a1_2) else Option.bind (Ei K a1_0 a1_1) (fun x => some (F8 x)))
theorem Fk.ok {K : Nat} {p0 : List UInt8} {r : Aa × Int × Int} (h : Fk K p0 = some r) : PCall V P 25 [.cv (.str p0), .cv (.fn (.func 32) [] [])] (.tup [.agg (Ae r.1), .I r.2.1, .I r.2.2]) := by
 unfold Fk at h
 obtain ⟨⟨l, at0, e0⟩, h1, h⟩ := bind_some h
 dsimp only at h
 by_cases he : e0 ≠ 0
 ·rw [if_pos he] at h
  obtain rfl := Option.some.inj h
  exact Gs (En.ok h1) he
 ·rw [if_neg he] at h
  obtain ⟨x, h2, h⟩ := bind_some h
  obtain rfl := Option.some.inj h
  have he0 : e0 = 0 := Decidable.not_not.1 he
  subst he0
  refine Gj (o := Ei.rep l at0 x) (En.ok h1) (fun Γ => Ei.body h2) ?_
  rcases x with v0 | ⟨v0, v1, v2⟩
  ·exact .inr ⟨v0, rfl, rfl⟩
  ·exact .inl rfl
def E6 (K : Nat) (p0 : List UInt8) : Option (Aa × Int × Int) := (Option.bind (Fk K p0) (fun (a1_0, a1_1, a1_2) => some (a1_0, a1_1, a1_2)))
theorem E6.body {Γ : Ent} {K : Nat} {p0 : List UInt8} {r : Aa × Int × Int} (h : E6 K p0 = some r) : AWp V P 10 100 Γ (Tryz.f15.body.getD .skip) (EndsE P V Tryz.f15 (.tup [.agg [.I r.1.Op, .str r.1.Name, .I r.1.Int, .str r.1.Text, .ro .Ad r.1.Kids], .I r.2.1, .I r.2.2]) []) ⟨args0 0 [.cv (.str p0)], []⟩ := by
 unfold E6 at h
 refine sg0 L 200 <| awp_seq ?_
 obtain ⟨⟨a1_0, a1_1, a1_2⟩, h1, h⟩ := bind_some h
 dsimp only at h
 refine rg L 204 [] [(1, .tup [.agg (Ae a1_0), .I a1_1, .I a1_2])] [] (plt (Fk.ok h1)) ?_
 refine awp_turn (Turns.trans (Turns.kk [2, 3, 4] [200]) (Turns.rr [(200, 100)])) ?_
 refine awp_ret ?_
 cases h
 exact er0
theorem E6.ok {K : Nat} {p0 : List UInt8} {r : Aa × Int × Int} (h : E6 K p0 = some r) : PCall V P 15 [.cv (.str p0)] (.tup [.agg [.I r.1.Op, .str r.1.Name, .I r.1.Int, .str r.1.Text, .ro .Ad r.1.Kids], .I r.2.1, .I r.2.2]) := ECall.pcall (eo (fn := Tryz.f15) (n := 10) (m := 100) fun Γ => E6.body h) (by kernel_rfl)
def Cn (K : Nat) (p0 : Ab) : Option (Int ⊕ (Aa × Ab)) := (Option.bind (Aj K ([45] : List UInt8) p0) (fun (a1_0, a1_1) => (if a1_0 = true then (Option.bind (Bo K a1_1) (fun a2 => (if a2.Kind ≠ 3 then (Option.bind (Bj K a1_1) (fun a3 => some (Sum.inl a3))) else (Option.bind (Dl K a1_1) (fun (a4_0, a4_1) => (Option.bind (Cl K 14 ([(⟨4, [], a4_0.Int, [], ([] : List Aa)⟩ : Aa)] : List Aa)) (fun a5 => some (Sum.inr (a5, a4_1))))))))) else (Option.bind (Dn K a1_1) (fun (a6_0, a6_1, a6_2) => (if a6_1 = true then some (Sum.inr (a6_0, a6_2)) else (Option.bind (Bj K a6_2) (fun a7 => some (Sum.inl a7)))))))))
def Cn.rep (p0 : Ab) : Int ⊕ (Aa × Ab) → Outc T
 | (Sum.inl v0) => .pan (ofi 49 v0)
 | (Sum.inr (v0, v1)) => .ret (.agg [.I v0.Op, .str v0.Name, .I v0.Int, .str v0.Text, .ro .Ad v0.Kids])
def Cn.post (p0 : Ab) : Int ⊕ (Aa × Ab) → List (Nat × Blk T)
 | (Sum.inl v0) => []
 | (Sum.inr (v0, v1)) => [(0, .raw [.ro .Ax v1.l, .I v1.i])]
theorem Cn.body {Γ : Ent} {K : Nat} {p0 : Ab} {r : Int ⊕ (Aa × Ab)} (h : Cn K p0 = some r) : AWp V P 29 100 Γ (Tryz.f47.body.getD .skip) (EndsX P V Tryz.f47 (Cn.rep p0 r) (Cn.post p0 r)) ⟨args0 0 [.P 0], [(0, .raw (Ac p0))]⟩ := by
 unfold Cn at h
 refine sg0 L 200 <| awp_seq <| awp_seq ?_
 obtain ⟨⟨a1_0, a1_1⟩, h1, h⟩ := bind_some h
 dsimp only at h
 refine rg L 202 [] [] [(1, (ef0 (.B a1_0) [(0, .raw (Ac a1_1))]))] (pl1 (Aj.okE h1)) ?_
 rcases ite_some h with ⟨c1, h⟩ | ⟨c1, h⟩
 ·refine tt c1 <| awp_seq <| awp_seq ?_
  obtain ⟨a2, h2, h⟩ := bind_some h
  refine rg L 205 [] [(1, .agg (Dp a2))] [] (plt (Bo.ok h2)) ?_
  rcases ite_some h with ⟨c2, h⟩ | ⟨c2, h⟩
  ·refine tT c2 ?_
   obtain ⟨a3, h3, h⟩ := bind_some h
   refine qn L 210 [] [] [] 1 (ef0 (.tup []) []) (ofi 49 a3) (pl1 (Bj.okE h3)) ?_
   cases h
   exact rfl
  refine fF c2 <| awp_skip' <| awp_seq ?_
  obtain ⟨⟨a4_0, a4_1⟩, h4, h⟩ := bind_some h
  dsimp only at h
  obtain ⟨a5, h5, h⟩ := bind_some h
  refine rg L 213 [] [(5, .agg (Ae a5))] [(1, (ef0 (.agg (Dp a4_0)) [(0, .raw (Ac a4_1))]))] (plc (Dl.okE h4) (plc (Cl.ok h5) (pl1 trivial))) ?_
  refine awp_turn (Turns.trans (Turns.kk [2] [0, 200]) (Turns.rr [(0, 0), (200, 100)])) ?_
  refine awp_ret ?_
  cases h
  exact xr0
 refine fN c1 <| awp_skip' <| awp_seq ?_
 obtain ⟨⟨a6_0, a6_1, a6_2⟩, h6, h⟩ := bind_some h
 dsimp only at h
 refine rg L 221 [] [] [(1, (ef0 (.tup [.agg (Ae a6_0), .B a6_1]) [(0, .raw (Ac a6_2))]))] (pl1 (Dn.okE h6)) ?_
 refine awp_seq <| sg0 L 230 ?_
 rcases ite_some h with ⟨c3, h⟩ | ⟨c3, h⟩
 ·refine ff (b := (!a6_1)) (congrArg Bool.not (c3)) ?_
  refine awp_skip' <| sg0 L 236 <| awp_turn (Turns.trans (Turns.kk [2] [0, 200]) (Turns.rr [(0, 0), (200, 100)])) ?_
  refine awp_ret ?_
  cases h
  exact xr0
 refine tt (b := (!a6_1)) (congrArg Bool.not (eq_false_of_ne_true c3)) ?_
 obtain ⟨a7, h7, h⟩ := bind_some h
 refine qn L 233 [] [] [] 1 (ef0 (.tup []) []) (ofi 49 a7) (pl1 (Bj.okE h7)) ?_
 cases h
 exact rfl
theorem Cn.okE {K : Nat} {p0 : Ab} {r : Int ⊕ (Aa × Ab)} (h : Cn K p0 = some r) : XCall V P 47 [.P 0] [(0, .raw (Ac p0))] [0] (Cn.post p0 r) (Cn.rep p0 r) :=
 xo (fn := Tryz.f47) (n := 29) (m := 100) fun Γ => Cn.body h
def Cg (K : Nat) (p0 : Ab) : Option (Int ⊕ (Aa × Ab)) := (Option.bind (Aq K p0) (fun a1 => match a1 with | (Sum.inl a1) => some (Sum.inl a1) | (Sum.inr (a1_0, a1_1)) => some (Sum.inr ((⟨6, a1_0, 0, [], ([] : List Aa)⟩ : Aa), a1_1))))
def Cg.rep (p0 : Ab) : Int ⊕ (Aa × Ab) → Outc T
 | (Sum.inl v0) => .pan (ofi 49 v0)
 | (Sum.inr (v0, v1)) => .ret (.agg [.I v0.Op, .str v0.Name, .I v0.Int, .str v0.Text, .ro .Ad v0.Kids])
def Cg.post (p0 : Ab) : Int ⊕ (Aa × Ab) → List (Nat × Blk T)
 | (Sum.inl v0) => []
 | (Sum.inr (v0, v1)) => [(0, .raw [.ro .Ax v1.l, .I v1.i])]
theorem Cg.body {Γ : Ent} {K : Nat} {p0 : Ab} {r : Int ⊕ (Aa × Ab)} (h : Cg K p0 = some r) : AWp V P 6 100 Γ (Tryz.f49.body.getD .skip) (EndsX P V Tryz.f49 (Cg.rep p0 r) (Cg.post p0 r)) ⟨args0 0 [.P 0], [(0, .raw (Ac p0))]⟩ := by
 unfold Cg at h
 refine sg0 L 200 <| awp_seq ?_
 obtain ⟨a1, h1, h⟩ := bind_some h
 rcases a1 with a1 | a1
 ·dsimp only at h
  refine qn L 202 [] [] [] 1 (ef0 (.tup []) []) (ofi 49 a1) (pl1 (Aq.okE h1)) ?_
  cases h
  exact rfl
 ·obtain ⟨a1_0, a1_1⟩ := a1
  dsimp only at h
  refine rg L 202 [] [] [(1, (ef0 (.cv (.str a1_0)) [(0, .raw (Ac a1_1))]))] (pl1 (Aq.okE h1)) ?_
  refine awp_turn (Turns.trans (Turns.kk [2] [0, 200]) (Turns.rr [(0, 0), (200, 100)])) ?_
  refine awp_ret ?_
  cases h
  exact xr0
theorem Cg.okE {K : Nat} {p0 : Ab} {r : Int ⊕ (Aa × Ab)} (h : Cg K p0 = some r) : XCall V P 49 [.P 0] [(0, .raw (Ac p0))] [0] (Cg.post p0 r) (Cg.rep p0 r) :=
 xo (fn := Tryz.f49) (n := 6) (m := 100) fun Γ => Cg.body h
end Go.Proofs.YtifjagfmfkemmaaGreatDoor
