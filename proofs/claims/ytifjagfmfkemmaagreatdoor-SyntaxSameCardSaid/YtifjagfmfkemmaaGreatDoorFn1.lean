/- What functions of the program compute, as Lean functions, and that they compute it. -/
import Derived.Test.YtifjagfmfkemmaaGreatDoorPd
set_option linter.unusedVariables false
set_option maxHeartbeats 0
namespace Go.Proofs.YtifjagfmfkemmaaGreatDoor
open Eng
def Cs (K : Nat) (p0 : Ax) (p1 : Int) : Option Int := (if (IntKind.i64.wrap (p0.at_ + p1)) ≥ (p0.src.length : Int) then some (-1) else (if (0 : Int) ≤ (IntKind.i64.wrap (p0.at_ + p1)) ∧ ((IntKind.i64.wrap (p0.at_ + p1)) : Int) < (p0.src.length : Int) then some ((IntKind.i32.wrap ((p0.src.getD (Int.toNat (IntKind.i64.wrap (p0.at_ + p1))) 0).toNat : Int))) else none))
theorem Cs.body {Γ : Ent} {K : Nat} {p0 : Ax} {p1 : Int} {r : Int} (h : Cs K p0 p1 = some r) : AWp V P 29 100 Γ (Tryz.f97.body.getD .skip) (EndsE P V Tryz.f97 (.cv (.lit (.int .i32 r))) []) ⟨args0 0 [.cv (.pcs (A6 p0) 0), .I p1], []⟩ := by
 unfold Cs at h
 refine sg0 L 200 <| awp_seq <| sd' L mixed 202 [] [] [] [] 12 pl0 ?_
 rcases ite_some h with ⟨c1, h⟩ | ⟨c1, h⟩
 ·refine tT c1 <| sg0 L 215 <| awp_ret ?_
  cases h
  exact er0
 refine fF c1 <| awp_skip' <| awp_seq ?_
 obtain ⟨g1, h⟩ := guard_some h
 refine rd L mixed 217 [] [] [] [] 13 (pl2 g1.1 g1.2) ?_
 refine awp_ret ?_
 cases h
 exact er0
theorem Cs.ok {K : Nat} {p0 : Ax} {p1 : Int} {r : Int} (h : Cs K p0 p1 = some r) : PCall V P 97 [.cv (.pcs (A6 p0) 0), .I p1] (.cv (.lit (.int .i32 r))) := ECall.pcall (eo (fn := Tryz.f97) (n := 29) (m := 100) fun Γ => Cs.body h) (by kernel_rfl)
def Fg (K : Nat) (p0 : Int) : Option Bool := (if p0 = 32 then some true else (if p0 = 9 then some true else some (decide (p0 = 10))))
theorem Fg.body {Γ : Ent} {K : Nat} {p0 : Int} {r : Bool} (h : Fg K p0 = some r) : AWp V P 13 100 Γ (Tryz.f71.body.getD .skip) (EndsE P V Tryz.f71 (.B r) []) ⟨args0 0 [.cv (.lit (.int .i32 p0))], []⟩ := by
 unfold Fg at h
 refine sg0 L 200 <| awp_seq ?_
 rcases ite_some h with ⟨c1, h⟩ | ⟨c1, h⟩
 ·refine rg L 202 [(2, true)] [] [] (pl1 (decide_eq_true c1)) ?_
  refine awp_ret ?_
  cases h
  exact er0
 rcases ite_some h with ⟨c2, h⟩ | ⟨c2, h⟩
 ·refine rg L 202 [(2, false), (6, true)] [] [] (pl2 (decide_eq_false c1) (decide_eq_true c2)) ?_
  refine awp_ret ?_
  cases h
  exact er0
 refine rg L 202 [(2, false), (6, false)] [] [] (pl2 (decide_eq_false c1) (decide_eq_false c2)) ?_
 refine awp_ret ?_
 cases h
 exact er0
theorem Fg.ok {K : Nat} {p0 : Int} {r : Bool} (h : Fg K p0 = some r) : PCall V P 71 [.cv (.lit (.int .i32 p0))] (.B r) := ECall.pcall (eo (fn := Tryz.f71) (n := 13) (m := 100) fun Γ => Fg.body h) (by kernel_rfl)
def Dw.l7 (K : Nat) (p0 : Ax) : Nat → Int → Option Int
 | 0, _ => none
 | k + 1, xh0_1_7h => (Option.bind (Cs K (⟨p0.src, xh0_1_7h⟩ : Ax) 0) (fun a1 => (Option.bind (Fg K a1) (fun a2 => (if a2 = true then Dw.l7 K p0 k (IntKind.i64.wrap (xh0_1_7h + 1)) else some xh0_1_7h)))))
def Dw (K : Nat) (p0 : Ax) : Option ((List UInt8) × Ax) := (Option.bind (Dw.l7 K p0 K p0.at_ : Option Int) (fun xh0_1_7 => (if (0 : Int) ≤ p0.at_ ∧ p0.at_ ≤ xh0_1_7 ∧ xh0_1_7 ≤ (p0.src.length : Int) then some ((slc p0.src p0.at_ xh0_1_7), (⟨p0.src, xh0_1_7⟩ : Ax)) else none)))
theorem Dw.body {Γ : Ent} {K : Nat} {p0 : Ax} {r : (List UInt8) × Ax} (h : Dw K p0 = some r) : AWp V P 31 100 Γ (Tryz.f70.body.getD .skip) (EndsE P V Tryz.f70 (.cv (.str r.1)) [(0, .raw [.str r.2.src, .I r.2.at_])]) ⟨args0 0 [.P 0, .cv (.fn (.func 71) [] [])], [(0, .raw (A6 p0))]⟩ := by
 unfold Dw at h
 refine sg0 L 200 <| sg0 L 202 <| awp_seq <| awp_block <| kp (S' := ⟨[(0, .P 0), (1, .cv (.fn (.func 71) [] [])), (5, .I p0.at_)], [(0, .raw (A6 p0))]⟩) ?_
 obtain ⟨o1, hp1, h⟩ := bind_some h
 refine awp_conseq (Q' := fun e S => (e = .exit 0 ∧ ∃ xh0_1_7 : Int, S = ⟨[(0, .P 0), (5, .I p0.at_)], [(0, .raw [.str p0.src, .I xh0_1_7])]⟩ ∧ xh0_1_7 = o1)) (awp_loop (fun k S => ∃ xh0_1_7h : Int, S = ⟨[(0, .P 0), (1, .cv (.fn (.func 71) [] [])), (5, .I p0.at_)], [(0, .raw [.str p0.src, .I xh0_1_7h])]⟩ ∧ Dw.l7 K p0 k xh0_1_7h = some o1) ?_ ⟨_, rfl, hp1⟩) ?_
 ·clear h hp1
  intro k S hS
  obtain ⟨xh0_1_7h, rfl, h⟩ := hS
  cases k with
  | zero => cases h
  | succ k =>
  unfold Dw.l7 at h
  refine awp_seq <| awp_seq ?_
  obtain ⟨a1, h1, h⟩ := bind_some h
  obtain ⟨a2, h2, h⟩ := bind_some h
  refine rg L 208 [] [(2, .cv (.lit (.int .i32 a1))), (3, .B a2)] [] (plc (Cs.ok h1) (plc trivial (plc (Fg.ok h2) (pl1 trivial)))) ?_
  rcases ite_some h with ⟨c1, h⟩ | ⟨c1, h⟩
  ·refine tt c1 <| awp_skip' <| awp_block <| ar0 L 213 [] [] [] (S' := ⟨[(0, .P 0), (1, .cv (.fn (.func 71) [] [])), (5, .I p0.at_)], [(0, .raw [.str p0.src, .I (IntKind.i64.wrap (xh0_1_7h + 1))])]⟩) ?_
   exact ⟨k, Nat.lt_succ_self k, _, rfl, h⟩
  refine fN c1 <| ex (S' := ⟨[(0, .P 0), (5, .I p0.at_)], [(0, .raw [.str p0.src, .I xh0_1_7h])]⟩) ?_
  cases h
  exact ⟨rfl, _, rfl, rfl⟩
 ·rintro e S ⟨rfl, xh0_1_7, rfl, rfl⟩
  refine ⟨_, Turns.refl, ?_⟩
  refine awp_seq ?_
  obtain ⟨g1, h⟩ := guard_some h
  refine rd L mixed 222 [] [] [] [] 11 (plc g1.1 (plc g1.2.1 (pl1 g1.2.2))) ?_
  refine awp_ret ?_
  cases h
  exact er0
theorem Dw.okE {K : Nat} {p0 : Ax} {r : (List UInt8) × Ax} (h : Dw K p0 = some r) : ECall V P 70 [.P 0, .cv (.fn (.func 71) [] [])] [(0, .raw (A6 p0))] [0] (.cv (.str r.1)) [(0, .raw [.str r.2.src, .I r.2.at_])] :=
 eo (fn := Tryz.f70) (n := 31) (m := 100) fun Γ => Dw.body h
def Ew (K : Nat) (p0 : Int) : Option Bool := (if p0 ≥ 97 then (if p0 ≤ 122 then some true else (if p0 ≥ 65 then (if p0 ≤ 90 then some true else some (decide (p0 = 95))) else some (decide (p0 = 95)))) else (if p0 ≥ 65 then (if p0 ≤ 90 then some true else some (decide (p0 = 95))) else some (decide (p0 = 95))))
theorem Ew.body {Γ : Ent} {K : Nat} {p0 : Int} {r : Bool} (h : Ew K p0 = some r) : AWp V P 21 100 Γ (Tryz.f98.body.getD .skip) (EndsE P V Tryz.f98 (.B r) []) ⟨args0 0 [.cv (.lit (.int .i32 p0))], []⟩ := by
 unfold Ew at h
 refine sg0 L 200 <| awp_seq ?_
 rcases ite_some h with ⟨c1, h⟩ | ⟨c1, h⟩
 ·rcases ite_some h with ⟨c2, h⟩ | ⟨c2, h⟩
  ·refine rg L 202 [(2, true), (6, true)] [] [] (pl2 (decide_eq_true c1) (decide_eq_true c2)) ?_
   refine awp_ret ?_
   cases h
   exact er0
  rcases ite_some h with ⟨c3, h⟩ | ⟨c3, h⟩
  ·rcases ite_some h with ⟨c4, h⟩ | ⟨c4, h⟩
   ·refine rg L 202 [(2, true), (6, false), (9, true), (14, true)] [] [] (plc (decide_eq_true c1) (plc (decide_eq_false c2) (plc (decide_eq_true c3) (pl1 (decide_eq_true c4))))) ?_
    refine awp_ret ?_
    cases h
    exact er0
   refine rg L 202 [(2, true), (6, false), (9, true), (14, false)] [] [] (plc (decide_eq_true c1) (plc (decide_eq_false c2) (plc (decide_eq_true c3) (pl1 (decide_eq_false c4))))) ?_
   refine awp_ret ?_
   cases h
   exact er0
  refine rg L 202 [(2, true), (6, false), (9, false)] [] [] (plc (decide_eq_true c1) (plc (decide_eq_false c2) (pl1 (decide_eq_false c3)))) ?_
  refine awp_ret ?_
  cases h
  exact er0
 rcases ite_some h with ⟨c5, h⟩ | ⟨c5, h⟩
 ·rcases ite_some h with ⟨c6, h⟩ | ⟨c6, h⟩
  ·refine rg L 202 [(2, false), (9, true), (14, true)] [] [] (plc (decide_eq_false c1) (plc (decide_eq_true c5) (pl1 (decide_eq_true c6)))) ?_
   refine awp_ret ?_
   cases h
   exact er0
  refine rg L 202 [(2, false), (9, true), (14, false)] [] [] (plc (decide_eq_false c1) (plc (decide_eq_true c5) (pl1 (decide_eq_false c6)))) ?_
  refine awp_ret ?_
  cases h
  exact er0
 refine rg L 202 [(2, false), (9, false)] [] [] (pl2 (decide_eq_false c1) (decide_eq_false c5)) ?_
 refine awp_ret ?_
 cases h
 exact er0
theorem Ew.ok {K : Nat} {p0 : Int} {r : Bool} (h : Ew K p0 = some r) : PCall V P 98 [.cv (.lit (.int .i32 p0))] (.B r) := ECall.pcall (eo (fn := Tryz.f98) (n := 21) (m := 100) fun Γ => Ew.body h) (by kernel_rfl)
def Fb (K : Nat) (p0 : Int) : Option Bool := (if p0 ≥ 48 then some (decide (p0 ≤ 57)) else some false)
theorem Fb.body {Γ : Ent} {K : Nat} {p0 : Int} {r : Bool} (h : Fb K p0 = some r) : AWp V P 9 100 Γ (Tryz.f100.body.getD .skip) (EndsE P V Tryz.f100 (.B r) []) ⟨args0 0 [.cv (.lit (.int .i32 p0))], []⟩ := by
 unfold Fb at h
 refine sg0 L 200 <| awp_seq ?_
 rcases ite_some h with ⟨c1, h⟩ | ⟨c1, h⟩
 ·refine rg L 202 [(2, true)] [] [] (pl1 (decide_eq_true c1)) ?_
  refine awp_ret ?_
  cases h
  exact er0
 refine rg L 202 [(2, false)] [] [] (pl1 (decide_eq_false c1)) ?_
 refine awp_ret ?_
 cases h
 exact er0
theorem Fb.ok {K : Nat} {p0 : Int} {r : Bool} (h : Fb K p0 = some r) : PCall V P 100 [.cv (.lit (.int .i32 p0))] (.B r) := ECall.pcall (eo (fn := Tryz.f100) (n := 9) (m := 100) fun Γ => Fb.body h) (by kernel_rfl)
def Er (K : Nat) (p0 : Int) : Option Bool := (Option.bind (Ew K p0) (fun a1 => (if a1 = true then some true else (Option.bind (Fb K p0) (fun a2 => some a2)))))
theorem Er.body {Γ : Ent} {K : Nat} {p0 : Int} {r : Bool} (h : Er K p0 = some r) : AWp V P 9 100 Γ (Tryz.f125.body.getD .skip) (EndsE P V Tryz.f125 (.B r) []) ⟨args0 0 [.cv (.lit (.int .i32 p0))], []⟩ := by
 unfold Er at h
 refine sg0 L 200 <| awp_seq ?_
 obtain ⟨a1, h1, h⟩ := bind_some h
 rcases ite_some h with ⟨c1, h⟩ | ⟨c1, h⟩
 ·refine rg L 202 [(2, true)] [(1, .B a1)] [] (plc (Ew.ok h1) (plc trivial (pl1 c1))) ?_
  refine awp_ret ?_
  cases h
  exact er0
 obtain ⟨a2, h2, h⟩ := bind_some h
 refine rg L 202 [(2, false)] [(1, .B a1), (4, .B a2)] [] (plc (Ew.ok h1) (plc trivial (plc (eq_false_of_ne_true c1) (plc (Fb.ok h2) (pl1 trivial))))) ?_
 refine awp_ret ?_
 cases h
 exact er0
theorem Er.ok {K : Nat} {p0 : Int} {r : Bool} (h : Er K p0 = some r) : PCall V P 125 [.cv (.lit (.int .i32 p0))] (.B r) := ECall.pcall (eo (fn := Tryz.f125) (n := 9) (m := 100) fun Γ => Er.body h) (by kernel_rfl)
def Dv.l7 (K : Nat) (p0 : Ax) : Nat → Int → Option Int
 | 0, _ => none
 | k + 1, xh0_1_7h => (Option.bind (Cs K (⟨p0.src, xh0_1_7h⟩ : Ax) 0) (fun a1 => (Option.bind (Er K a1) (fun a2 => (if a2 = true then Dv.l7 K p0 k (IntKind.i64.wrap (xh0_1_7h + 1)) else some xh0_1_7h)))))
def Dv (K : Nat) (p0 : Ax) : Option ((List UInt8) × Ax) := (Option.bind (Dv.l7 K p0 K p0.at_ : Option Int) (fun xh0_1_7 => (if (0 : Int) ≤ p0.at_ ∧ p0.at_ ≤ xh0_1_7 ∧ xh0_1_7 ≤ (p0.src.length : Int) then some ((slc p0.src p0.at_ xh0_1_7), (⟨p0.src, xh0_1_7⟩ : Ax)) else none)))
theorem Dv.body {Γ : Ent} {K : Nat} {p0 : Ax} {r : (List UInt8) × Ax} (h : Dv K p0 = some r) : AWp V P 31 100 Γ (Tryz.f70.body.getD .skip) (EndsE P V Tryz.f70 (.cv (.str r.1)) [(0, .raw [.str r.2.src, .I r.2.at_])]) ⟨args0 0 [.P 0, .cv (.fn (.func 125) [] [])], [(0, .raw (A6 p0))]⟩ := by
 unfold Dv at h
 refine sg0 L 200 <| sg0 L 202 <| awp_seq <| awp_block <| kp (S' := ⟨[(0, .P 0), (1, .cv (.fn (.func 125) [] [])), (5, .I p0.at_)], [(0, .raw (A6 p0))]⟩) ?_
 obtain ⟨o1, hp1, h⟩ := bind_some h
 refine awp_conseq (Q' := fun e S => (e = .exit 0 ∧ ∃ xh0_1_7 : Int, S = ⟨[(0, .P 0), (5, .I p0.at_)], [(0, .raw [.str p0.src, .I xh0_1_7])]⟩ ∧ xh0_1_7 = o1)) (awp_loop (fun k S => ∃ xh0_1_7h : Int, S = ⟨[(0, .P 0), (1, .cv (.fn (.func 125) [] [])), (5, .I p0.at_)], [(0, .raw [.str p0.src, .I xh0_1_7h])]⟩ ∧ Dv.l7 K p0 k xh0_1_7h = some o1) ?_ ⟨_, rfl, hp1⟩) ?_
 ·clear h hp1
  intro k S hS
  obtain ⟨xh0_1_7h, rfl, h⟩ := hS
  cases k with
  | zero => cases h
  | succ k =>
  unfold Dv.l7 at h
  refine awp_seq <| awp_seq ?_
  obtain ⟨a1, h1, h⟩ := bind_some h
  obtain ⟨a2, h2, h⟩ := bind_some h
  refine rg L 208 [] [(2, .cv (.lit (.int .i32 a1))), (3, .B a2)] [] (plc (Cs.ok h1) (plc trivial (plc (Er.ok h2) (pl1 trivial)))) ?_
  rcases ite_some h with ⟨c1, h⟩ | ⟨c1, h⟩
  ·refine tt c1 <| awp_skip' <| awp_block <| ar0 L 213 [] [] [] (S' := ⟨[(0, .P 0), (1, .cv (.fn (.func 125) [] [])), (5, .I p0.at_)], [(0, .raw [.str p0.src, .I (IntKind.i64.wrap (xh0_1_7h + 1))])]⟩) ?_
   exact ⟨k, Nat.lt_succ_self k, _, rfl, h⟩
  refine fN c1 <| ex (S' := ⟨[(0, .P 0), (5, .I p0.at_)], [(0, .raw [.str p0.src, .I xh0_1_7h])]⟩) ?_
  cases h
  exact ⟨rfl, _, rfl, rfl⟩
 ·rintro e S ⟨rfl, xh0_1_7, rfl, rfl⟩
  refine ⟨_, Turns.refl, ?_⟩
  refine awp_seq ?_
  obtain ⟨g1, h⟩ := guard_some h
  refine rd L mixed 222 [] [] [] [] 11 (plc g1.1 (plc g1.2.1 (pl1 g1.2.2))) ?_
  refine awp_ret ?_
  cases h
  exact er0
theorem Dv.okE {K : Nat} {p0 : Ax} {r : (List UInt8) × Ax} (h : Dv K p0 = some r) : ECall V P 70 [.P 0, .cv (.fn (.func 125) [] [])] [(0, .raw (A6 p0))] [0] (.cv (.str r.1)) [(0, .raw [.str r.2.src, .I r.2.at_])] :=
 eo (fn := Tryz.f70) (n := 31) (m := 100) fun Γ => Dv.body h
def Ei.l7 (K : Nat) (p0 : List (List UInt8)) (p1 : List UInt8) : Nat → Int → Option (Out Int Unit)
 | 0, _ => none
 | k + 1, xt8_7h => (if xt8_7h < (p0.length : Int) then (if (0 : Int) ≤ xt8_7h ∧ (xt8_7h : Int) < (p0.length : Int) then (if p1 = (p0.getD (Int.toNat xt8_7h) ([] : List UInt8)) then some (Out.done xt8_7h) else Ei.l7 K p0 p1 k (IntKind.i64.wrap (xt8_7h + 1))) else none) else some (Out.go ()))
def Ei (K : Nat) (p0 : List (List UInt8)) (p1 : List UInt8) : Option Int := (obind (Ei.l7 K p0 p1 K 0 : Option (Out Int Unit)) (fun r => r) (fun _ => some (-1)))
theorem Ei.body {Γ : Ent} {K : Nat} {p0 : List (List UInt8)} {p1 : List UInt8} {r : Int} (h : Ei K p0 p1 = some r) : AWp V P 19 100 Γ (Tryz.f135.body.getD .skip) (EndsE P V Tryz.f135 (.I r) []) ⟨args0 0 [.cv (.ro .Dg p0), .cv (.str p1)], []⟩ := by
 unfold Ei at h
 refine sg0 L 200 <| awp_seq <| sg0 L 202 <| awp_block <| kp (S' := ⟨[(0, .cv (.ro .Dg p0)), (1, .cv (.str p1)), (7, .I (p0.length : Int)), (8, .I 0)], []⟩) ?_
 obtain ⟨o1, hp1, h⟩ := obind_some h
 refine awp_conseq (Q' := fun e S => (e = .exit 0 ∧ S = ⟨[], []⟩ ∧ Out.go () = o1) ∨ (e = .ret ∧ ∃ a, Out.done a = o1 ∧ EndsE P V Tryz.f135 (.I a) [] .ret S)) (awp_loop (fun k S => ∃ xt8_7h : Int, S = ⟨[(0, .cv (.ro .Dg p0)), (1, .cv (.str p1)), (7, .I (p0.length : Int)), (8, .I xt8_7h)], []⟩ ∧ Ei.l7 K p0 p1 k xt8_7h = some o1) ?_ ⟨_, rfl, hp1⟩) ?_
 ·clear h hp1
  intro k S hS
  obtain ⟨xt8_7h, rfl, h⟩ := hS
  cases k with
  | zero => cases h
  | succ k =>
  unfold Ei.l7 at h
  refine sg0 L 206 <| awp_seq ?_
  rcases ite_some h with ⟨c1, h⟩ | ⟨c1, h⟩
  ·refine tT c1 <| awp_skip' <| awp_seq <| awp_block <| sg0 L 208 <| awp_seq ?_
   obtain ⟨g1, h⟩ := guard_some h
   refine rg L 211 [] [] [] (pl2 g1.1 g1.2) ?_
   rcases ite_some h with ⟨c2, h⟩ | ⟨c2, h⟩
   ·refine tT c2 <| sg0 L 218 <| awp_ret ?_
    cases h
    exact .inr ⟨rfl, _, rfl, er0⟩
   refine fF c2 <| awp_skip' <| ar0 L 221 [] [] [] (S' := ⟨[(0, .cv (.ro .Dg p0)), (1, .cv (.str p1)), (7, .I (p0.length : Int)), (8, .I (IntKind.i64.wrap (xt8_7h + 1)))], []⟩) ?_
   exact ⟨k, Nat.lt_succ_self k, _, rfl, h⟩
  refine fF c1 <| ex (S' := ⟨[], []⟩) ?_
  cases h
  exact .inl ⟨rfl, rfl, rfl⟩
 ·rintro e S (⟨rfl, rfl, rfl⟩ | ⟨rfl, a, rfl, hr⟩)
  ·rcases h with ⟨_, e1, h⟩ | ⟨_, e1, h⟩
   ·cases e1
   ·have e2 := Out.go.inj e1
    subst e2
    refine ⟨_, Turns.refl, ?_⟩
    refine sg0 L 224 <| awp_ret ?_
    cases h
    exact er0
  ·rcases h with ⟨_, e1, h⟩ | ⟨_, e1, h⟩
   ·have e2 := Out.done.inj e1
    subst e2
    subst h
    exact ⟨_, Turns.refl, hr⟩
   ·cases e1
theorem Ei.ok {K : Nat} {p0 : List (List UInt8)} {p1 : List UInt8} {r : Int} (h : Ei K p0 p1 = some r) : PCall V P 135 [.cv (.ro .Dg p0), .cv (.str p1)] (.I r) := ECall.pcall (eo (fn := Tryz.f135) (n := 19) (m := 100) fun Γ => Ei.body h) (by kernel_rfl)
def Ex (K : Nat) (p0 : List (List UInt8)) (p1 : List UInt8) : Option Bool := (Option.bind (Ei K p0 p1) (fun a1 => some (decide (a1 ≥ 0))))
theorem Ex.body {Γ : Ent} {K : Nat} {p0 : List (List UInt8)} {p1 : List UInt8} {r : Bool} (h : Ex K p0 p1 = some r) : AWp V P 9 100 Γ (Tryz.f119.body.getD .skip) (EndsE P V Tryz.f119 (.B r) []) ⟨args0 0 [.cv (.ro .Dg p0), .cv (.str p1)], []⟩ := by
 unfold Ex at h
 refine sg0 L 200 <| awp_seq ?_
 obtain ⟨a1, h1, h⟩ := bind_some h
 refine rg L 202 [] [(2, .I a1)] [] (plt (Ei.ok h1)) ?_
 refine awp_ret ?_
 cases h
 exact er0
theorem Ex.ok {K : Nat} {p0 : List (List UInt8)} {p1 : List UInt8} {r : Bool} (h : Ex K p0 p1 = some r) : PCall V P 119 [.cv (.ro .Dg p0), .cv (.str p1)] (.B r) := ECall.pcall (eo (fn := Tryz.f119) (n := 9) (m := 100) fun Γ => Ex.body h) (by kernel_rfl)
def E2 (K : Nat) (p0 : List UInt8) : Option Bool := (if ([97, 110, 100, 32, 97, 119, 97, 105, 116, 32, 99, 97, 115, 101, 32, 99, 97, 116, 99, 104, 32, 99, 104, 101, 99, 107, 32, 101, 108, 115, 101, 32, 102, 97, 108, 115, 101, 32, 102, 117, 110, 99, 32, 103, 111, 32, 105, 102, 32, 108, 101, 116, 32, 110, 111, 116, 32, 110, 117, 108, 108, 32, 111, 110, 32, 111, 114, 32, 113, 117, 101, 114, 121, 32, 114, 101, 116, 117, 114, 110, 32, 115, 97, 103, 97, 32, 115, 101, 108, 101, 99, 116, 32, 115, 105, 103, 110, 97, 108, 32, 116, 104, 114, 111, 119, 32, 116, 114, 117, 101, 32, 116, 114, 121, 32, 117, 110, 100, 111, 32, 117, 112, 100, 97, 116, 101, 32, 118, 97, 114, 32, 119, 104, 105, 108, 101] : List UInt8).length < 4294967281 ∧ (([97, 110, 100, 32, 97, 119, 97, 105, 116, 32, 99, 97, 115, 101, 32, 99, 97, 116, 99, 104, 32, 99, 104, 101, 99, 107, 32, 101, 108, 115, 101, 32, 102, 97, 108, 115, 101, 32, 102, 117, 110, 99, 32, 103, 111, 32, 105, 102, 32, 108, 101, 116, 32, 110, 111, 116, 32, 110, 117, 108, 108, 32, 111, 110, 32, 111, 114, 32, 113, 117, 101, 114, 121, 32, 114, 101, 116, 117, 114, 110, 32, 115, 97, 103, 97, 32, 115, 101, 108, 101, 99, 116, 32, 115, 105, 103, 110, 97, 108, 32, 116, 104, 114, 111, 119, 32, 116, 114, 117, 101, 32, 116, 114, 121, 32, 117, 110, 100, 111, 32, 117, 112, 100, 97, 116, 101, 32, 118, 97, 114, 32, 119, 104, 105, 108, 101] : List UInt8).all fun b => decide (b.toNat < 128)) = true then (Option.bind (Ex K (Lib.fields ([97, 110, 100, 32, 97, 119, 97, 105, 116, 32, 99, 97, 115, 101, 32, 99, 97, 116, 99, 104, 32, 99, 104, 101, 99, 107, 32, 101, 108, 115, 101, 32, 102, 97, 108, 115, 101, 32, 102, 117, 110, 99, 32, 103, 111, 32, 105, 102, 32, 108, 101, 116, 32, 110, 111, 116, 32, 110, 117, 108, 108, 32, 111, 110, 32, 111, 114, 32, 113, 117, 101, 114, 121, 32, 114, 101, 116, 117, 114, 110, 32, 115, 97, 103, 97, 32, 115, 101, 108, 101, 99, 116, 32, 115, 105, 103, 110, 97, 108, 32, 116, 104, 114, 111, 119, 32, 116, 114, 117, 101, 32, 116, 114, 121, 32, 117, 110, 100, 111, 32, 117, 112, 100, 97, 116, 101, 32, 118, 97, 114, 32, 119, 104, 105, 108, 101] : List UInt8)) p0) (fun a1 => some a1)) else none)
theorem E2.body {Γ : Ent} {K : Nat} {p0 : List UInt8} {r : Bool} (h : E2 K p0 = some r) : AWp V P 8 100 Γ (Tryz.f91.body.getD .skip) (EndsE P V Tryz.f91 (.B r) []) ⟨args0 0 [.cv (.str p0)], []⟩ := by
 unfold E2 at h
 refine sg0 L 200 <| awp_seq ?_
 obtain ⟨g1, h⟩ := guard_some h
 refine rg L 202 [] [(0, .cv (.ron .Dg (Lib.fields ([97, 110, 100, 32, 97, 119, 97, 105, 116, 32, 99, 97, 115, 101, 32, 99, 97, 116, 99, 104, 32, 99, 104, 101, 99, 107, 32, 101, 108, 115, 101, 32, 102, 97, 108, 115, 101, 32, 102, 117, 110, 99, 32, 103, 111, 32, 105, 102, 32, 108, 101, 116, 32, 110, 111, 116, 32, 110, 117, 108, 108, 32, 111, 110, 32, 111, 114, 32, 113, 117, 101, 114, 121, 32, 114, 101, 116, 117, 114, 110, 32, 115, 97, 103, 97, 32, 115, 101, 108, 101, 99, 116, 32, 115, 105, 103, 110, 97, 108, 32, 116, 104, 114, 111, 119, 32, 116, 114, 117, 101, 32, 116, 114, 121, 32, 117, 110, 100, 111, 32, 117, 112, 100, 97, 116, 101, 32, 118, 97, 114, 32, 119, 104, 105, 108, 101] : List UInt8))))] [] (pl1 (show FCall V P 118 [.cv (.str ([97, 110, 100, 32, 97, 119, 97, 105, 116, 32, 99, 97, 115, 101, 32, 99, 97, 116, 99, 104, 32, 99, 104, 101, 99, 107, 32, 101, 108, 115, 101, 32, 102, 97, 108, 115, 101, 32, 102, 117, 110, 99, 32, 103, 111, 32, 105, 102, 32, 108, 101, 116, 32, 110, 111, 116, 32, 110, 117, 108, 108, 32, 111, 110, 32, 111, 114, 32, 113, 117, 101, 114, 121, 32, 114, 101, 116, 117, 114, 110, 32, 115, 97, 103, 97, 32, 115, 101, 108, 101, 99, 116, 32, 115, 105, 103, 110, 97, 108, 32, 116, 104, 114, 111, 119, 32, 116, 114, 117, 101, 32, 116, 114, 121, 32, 117, 110, 100, 111, 32, 117, 112, 100, 97, 116, 101, 32, 118, 97, 114, 32, 119, 104, 105, 108, 101] : List UInt8))] Tag.Dg (Lib.fields ([97, 110, 100, 32, 97, 119, 97, 105, 116, 32, 99, 97, 115, 101, 32, 99, 97, 116, 99, 104, 32, 99, 104, 101, 99, 107, 32, 101, 108, 115, 101, 32, 102, 97, 108, 115, 101, 32, 102, 117, 110, 99, 32, 103, 111, 32, 105, 102, 32, 108, 101, 116, 32, 110, 111, 116, 32, 110, 117, 108, 108, 32, 111, 110, 32, 111, 114, 32, 113, 117, 101, 114, 121, 32, 114, 101, 116, 117, 114, 110, 32, 115, 97, 103, 97, 32, 115, 101, 108, 101, 99, 116, 32, 115, 105, 103, 110, 97, 108, 32, 116, 104, 114, 111, 119, 32, 116, 114, 117, 101, 32, 116, 114, 121, 32, 117, 110, 100, 111, 32, 117, 112, 100, 97, 116, 101, 32, 118, 97, 114, 32, 119, 104, 105, 108, 101] : List UInt8)) from Gg.okF ([97, 110, 100, 32, 97, 119, 97, 105, 116, 32, 99, 97, 115, 101, 32, 99, 97, 116, 99, 104, 32, 99, 104, 101, 99, 107, 32, 101, 108, 115, 101, 32, 102, 97, 108, 115, 101, 32, 102, 117, 110, 99, 32, 103, 111, 32, 105, 102, 32, 108, 101, 116, 32, 110, 111, 116, 32, 110, 117, 108, 108, 32, 111, 110, 32, 111, 114, 32, 113, 117, 101, 114, 121, 32, 114, 101, 116, 117, 114, 110, 32, 115, 97, 103, 97, 32, 115, 101, 108, 101, 99, 116, 32, 115, 105, 103, 110, 97, 108, 32, 116, 104, 114, 111, 119, 32, 116, 114, 117, 101, 32, 116, 114, 121, 32, 117, 110, 100, 111, 32, 117, 112, 100, 97, 116, 101, 32, 118, 97, 114, 32, 119, 104, 105, 108, 101] : List UInt8) g1.1 g1.2)) ?_
 refine awp_seq ?_
 obtain ⟨a1, h1, h⟩ := bind_some h
 refine rg L 205 [] [(2, .B a1)] [] (plt (Ex.ok h1)) ?_
 refine awp_ret ?_
 cases h
 exact er0
theorem E2.ok {K : Nat} {p0 : List UInt8} {r : Bool} (h : E2 K p0 = some r) : PCall V P 91 [.cv (.str p0)] (.B r) := ECall.pcall (eo (fn := Tryz.f91) (n := 8) (m := 100) fun Γ => E2.body h) (by kernel_rfl)
def Eq (K : Nat) (p0 : Ax) : Option (As × Int × Ax) := (Option.bind (Dv K p0) (fun (a1_0, a1_1) => (if (a1_0.length : Int) > 64 then some ((⟨0, 0, [], 0⟩ : As), 8, a1_1) else (Option.bind (E2 K a1_0) (fun a2 => (if a2 = true then some ((⟨2, 0, a1_0, 0⟩ : As), 0, a1_1) else some ((⟨1, 0, a1_0, 0⟩ : As), 0, a1_1)))))))
theorem Eq.body {Γ : Ent} {K : Nat} {p0 : Ax} {r : As × Int × Ax} (h : Eq K p0 = some r) : AWp V P 17 100 Γ (Tryz.f99.body.getD .skip) (EndsE P V Tryz.f99 (.tup [.agg [.I r.1.Kind, .I r.1.At, .str r.1.Text, .I r.1.Int], .I r.2.1]) [(0, .raw [.str r.2.2.src, .I r.2.2.at_])]) ⟨args0 0 [.P 0], [(0, .raw (A6 p0))]⟩ := by
 unfold Eq at h
 refine sg0 L 200 <| awp_seq ?_
 obtain ⟨⟨a1_0, a1_1⟩, h1, h⟩ := bind_some h
 dsimp only at h
 refine rg L 203 [] [] [(1, (ef0 (.cv (.str a1_0)) [(0, .raw (A6 a1_1))]))] (pl1 (Dv.okE h1)) ?_
 refine awp_seq <| sg0 L 207 ?_
 rcases ite_some h with ⟨c1, h⟩ | ⟨c1, h⟩
 ·refine tT c1 <| sg0 L 211 <| awp_turn (Turns.trans (Turns.kk [2, 3] [0, 200]) (Turns.rr [(0, 0), (200, 100)])) ?_
  refine awp_ret ?_
  cases h
  exact er0
 refine fF c1 <| awp_skip' <| awp_seq <| awp_seq ?_
 obtain ⟨a2, h2, h⟩ := bind_some h
 refine rg L 215 [] [(1, .B a2)] [] (plt (E2.ok h2)) ?_
 rcases ite_some h with ⟨c2, h⟩ | ⟨c2, h⟩
 ·refine tt c2 <| sg0 L 218 <| awp_turn (Turns.trans (Turns.kk [2, 3] [0, 200]) (Turns.rr [(0, 0), (200, 100)])) ?_
  refine awp_ret ?_
  cases h
  exact er0
 refine fN c2 <| awp_skip' <| sg0 L 223 <| awp_turn (Turns.trans (Turns.kk [2, 3] [0, 200]) (Turns.rr [(0, 0), (200, 100)])) ?_
 refine awp_ret ?_
 cases h
 exact er0
theorem Eq.okE {K : Nat} {p0 : Ax} {r : As × Int × Ax} (h : Eq K p0 = some r) : ECall V P 99 [.P 0] [(0, .raw (A6 p0))] [0] (.tup [.agg [.I r.1.Kind, .I r.1.At, .str r.1.Text, .I r.1.Int], .I r.2.1]) [(0, .raw [.str r.2.2.src, .I r.2.2.at_])] :=
 eo (fn := Tryz.f99) (n := 17) (m := 100) fun Γ => Eq.body h
def Dx.l7 (K : Nat) (p0 : Ax) : Nat → Int → Option Int
 | 0, _ => none
 | k + 1, xh0_1_7h => (Option.bind (Cs K (⟨p0.src, xh0_1_7h⟩ : Ax) 0) (fun a1 => (Option.bind (Fb K a1) (fun a2 => (if a2 = true then Dx.l7 K p0 k (IntKind.i64.wrap (xh0_1_7h + 1)) else some xh0_1_7h)))))
def Dx (K : Nat) (p0 : Ax) : Option ((List UInt8) × Ax) := (Option.bind (Dx.l7 K p0 K p0.at_ : Option Int) (fun xh0_1_7 => (if (0 : Int) ≤ p0.at_ ∧ p0.at_ ≤ xh0_1_7 ∧ xh0_1_7 ≤ (p0.src.length : Int) then some ((slc p0.src p0.at_ xh0_1_7), (⟨p0.src, xh0_1_7⟩ : Ax)) else none)))
theorem Dx.body {Γ : Ent} {K : Nat} {p0 : Ax} {r : (List UInt8) × Ax} (h : Dx K p0 = some r) : AWp V P 31 100 Γ (Tryz.f70.body.getD .skip) (EndsE P V Tryz.f70 (.cv (.str r.1)) [(0, .raw [.str r.2.src, .I r.2.at_])]) ⟨args0 0 [.P 0, .cv (.fn (.func 100) [] [])], [(0, .raw (A6 p0))]⟩ := by
 unfold Dx at h
 refine sg0 L 200 <| sg0 L 202 <| awp_seq <| awp_block <| kp (S' := ⟨[(0, .P 0), (1, .cv (.fn (.func 100) [] [])), (5, .I p0.at_)], [(0, .raw (A6 p0))]⟩) ?_
 obtain ⟨o1, hp1, h⟩ := bind_some h
 refine awp_conseq (Q' := fun e S => (e = .exit 0 ∧ ∃ xh0_1_7 : Int, S = ⟨[(0, .P 0), (5, .I p0.at_)], [(0, .raw [.str p0.src, .I xh0_1_7])]⟩ ∧ xh0_1_7 = o1)) (awp_loop (fun k S => ∃ xh0_1_7h : Int, S = ⟨[(0, .P 0), (1, .cv (.fn (.func 100) [] [])), (5, .I p0.at_)], [(0, .raw [.str p0.src, .I xh0_1_7h])]⟩ ∧ Dx.l7 K p0 k xh0_1_7h = some o1) ?_ ⟨_, rfl, hp1⟩) ?_
 ·clear h hp1
  intro k S hS
  obtain ⟨xh0_1_7h, rfl, h⟩ := hS
  cases k with
  | zero => cases h
  | succ k =>
  unfold Dx.l7 at h
  refine awp_seq <| awp_seq ?_
  obtain ⟨a1, h1, h⟩ := bind_some h
  obtain ⟨a2, h2, h⟩ := bind_some h
  refine rg L 208 [] [(2, .cv (.lit (.int .i32 a1))), (3, .B a2)] [] (plc (Cs.ok h1) (plc trivial (plc (Fb.ok h2) (pl1 trivial)))) ?_
  rcases ite_some h with ⟨c1, h⟩ | ⟨c1, h⟩
  ·refine tt c1 <| awp_skip' <| awp_block <| ar0 L 213 [] [] [] (S' := ⟨[(0, .P 0), (1, .cv (.fn (.func 100) [] [])), (5, .I p0.at_)], [(0, .raw [.str p0.src, .I (IntKind.i64.wrap (xh0_1_7h + 1))])]⟩) ?_
   exact ⟨k, Nat.lt_succ_self k, _, rfl, h⟩
  refine fN c1 <| ex (S' := ⟨[(0, .P 0), (5, .I p0.at_)], [(0, .raw [.str p0.src, .I xh0_1_7h])]⟩) ?_
  cases h
  exact ⟨rfl, _, rfl, rfl⟩
 ·rintro e S ⟨rfl, xh0_1_7, rfl, rfl⟩
  refine ⟨_, Turns.refl, ?_⟩
  refine awp_seq ?_
  obtain ⟨g1, h⟩ := guard_some h
  refine rd L mixed 222 [] [] [] [] 11 (plc g1.1 (plc g1.2.1 (pl1 g1.2.2))) ?_
  refine awp_ret ?_
  cases h
  exact er0
theorem Dx.okE {K : Nat} {p0 : Ax} {r : (List UInt8) × Ax} (h : Dx K p0 = some r) : ECall V P 70 [.P 0, .cv (.fn (.func 100) [] [])] [(0, .raw (A6 p0))] [0] (.cv (.str r.1)) [(0, .raw [.str r.2.src, .I r.2.at_])] :=
 eo (fn := Tryz.f70) (n := 31) (m := 100) fun Γ => Dx.body h
def Ek (K : Nat) (p0 : Ax) : Option (As × Int × Ax) := (Option.bind (Dx K p0) (fun (a1_0, a1_1) => (obind (((if (a1_0.length : Int) > 1 then (if (0 : Int) < (a1_0.length : Int) then (if ((a1_0.getD (Int.toNat 0) 0).toNat : Int) = 48 then some (Out.done ((⟨0, 0, [], 0⟩ : As), 3, a1_1)) else (Option.bind (Cs K a1_1 0) (fun a2 => (Option.bind (Ew K a2) (fun a3 => (if a3 = true then some (Out.done ((⟨0, 0, [], 0⟩ : As), 3, a1_1)) else some (Out.go ()))))))) else none) else (Option.bind (Cs K a1_1 0) (fun a4 => (Option.bind (Ew K a4) (fun a5 => (if a5 = true then some (Out.done ((⟨0, 0, [], 0⟩ : As), 3, a1_1)) else some (Out.go ())))))))) : Option (Out (As × Int × Ax) Unit)) (fun r => r) (fun _ => (if a1_0.length ≤ 281474976710656 then (if (Hh a1_0) = true then some ((⟨3, 0, [], (Gi a1_0)⟩ : As), 0, a1_1) else some ((⟨0, 0, [], 0⟩ : As), 14, a1_1)) else none)))))
theorem Ek.body {Γ : Ent} {K : Nat} {p0 : Ax} {r : As × Int × Ax} (h : Ek K p0 = some r) : AWp V P 33 100 Γ (Tryz.f101.body.getD .skip) (EndsE P V Tryz.f101 (.tup [.agg [.I r.1.Kind, .I r.1.At, .str r.1.Text, .I r.1.Int], .I r.2.1]) [(0, .raw [.str r.2.2.src, .I r.2.2.at_])]) ⟨args0 0 [.P 0], [(0, .raw (A6 p0))]⟩ := by
 unfold Ek at h
 refine sg0 L 200 <| awp_seq ?_
 obtain ⟨⟨a1_0, a1_1⟩, h1, h⟩ := bind_some h
 dsimp only at h
 refine rg L 203 [] [] [(1, (ef0 (.cv (.str a1_0)) [(0, .raw (A6 a1_1))]))] (pl1 (Dx.okE h1)) ?_
 obtain ⟨o1, hp1, h⟩ := obind_some h
 refine awp_seq (awp_mono (Q' := fun e S => (e = .normal ∧ S = ⟨[(2, .P 21000), (4, .cv (.str a1_0))], [(0, .raw (A6 a1_1)), (21000, .raw [.I 0, .I 0, .str [], .I 0])]⟩ ∧ Out.go () = o1) ∨ (e = .ret ∧ ∃ a, Out.done a = o1 ∧ EndsE P V Tryz.f101 (.tup [.agg [.I a.1.Kind, .I a.1.At, .str a.1.Text, .I a.1.Int], .I a.2.1]) [(0, .raw [.str a.2.2.src, .I a.2.2.at_])] .ret S)) ?_ ?_)
 ·clear h
  replace h := hp1
  refine awp_seq ?_
  rcases ite_some h with ⟨c1, h⟩ | ⟨c1, h⟩
  ·obtain ⟨g1, h⟩ := guard_some h
   rcases ite_some h with ⟨c2, h⟩ | ⟨c2, h⟩
   ·refine rg L 207 [(3, true), (8, true)] [] [] (plc (decide_eq_true c1) (plc (show (0 : Int) ≤ 0 from by decide) (plc g1 (pl1 (decide_eq_true c2))))) ?_
    refine tt (b := true) (rfl) ?_
    refine sg0 L 221 <| awp_turn (Turns.trans (Turns.kk [2, 3] [0, 200]) (Turns.rr [(0, 0), (200, 100)])) ?_
    refine awp_ret ?_
    cases h
    exact .inr ⟨rfl, _, rfl, er0⟩
   obtain ⟨a2, h2, h⟩ := bind_some h
   obtain ⟨a3, h3, h⟩ := bind_some h
   refine rg L 207 [(3, true), (8, false)] [(10, .cv (.lit (.int .i32 a2))), (11, .B a3)] [] (plc (decide_eq_true c1) (plc (show (0 : Int) ≤ 0 from by decide) (plc g1 (plc (decide_eq_false c2) (plc (Cs.ok h2) (plc trivial (plc (Ew.ok h3) (pl1 trivial)))))))) ?_
   rcases ite_some h with ⟨c3, h⟩ | ⟨c3, h⟩
   ·refine tt c3 <| sg0 L 221 <| awp_turn (Turns.trans (Turns.kk [2, 3] [0, 200]) (Turns.rr [(0, 0), (200, 100)])) ?_
    refine awp_ret ?_
    cases h
    exact .inr ⟨rfl, _, rfl, er0⟩
   refine fN c3 <| awp_turn (Turns.trans (Turns.kk [2, 4] [0, 200]) (Turns.rr [(0, 0), (200, 21000)])) ?_
   refine sk (S' := ⟨[(2, .P 21000), (4, .cv (.str a1_0))], [(0, .raw (A6 a1_1)), (21000, .raw [.I 0, .I 0, .str [], .I 0])]⟩) ?_
   cases h
   exact .inl ⟨rfl, rfl, rfl⟩
  obtain ⟨a4, h4, h⟩ := bind_some h
  obtain ⟨a5, h5, h⟩ := bind_some h
  refine rg L 207 [(3, false)] [(10, .cv (.lit (.int .i32 a4))), (11, .B a5)] [] (plc (decide_eq_false c1) (plc (Cs.ok h4) (plc trivial (plc (Ew.ok h5) (pl1 trivial))))) ?_
  rcases ite_some h with ⟨c4, h⟩ | ⟨c4, h⟩
  ·refine tt c4 <| sg0 L 221 <| awp_turn (Turns.trans (Turns.kk [2, 3] [0, 200]) (Turns.rr [(0, 0), (200, 100)])) ?_
   refine awp_ret ?_
   cases h
   exact .inr ⟨rfl, _, rfl, er0⟩
  refine fN c4 <| awp_turn (Turns.trans (Turns.kk [2, 4] [0, 200]) (Turns.rr [(0, 0), (200, 21000)])) ?_
  refine sk (S' := ⟨[(2, .P 21000), (4, .cv (.str a1_0))], [(0, .raw (A6 a1_1)), (21000, .raw [.I 0, .I 0, .str [], .I 0])]⟩) ?_
  cases h
  exact .inl ⟨rfl, rfl, rfl⟩
 ·rintro e S (⟨rfl, rfl, rfl⟩ | ⟨rfl, a, rfl, hr⟩)
  ·rcases h with ⟨_, e1, h⟩ | ⟨_, e1, h⟩
   ·cases e1
   ·have e2 := Out.go.inj e1
    subst e2
    refine awp_seq ?_
    obtain ⟨g2, h⟩ := guard_some h
    rcases ite_some h with ⟨c5, h⟩ | ⟨c5, h⟩
    ·refine rg L 225 [] [(1, .tup [.I (Gi a1_0), .cv (.lit .nilIface)])] [] (plt (show PCall V P 126 [.cv (.str a1_0), .I 10, .I 64] (.tup [.I (Gi a1_0), .cv (.lit .nilIface)]) from Fr.ok a1_0 g2 (c5))) ?_
     refine awp_seq <| sg0 L 233 <| ff (b := false) (rfl) ?_
     refine awp_skip' <| sg0 L 240 <| awp_turn (Turns.trans (Turns.kk [2, 3] [0, 21000]) (Turns.rr [(0, 0), (21000, 100)])) ?_
     refine awp_ret ?_
     cases h
     exact er0
    refine rg L 225 [] [(1, .tup [.cv (.any), .cv (.ifc 122 false [.any])])] [] (plt (show PCall V P 126 [.cv (.str a1_0), .I 10, .I 64] (.tup [.cv (.any), .cv (.ifc 122 false [.any])]) from Fr.no a1_0 g2 (eq_false_of_ne_true c5))) ?_
    refine awp_seq <| sg0 L 233 <| tt (b := true) (rfl) ?_
    refine sg0 L 236 <| awp_turn (Turns.trans (Turns.kk [2, 3] [0, 21000]) (Turns.rr [(0, 0), (21000, 100)])) ?_
    refine awp_ret ?_
    cases h
    exact er0
  ·rcases h with ⟨_, e1, h⟩ | ⟨_, e1, h⟩
   ·have e2 := Out.done.inj e1
    subst e2
    subst h
    exact hr
   ·cases e1
theorem Ek.okE {K : Nat} {p0 : Ax} {r : As × Int × Ax} (h : Ek K p0 = some r) : ECall V P 101 [.P 0] [(0, .raw (A6 p0))] [0] (.tup [.agg [.I r.1.Kind, .I r.1.At, .str r.1.Text, .I r.1.Int], .I r.2.1]) [(0, .raw [.str r.2.2.src, .I r.2.2.at_])] :=
 eo (fn := Tryz.f101) (n := 33) (m := 100) fun Γ => Ek.body h
def Eg (K : Nat) (p0 : Ax) : Option (Int × Int × Ax) := (Option.bind (Cs K p0 0) (fun a1 => (if a1 < 0 then some (0, 4, p0) else (if (Lib.indexByte ([48, 49, 50, 51, 52, 53, 54, 55, 56, 57, 97, 98, 99, 100, 101, 102] : List UInt8) (Int.toNat (IntKind.u8.wrap a1)).toUInt8) < 0 then some (0, 3, (⟨p0.src, (IntKind.i64.wrap (p0.at_ + 1))⟩ : Ax)) else some ((Lib.indexByte ([48, 49, 50, 51, 52, 53, 54, 55, 56, 57, 97, 98, 99, 100, 101, 102] : List UInt8) (Int.toNat (IntKind.u8.wrap a1)).toUInt8), 0, (⟨p0.src, (IntKind.i64.wrap (p0.at_ + 1))⟩ : Ax))))))
theorem Eg.body {Γ : Ent} {K : Nat} {p0 : Ax} {r : Int × Int × Ax} (h : Eg K p0 = some r) : AWp V P 23 100 Γ (Tryz.f140.body.getD .skip) (EndsE P V Tryz.f140 (.tup [.I r.1, .I r.2.1]) [(0, .raw [.str r.2.2.src, .I r.2.2.at_])]) ⟨args0 0 [.P 0], [(0, .raw (A6 p0))]⟩ := by
 unfold Eg at h
 refine sg0 L 200 <| awp_seq ?_
 obtain ⟨a1, h1, h⟩ := bind_some h
 refine rg L 203 [] [(1, .cv (.lit (.int .i32 a1)))] [] (plt (Cs.ok h1)) ?_
 refine awp_seq <| sg0 L 207 ?_
 rcases ite_some h with ⟨c1, h⟩ | ⟨c1, h⟩
 ·refine tT c1 <| sg0 L 210 <| awp_ret ?_
  cases h
  exact er0
 refine fF c1 <| awp_skip' <| sg0 L 213 <| sg L 222 [] [(2, .I (Lib.indexByte ([48, 49, 50, 51, 52, 53, 54, 55, 56, 57, 97, 98, 99, 100, 101, 102] : List UInt8) (Int.toNat (IntKind.u8.wrap a1)).toUInt8))] [] (plt (show PCall V P 152 [.cv (.str ([48, 49, 50, 51, 52, 53, 54, 55, 56, 57, 97, 98, 99, 100, 101, 102] : List UInt8)), .cv (.lit (.int .u8 (IntKind.u8.wrap a1)))] (.I (Lib.indexByte ([48, 49, 50, 51, 52, 53, 54, 55, 56, 57, 97, 98, 99, 100, 101, 102] : List UInt8) (Int.toNat (IntKind.u8.wrap a1)).toUInt8)) from strings_IndexByte.ok ([48, 49, 50, 51, 52, 53, 54, 55, 56, 57, 97, 98, 99, 100, 101, 102] : List UInt8) (IntKind.u8.wrap a1))) ?_
 refine awp_seq <| sg0 L 227 ?_
 rcases ite_some h with ⟨c2, h⟩ | ⟨c2, h⟩
 ·refine tT c2 <| sg0 L 230 <| awp_ret ?_
  cases h
  exact er0
 refine fF c2 <| awp_skip' <| sg0 L 233 <| awp_ret ?_
 cases h
 exact er0
theorem Eg.okE {K : Nat} {p0 : Ax} {r : Int × Int × Ax} (h : Eg K p0 = some r) : ECall V P 140 [.P 0] [(0, .raw (A6 p0))] [0] (.tup [.I r.1, .I r.2.1]) [(0, .raw [.str r.2.2.src, .I r.2.2.at_])] :=
 eo (fn := Tryz.f140) (n := 23) (m := 100) fun Γ => Eg.body h
def El (K : Nat) (p0 : Ax) : Option (Int × Int × Ax) := (Option.bind (Cs K p0 0) (fun a1 => (if a1 = (-1) then some (0, 4, (⟨p0.src, (IntKind.i64.wrap (p0.at_ + 1))⟩ : Ax)) else (Option.bind ((if a1 = 34 then some (decide (a1 = 34)) else some (decide (a1 = 92))) : Option Bool) (fun xt20_17 => (if xt20_17 = true then some ((IntKind.u8.wrap a1), 0, (⟨p0.src, (IntKind.i64.wrap (p0.at_ + 1))⟩ : Ax)) else (if a1 = 110 then some (10, 0, (⟨p0.src, (IntKind.i64.wrap (p0.at_ + 1))⟩ : Ax)) else (if a1 = 116 then some (9, 0, (⟨p0.src, (IntKind.i64.wrap (p0.at_ + 1))⟩ : Ax)) else (if a1 = 120 then (Option.bind (Eg K (⟨p0.src, (IntKind.i64.wrap (p0.at_ + 1))⟩ : Ax)) (fun (a2_0, a2_1, a2_2) => (if a2_1 ≠ 0 then some (0, a2_1, a2_2) else (Option.bind (Eg K a2_2) (fun (a3_0, a3_1, a3_2) => some (((IntKind.u8.wrap (IntKind.i64.wrap ((IntKind.i64.wrap (16 * a2_0)) + a3_0))), a3_1, a3_2))))))) else some (0, 3, (⟨p0.src, (IntKind.i64.wrap (p0.at_ + 1))⟩ : Ax)))))))))))
theorem El.body {Γ : Ent} {K : Nat} {p0 : Ax} {r : Int × Int × Ax} (h : El K p0 = some r) : AWp V P 50 100 Γ (Tryz.f127.body.getD .skip) (EndsE P V Tryz.f127 (.tup [.cv (.lit (.int .u8 r.1)), .I r.2.1]) [(0, .raw [.str r.2.2.src, .I r.2.2.at_])]) ⟨args0 0 [.P 0], [(0, .raw (A6 p0))]⟩ := by
 unfold El at h
 refine sg0 L 200 <| awp_seq ?_
 obtain ⟨a1, h1, h⟩ := bind_some h
 refine rg L 203 [] [(1, .cv (.lit (.int .i32 a1)))] [] (plt (Cs.ok h1)) ?_
 refine sg0 L 207 <| awp_seq <| sg0 L 216 <| awp_block <| sg0 L 218 ?_
 rcases ite_some h with ⟨c1, h⟩ | ⟨c1, h⟩
 ·refine tT c1 <| sg0 L 221 <| awp_ret ?_
  cases h
  exact er0
 refine fF c1 ?_
 obtain ⟨o1, hp1, h⟩ := bind_some h
 refine awp_seq (awp_mono (Q' := fun e S => (e = .normal ∧ ∃ xt20_17 : Bool, S = ⟨[(0, .P 0), (4, .cv (.lit (.int .i32 a1))), (17, .cv (.lit (.int .i32 a1))), (20, .B xt20_17)], [(0, .raw [.str p0.src, .I (IntKind.i64.wrap (p0.at_ + 1))])]⟩ ∧ xt20_17 = o1)) ?_ ?_)
 ·clear h
  replace h := hp1
  refine sg0 L 224 ?_
  rcases ite_some h with ⟨c2, h⟩ | ⟨c2, h⟩
  ·refine tT c2 <| sk (S' := ⟨[(0, .P 0), (4, .cv (.lit (.int .i32 a1))), (17, .cv (.lit (.int .i32 a1))), (20, .B (decide (a1 = 34)))], [(0, .raw [.str p0.src, .I (IntKind.i64.wrap (p0.at_ + 1))])]⟩) ?_
   cases h
   exact ⟨rfl, _, rfl, rfl⟩
  refine fF c2 <| ar0 L 227 [] [] [] (S' := ⟨[(0, .P 0), (4, .cv (.lit (.int .i32 a1))), (17, .cv (.lit (.int .i32 a1))), (20, .B (decide (a1 = 92)))], [(0, .raw [.str p0.src, .I (IntKind.i64.wrap (p0.at_ + 1))])]⟩) ?_
  cases h
  exact ⟨rfl, _, rfl, rfl⟩
 ·rintro e S ⟨rfl, xt20_17, rfl, rfl⟩
  rcases ite_some h with ⟨c3, h⟩ | ⟨c3, h⟩
  ·refine tt c3 <| sg0 L 230 <| awp_ret ?_
   cases h
   exact er0
  refine fN c3 <| sg0 L 235 ?_
  rcases ite_some h with ⟨c4, h⟩ | ⟨c4, h⟩
  ·refine tT c4 <| sg0 L 238 <| awp_ret ?_
   cases h
   exact er0
  refine fF c4 <| sg0 L 241 ?_
  rcases ite_some h with ⟨c5, h⟩ | ⟨c5, h⟩
  ·refine tT c5 <| sg0 L 244 <| awp_ret ?_
   cases h
   exact er0
  refine fF c5 <| sg0 L 247 ?_
  rcases ite_some h with ⟨c6, h⟩ | ⟨c6, h⟩
  ·refine tT c6 <| awp_seq ?_
   obtain ⟨⟨a2_0, a2_1, a2_2⟩, h2, h⟩ := bind_some h
   dsimp only at h
   refine rg L 250 [] [] [(1, (ef0 (.tup [.I a2_0, .I a2_1]) [(0, .raw (A6 a2_2))]))] (pl1 (Eg.okE h2)) ?_
   refine awp_seq <| sg0 L 258 ?_
   rcases ite_some h with ⟨c7, h⟩ | ⟨c7, h⟩
   ·refine tT c7 <| sg0 L 261 <| awp_ret ?_
    cases h
    exact er0
   refine fF c7 <| awp_skip' <| awp_seq ?_
   obtain ⟨⟨a3_0, a3_1, a3_2⟩, h3, h⟩ := bind_some h
   dsimp only at h
   refine rg L 265 [] [] [(1, (ef0 (.tup [.I a3_0, .I a3_1]) [(0, .raw (A6 a3_2))]))] (pl1 (Eg.okE h3)) ?_
   refine sg0 L 273 <| awp_ret ?_
   cases h
   exact er0
  refine fF c6 <| awp_skip' <| sg0 L 282 <| awp_ret ?_
  cases h
  exact er0
theorem El.okE {K : Nat} {p0 : Ax} {r : Int × Int × Ax} (h : El K p0 = some r) : ECall V P 127 [.P 0] [(0, .raw (A6 p0))] [0] (.tup [.cv (.lit (.int .u8 r.1)), .I r.2.1]) [(0, .raw [.str r.2.2.src, .I r.2.2.at_])] :=
 eo (fn := Tryz.f127) (n := 50) (m := 100) fun Γ => El.body h
def Du.l8 (K : Nat) : Nat → (List UInt8) → Int → (List UInt8) → Option (Out (As × Int × Ax) Unit)
 | 0, _, _, _ => none
 | k + 1, xh0_0_8h, xh0_1_8h, x21701 => (Option.bind (Cs K (⟨xh0_0_8h, xh0_1_8h⟩ : Ax) 0) (fun a1 => (if a1 < 0 then some (Out.done ((⟨0, 0, [], 0⟩ : As), 4, (⟨xh0_0_8h, (IntKind.i64.wrap (xh0_1_8h + 1))⟩ : Ax))) else (if a1 = 34 then (if (x21701.length : Int) > 4096 then some (Out.done ((⟨0, 0, [], 0⟩ : As), 6, (⟨xh0_0_8h, (IntKind.i64.wrap (xh0_1_8h + 1))⟩ : Ax))) else some (Out.done ((⟨4, 0, (x21701.map (fun b => b)), 0⟩ : As), 0, (⟨xh0_0_8h, (IntKind.i64.wrap (xh0_1_8h + 1))⟩ : Ax)))) else (if a1 = 92 then (Option.bind (El K (⟨xh0_0_8h, (IntKind.i64.wrap (xh0_1_8h + 1))⟩ : Ax)) (fun (a2_0, a2_1, a2_2) => (if a2_1 ≠ 0 then some (Out.done ((⟨0, 0, [], 0⟩ : As), a2_1, a2_2)) else (if 0 ≤ a2_0 ∧ a2_0 < 256 then (if (x21701.length + ([(UInt8.ofNat (Int.toNat a2_0))] : List UInt8).length) * 1 ≤ 140737488355328 then Du.l8 K k a2_2.src a2_2.at_ (x21701 ++ ([(UInt8.ofNat (Int.toNat a2_0))] : List UInt8)) else none) else none)))) else (Option.bind ((if a1 ≥ 32 then some (decide (a1 ≤ 126)) else some false) : Option Bool) (fun xt55_49 => (if xt55_49 = true then (if 0 ≤ (IntKind.u8.wrap a1) ∧ (IntKind.u8.wrap a1) < 256 then (if (x21701.length + ([(UInt8.ofNat (Int.toNat (IntKind.u8.wrap a1)))] : List UInt8).length) * 1 ≤ 140737488355328 then Du.l8 K k xh0_0_8h (IntKind.i64.wrap (xh0_1_8h + 1)) (x21701 ++ ([(UInt8.ofNat (Int.toNat (IntKind.u8.wrap a1)))] : List UInt8)) else none) else none) else some (Out.done ((⟨0, 0, [], 0⟩ : As), 3, (⟨xh0_0_8h, (IntKind.i64.wrap (xh0_1_8h + 1))⟩ : Ax)))))))))))
def Du (K : Nat) (p0 : Ax) : Option (As × Int × Ax) := (obind (Du.l8 K K p0.src (IntKind.i64.wrap (p0.at_ + 1)) ([] : List UInt8) : Option (Out (As × Int × Ax) Unit)) (fun r => r) (fun _ => none))
theorem Du.body {Γ : Ent} {K : Nat} {p0 : Ax} {r : As × Int × Ax} (h : Du K p0 = some r) : AWp V P 67 100 Γ (Tryz.f102.body.getD .skip) (EndsE P V Tryz.f102 (.tup [.agg [.I r.1.Kind, .I r.1.At, .str r.1.Text, .I r.1.Int], .I r.2.1]) [(0, .raw [.str r.2.2.src, .I r.2.2.at_])]) ⟨args0 0 [.P 0], [(0, .raw (A6 p0))]⟩ := by
 unfold Du at h
 refine sg0 L 200 <| sg0 L 203 <| sg0 L 212 <| awp_block <| awp_turn (Turns.trans (Turns.kk [0, 2, 4] [0, 200]) (Turns.trans (Turns.no 4 9500 Tag.E3) (Turns.trans (Turns.kk [0, 2, 4] [0, 200, 9500]) (Turns.rr [(0, 0), (200, 21700), (9500, 21701)])))) ?_
 refine kp (S' := ⟨[(0, .P 0), (2, .P 21700), (4, .cv (.own .E3 21701))], [(0, .raw [.str p0.src, .I (IntKind.i64.wrap (p0.at_ + 1))]), (21700, .raw [.I 0, .I 0, .str [], .I 0]), (21701, .lst .E3 ([] : List UInt8))]⟩) ?_
 obtain ⟨o2, hp2, h⟩ := obind_some h
 refine awp_conseq (Q' := fun e S => False ∨ (e = .ret ∧ ∃ a, Out.done a = o2 ∧ EndsE P V Tryz.f102 (.tup [.agg [.I a.1.Kind, .I a.1.At, .str a.1.Text, .I a.1.Int], .I a.2.1]) [(0, .raw [.str a.2.2.src, .I a.2.2.at_])] .ret S)) (awp_loop (fun k S => ∃ xh0_0_8h : List UInt8, ∃ xh0_1_8h : Int, ∃ x21701 : List UInt8, S = ⟨[(0, .P 0), (2, .P 21700), (4, .cv (.own .E3 21701))], [(0, .raw [.str xh0_0_8h, .I xh0_1_8h]), (21700, .raw [.I 0, .I 0, .str [], .I 0]), (21701, .lst .E3 x21701)]⟩ ∧ Du.l8 K k xh0_0_8h xh0_1_8h x21701 = some o2) ?_ ⟨_, _, _, rfl, hp2⟩) ?_
 ·clear h hp2
  intro k S hS
  obtain ⟨xh0_0_8h, xh0_1_8h, x21701, rfl, h⟩ := hS
  cases k with
  | zero => cases h
  | succ k =>
  unfold Du.l8 at h
  refine awp_block <| awp_seq ?_
  obtain ⟨a1, h1, h⟩ := bind_some h
  refine rg L 214 [] [(1, .cv (.lit (.int .i32 a1)))] [] (plt (Cs.ok h1)) ?_
  refine sg0 L 218 <| awp_block <| sg0 L 227 ?_
  rcases ite_some h with ⟨c1, h⟩ | ⟨c1, h⟩
  ·refine tT c1 <| sg0 L 231 <| awp_turn (Turns.trans (Turns.kk [2, 3] [0, 21700]) (Turns.rr [(0, 0), (21700, 100)])) ?_
   refine awp_ret ?_
   cases h
   exact .inr ⟨rfl, _, rfl, er0⟩
  refine fF c1 <| sg0 L 235 ?_
  rcases ite_some h with ⟨c2, h⟩ | ⟨c2, h⟩
  ·refine tT c2 <| awp_seq <| sg0 L 239 ?_
   rcases ite_some h with ⟨c3, h⟩ | ⟨c3, h⟩
   ·refine tT c3 <| sg0 L 243 <| awp_turn (Turns.trans (Turns.kk [2, 3] [0, 21700]) (Turns.rr [(0, 0), (21700, 100)])) ?_
    refine awp_ret ?_
    cases h
    exact .inr ⟨rfl, _, rfl, er0⟩
   refine fF c3 <| awp_skip' <| sg0 L 247 <| awp_turn (Turns.trans (Turns.kk [2, 3] [0, 21700]) (Turns.rr [(0, 0), (21700, 100)])) ?_
   refine awp_ret ?_
   cases h
   exact .inr ⟨rfl, _, rfl, er0⟩
  refine fF c2 <| sg0 L 253 ?_
  rcases ite_some h with ⟨c4, h⟩ | ⟨c4, h⟩
  ·refine tT c4 <| awp_seq ?_
   obtain ⟨⟨a2_0, a2_1, a2_2⟩, h2, h⟩ := bind_some h
   dsimp only at h
   refine rg L 257 [] [] [(1, (ef0 (.tup [.cv (.lit (.int .u8 a2_0)), .I a2_1]) [(0, .raw (A6 a2_2))]))] (pl1 (El.okE h2)) ?_
   refine awp_seq <| sg0 L 265 ?_
   rcases ite_some h with ⟨c5, h⟩ | ⟨c5, h⟩
   ·refine tT c5 <| sg0 L 268 <| awp_turn (Turns.trans (Turns.kk [2, 3] [0, 21700]) (Turns.rr [(0, 0), (21700, 100)])) ?_
    refine awp_ret ?_
    cases h
    exact .inr ⟨rfl, _, rfl, er0⟩
   refine fF c5 <| awp_skip' ?_
   obtain ⟨g1, h⟩ := guard_some h
   obtain ⟨g2, h⟩ := guard_some h
   refine ar L 273 [] [] [] (cs := [0 ≤ a2_0, a2_0 < 256, (x21701.length + ([(UInt8.ofNat (Int.toNat a2_0))] : List UInt8).length) * 1 ≤ 140737488355328, True]) (S' := ⟨[(0, .P 0), (2, .P 21700), (4, .cv (.own .E3 21701))], [(0, .raw (A6 a2_2)), (21700, .raw [.I 0, .I 0, .str [], .I 0]), (21701, .lst .E3 (x21701 ++ ([(UInt8.ofNat (Int.toNat a2_0))] : List UInt8)))]⟩) (And.intro g1.1 (And.intro g1.2 (And.intro g2 trivial))) ?_
   exact ⟨k, Nat.lt_succ_self k, _, _, _, rfl, h⟩
  refine fF c4 ?_
  obtain ⟨o1, hp1, h⟩ := bind_some h
  refine awp_seq (awp_mono (Q' := fun e S => (e = .normal ∧ ∃ xt55_49 : Bool, S = ⟨[(0, .P 0), (2, .P 29800), (4, .cv (.own .E3 29801)), (5, .cv (.lit (.int .i32 a1))), (55, .B xt55_49)], [(0, .raw [.str xh0_0_8h, .I (IntKind.i64.wrap (xh0_1_8h + 1))]), (29800, .raw [.I 0, .I 0, .str [], .I 0]), (29801, .lst .E3 x21701)]⟩ ∧ xt55_49 = o1)) ?_ ?_)
  ·clear h
   replace h := hp1
   rcases ite_some h with ⟨c6, h⟩ | ⟨c6, h⟩
   ·refine awp_post (rg L 279 [(2, true)] [] [] (pl1 (decide_eq_true c6)) ⟨rfl, rfl⟩) (Turns.trans (Turns.kk [0, 2, 4, 5, 55] [0, 21700, 21701]) (Turns.trans (Turns.rr [(0, 0), (21700, 29800), (21701, 29801)]) (Turns.kp (S' := ⟨[(0, .P 0), (2, .P 29800), (4, .cv (.own .E3 29801)), (5, .cv (.lit (.int .i32 a1))), (55, .B (decide (a1 ≤ 126)))], [(0, .raw [.str xh0_0_8h, .I (IntKind.i64.wrap (xh0_1_8h + 1))]), (29800, .raw [.I 0, .I 0, .str [], .I 0]), (29801, .lst .E3 x21701)]⟩)))) ?_
    cases h
    exact ⟨rfl, _, rfl, rfl⟩
   refine awp_post (rg L 279 [(2, false)] [] [] (pl1 (decide_eq_false c6)) ⟨rfl, rfl⟩) (Turns.trans (Turns.kk [0, 2, 4, 5, 55] [0, 21700, 21701]) (Turns.trans (Turns.rr [(0, 0), (21700, 29800), (21701, 29801)]) (Turns.kp (S' := ⟨[(0, .P 0), (2, .P 29800), (4, .cv (.own .E3 29801)), (5, .cv (.lit (.int .i32 a1))), (55, .B false)], [(0, .raw [.str xh0_0_8h, .I (IntKind.i64.wrap (xh0_1_8h + 1))]), (29800, .raw [.I 0, .I 0, .str [], .I 0]), (29801, .lst .E3 x21701)]⟩)))) ?_
   cases h
   exact ⟨rfl, _, rfl, rfl⟩
  ·rintro e S ⟨rfl, xt55_49, rfl, rfl⟩
   rcases ite_some h with ⟨c7, h⟩ | ⟨c7, h⟩
   ·refine tt c7 ?_
    obtain ⟨g3, h⟩ := guard_some h
    obtain ⟨g4, h⟩ := guard_some h
    refine awp_post (rg L 287 [] [] [] (plc g3.1 (plc g3.2 (plc g4 (pl1 trivial)))) ⟨rfl, rfl⟩) (Turns.trans (Turns.kk [0, 2, 4] [0, 29800, 29801]) (Turns.trans (Turns.rr [(0, 0), (29800, 21700), (29801, 21701)]) (Turns.kp (S' := ⟨[(0, .P 0), (2, .P 21700), (4, .cv (.own .E3 21701))], [(0, .raw [.str xh0_0_8h, .I (IntKind.i64.wrap (xh0_1_8h + 1))]), (21700, .raw [.I 0, .I 0, .str [], .I 0]), (21701, .lst .E3 (x21701 ++ ([(UInt8.ofNat (Int.toNat (IntKind.u8.wrap a1)))] : List UInt8)))]⟩)))) ?_
    exact ⟨k, Nat.lt_succ_self k, _, _, _, rfl, h⟩
   refine fN c7 <| sg0 L 294 <| awp_turn (Turns.trans (Turns.kk [2, 3] [0, 29800]) (Turns.rr [(0, 0), (29800, 100)])) ?_
   refine awp_ret ?_
   cases h
   exact .inr ⟨rfl, _, rfl, er0⟩
 ·rintro e S (hf | ⟨rfl, a, rfl, hr⟩)
  ·exact hf.elim
  ·rcases h with ⟨_, e1, h⟩ | ⟨_, e1, h⟩
   ·have e2 := Out.done.inj e1
    subst e2
    subst h
    exact ⟨_, Turns.refl, hr⟩
   ·cases e1
theorem Du.okE {K : Nat} {p0 : Ax} {r : As × Int × Ax} (h : Du K p0 = some r) : ECall V P 102 [.P 0] [(0, .raw (A6 p0))] [0] (.tup [.agg [.I r.1.Kind, .I r.1.At, .str r.1.Text, .I r.1.Int], .I r.2.1]) [(0, .raw [.str r.2.2.src, .I r.2.2.at_])] :=
 eo (fn := Tryz.f102) (n := 67) (m := 100) fun Γ => Du.body h
def Es (K : Nat) (p0 : Ax) : Option (As × Int × Ax) := (Option.bind (((Option.bind (Cs K p0 0) (fun a1 => (Option.bind ((if a1 = 61 then some (decide (a1 = 61)) else (if a1 = 60 then some (decide (a1 = 60)) else (if a1 = 62 then some (decide (a1 = 62)) else some (decide (a1 = 33))))) : Option Bool) (fun xt10_11 => (if xt10_11 = true then (Option.bind (Cs K p0 1) (fun a2 => (if a2 = 61 then some 2 else (if a1 ≠ 33 then some 1 else some 0)))) else (if a1 = 40 then some 1 else (if a1 = 41 then some 1 else (if a1 = 123 then some 1 else (if a1 = 125 then some 1 else (if a1 = 91 then some 1 else (if a1 = 93 then some 1 else (if a1 = 44 then some 1 else (if a1 = 59 then some 1 else (if a1 = 46 then some 1 else (if a1 = 58 then some 1 else (if a1 = 43 then some 1 else (if a1 = 45 then some 1 else (if a1 = 42 then some 1 else (if a1 = 47 then some 1 else (if a1 = 37 then some 1 else some 0))))))))))))))))))))) : Option Int) (fun xt4_5 => (if xt4_5 = 0 then some ((⟨0, 0, [], 0⟩ : As), 3, p0) else (if (0 : Int) ≤ p0.at_ ∧ p0.at_ ≤ (IntKind.i64.wrap (p0.at_ + xt4_5)) ∧ (IntKind.i64.wrap (p0.at_ + xt4_5)) ≤ (p0.src.length : Int) then some ((⟨5, 0, (slc p0.src p0.at_ (IntKind.i64.wrap (p0.at_ + xt4_5))), 0⟩ : As), 0, (⟨p0.src, (IntKind.i64.wrap (p0.at_ + xt4_5))⟩ : Ax)) else none))))
theorem Es.body {Γ : Ent} {K : Nat} {p0 : Ax} {r : As × Int × Ax} (h : Es K p0 = some r) : AWp V P 64 100 Γ (Tryz.f103.body.getD .skip) (EndsE P V Tryz.f103 (.tup [.agg [.I r.1.Kind, .I r.1.At, .str r.1.Text, .I r.1.Int], .I r.2.1]) [(0, .raw [.str r.2.2.src, .I r.2.2.at_])]) ⟨args0 0 [.P 0], [(0, .raw (A6 p0))]⟩ := by
 unfold Es at h
 refine sg0 L 200 <| sg0 L 203 ?_
 obtain ⟨o2, hp2, h⟩ := bind_some h
 refine awp_seq (awp_mono (Q' := fun e S => (e = .normal ∧ ∃ xt4_5 : Int, S = ⟨[(0, .P 0), (2, .P 21000), (4, .I xt4_5)], [(0, .raw (A6 p0)), (21000, .raw [.I 0, .I 0, .str [], .I 0])]⟩ ∧ xt4_5 = o2)) ?_ ?_)
 ·clear h
  replace h := hp2
  refine awp_seq ?_
  obtain ⟨a1, h1, h⟩ := bind_some h
  refine rg L 205 [] [(1, .cv (.lit (.int .i32 a1)))] [] (plt (Cs.ok h1)) ?_
  refine sg0 L 209 <| awp_block ?_
  obtain ⟨o1, hp1, h⟩ := bind_some h
  refine awp_seq (awp_mono (Q' := fun e S => (e = .normal ∧ ∃ xt10_11 : Bool, S = ⟨[(0, .P 0), (2, .P 22200), (4, .I 0), (5, .cv (.lit (.int .i32 a1))), (9, .cv (.lit (.int .i32 a1))), (10, .B xt10_11)], [(0, .raw (A6 p0)), (22200, .raw [.I 0, .I 0, .str [], .I 0])]⟩ ∧ xt10_11 = o1)) ?_ ?_)
  ·clear h
   replace h := hp1
   refine sg0 L 211 ?_
   rcases ite_some h with ⟨c1, h⟩ | ⟨c1, h⟩
   ·refine tT c1 <| awp_turn (Turns.trans (Turns.kk [0, 2, 4, 5, 9, 10] [0, 200]) (Turns.rr [(0, 0), (200, 22200)])) ?_
    refine sk (S' := ⟨[(0, .P 0), (2, .P 22200), (4, .I 0), (5, .cv (.lit (.int .i32 a1))), (9, .cv (.lit (.int .i32 a1))), (10, .B (decide (a1 = 61)))], [(0, .raw (A6 p0)), (22200, .raw [.I 0, .I 0, .str [], .I 0])]⟩) ?_
    cases h
    exact ⟨rfl, _, rfl, rfl⟩
   refine fF c1 <| sg0 L 214 ?_
   rcases ite_some h with ⟨c2, h⟩ | ⟨c2, h⟩
   ·refine tT c2 <| awp_turn (Turns.trans (Turns.kk [0, 2, 4, 5, 9, 10] [0, 200]) (Turns.rr [(0, 0), (200, 22200)])) ?_
    refine sk (S' := ⟨[(0, .P 0), (2, .P 22200), (4, .I 0), (5, .cv (.lit (.int .i32 a1))), (9, .cv (.lit (.int .i32 a1))), (10, .B (decide (a1 = 60)))], [(0, .raw (A6 p0)), (22200, .raw [.I 0, .I 0, .str [], .I 0])]⟩) ?_
    cases h
    exact ⟨rfl, _, rfl, rfl⟩
   refine fF c2 <| sg0 L 217 ?_
   rcases ite_some h with ⟨c3, h⟩ | ⟨c3, h⟩
   ·refine tT c3 <| awp_turn (Turns.trans (Turns.kk [0, 2, 4, 5, 9, 10] [0, 200]) (Turns.rr [(0, 0), (200, 22200)])) ?_
    refine sk (S' := ⟨[(0, .P 0), (2, .P 22200), (4, .I 0), (5, .cv (.lit (.int .i32 a1))), (9, .cv (.lit (.int .i32 a1))), (10, .B (decide (a1 = 62)))], [(0, .raw (A6 p0)), (22200, .raw [.I 0, .I 0, .str [], .I 0])]⟩) ?_
    cases h
    exact ⟨rfl, _, rfl, rfl⟩
   refine fF c3 <| awp_post (rg0 L 220 ⟨rfl, rfl⟩) (Turns.trans (Turns.kk [0, 2, 4, 5, 9, 10] [0, 200]) (Turns.trans (Turns.rr [(0, 0), (200, 22200)]) (Turns.kp (S' := ⟨[(0, .P 0), (2, .P 22200), (4, .I 0), (5, .cv (.lit (.int .i32 a1))), (9, .cv (.lit (.int .i32 a1))), (10, .B (decide (a1 = 33)))], [(0, .raw (A6 p0)), (22200, .raw [.I 0, .I 0, .str [], .I 0])]⟩)))) ?_
   cases h
   exact ⟨rfl, _, rfl, rfl⟩
  ·rintro e S ⟨rfl, xt10_11, rfl, rfl⟩
   rcases ite_some h with ⟨c4, h⟩ | ⟨c4, h⟩
   ·refine tt c4 <| awp_seq ?_
    obtain ⟨a2, h2, h⟩ := bind_some h
    refine rg L 223 [] [(1, .cv (.lit (.int .i32 a2)))] [] (plt (Cs.ok h2)) ?_
    rcases ite_some h with ⟨c5, h⟩ | ⟨c5, h⟩
    ·refine tT c5 <| awp_post (rg0 L 227 ⟨rfl, rfl⟩) (Turns.trans (Turns.kk [0, 2, 4] [0, 22200]) (Turns.trans (Turns.rr [(0, 0), (22200, 21000)]) (Turns.kp (S' := ⟨[(0, .P 0), (2, .P 21000), (4, .I 2)], [(0, .raw (A6 p0)), (21000, .raw [.I 0, .I 0, .str [], .I 0])]⟩)))) ?_
     cases h
     exact ⟨rfl, _, rfl, rfl⟩
    refine fF c5 <| sg0 L 229 ?_
    rcases ite_some h with ⟨c6, h⟩ | ⟨c6, h⟩
    ·refine tT c6 <| awp_post (rg0 L 232 ⟨rfl, rfl⟩) (Turns.trans (Turns.kk [0, 2, 4] [0, 22200]) (Turns.trans (Turns.rr [(0, 0), (22200, 21000)]) (Turns.kp (S' := ⟨[(0, .P 0), (2, .P 21000), (4, .I 1)], [(0, .raw (A6 p0)), (21000, .raw [.I 0, .I 0, .str [], .I 0])]⟩)))) ?_
     cases h
     exact ⟨rfl, _, rfl, rfl⟩
    refine fF c6 <| awp_turn (Turns.trans (Turns.kk [0, 2, 4] [0, 22200]) (Turns.rr [(0, 0), (22200, 21000)])) ?_
    refine sk (S' := ⟨[(0, .P 0), (2, .P 21000), (4, .I 0)], [(0, .raw (A6 p0)), (21000, .raw [.I 0, .I 0, .str [], .I 0])]⟩) ?_
    cases h
    exact ⟨rfl, _, rfl, rfl⟩
   refine fN c4 <| awp_seq <| sg0 L 234 ?_
   rcases ite_some h with ⟨c7, h⟩ | ⟨c7, h⟩
   ·refine tT c7 <| awp_skip' <| tT c7 <| awp_post (rg0 L 279 ⟨rfl, rfl⟩) (Turns.trans (Turns.kk [0, 2, 4] [0, 22200]) (Turns.trans (Turns.rr [(0, 0), (22200, 21000)]) (Turns.kp (S' := ⟨[(0, .P 0), (2, .P 21000), (4, .I 1)], [(0, .raw (A6 p0)), (21000, .raw [.I 0, .I 0, .str [], .I 0])]⟩)))) ?_
    cases h
    exact ⟨rfl, _, rfl, rfl⟩
   refine fF c7 <| sg0 L 237 ?_
   rcases ite_some h with ⟨c8, h⟩ | ⟨c8, h⟩
   ·refine tT c8 <| awp_skip' <| tT c8 <| awp_post (rg0 L 279 ⟨rfl, rfl⟩) (Turns.trans (Turns.kk [0, 2, 4] [0, 22200]) (Turns.trans (Turns.rr [(0, 0), (22200, 21000)]) (Turns.kp (S' := ⟨[(0, .P 0), (2, .P 21000), (4, .I 1)], [(0, .raw (A6 p0)), (21000, .raw [.I 0, .I 0, .str [], .I 0])]⟩)))) ?_
    cases h
    exact ⟨rfl, _, rfl, rfl⟩
   refine fF c8 <| sg0 L 240 ?_
   rcases ite_some h with ⟨c9, h⟩ | ⟨c9, h⟩
   ·refine tT c9 <| awp_skip' <| tT c9 <| awp_post (rg0 L 279 ⟨rfl, rfl⟩) (Turns.trans (Turns.kk [0, 2, 4] [0, 22200]) (Turns.trans (Turns.rr [(0, 0), (22200, 21000)]) (Turns.kp (S' := ⟨[(0, .P 0), (2, .P 21000), (4, .I 1)], [(0, .raw (A6 p0)), (21000, .raw [.I 0, .I 0, .str [], .I 0])]⟩)))) ?_
    cases h
    exact ⟨rfl, _, rfl, rfl⟩
   refine fF c9 <| sg0 L 243 ?_
   rcases ite_some h with ⟨c10, h⟩ | ⟨c10, h⟩
   ·refine tT c10 <| awp_skip' <| tT c10 <| awp_post (rg0 L 279 ⟨rfl, rfl⟩) (Turns.trans (Turns.kk [0, 2, 4] [0, 22200]) (Turns.trans (Turns.rr [(0, 0), (22200, 21000)]) (Turns.kp (S' := ⟨[(0, .P 0), (2, .P 21000), (4, .I 1)], [(0, .raw (A6 p0)), (21000, .raw [.I 0, .I 0, .str [], .I 0])]⟩)))) ?_
    cases h
    exact ⟨rfl, _, rfl, rfl⟩
   refine fF c10 <| sg0 L 246 ?_
   rcases ite_some h with ⟨c11, h⟩ | ⟨c11, h⟩
   ·refine tT c11 <| awp_skip' <| tT c11 <| awp_post (rg0 L 279 ⟨rfl, rfl⟩) (Turns.trans (Turns.kk [0, 2, 4] [0, 22200]) (Turns.trans (Turns.rr [(0, 0), (22200, 21000)]) (Turns.kp (S' := ⟨[(0, .P 0), (2, .P 21000), (4, .I 1)], [(0, .raw (A6 p0)), (21000, .raw [.I 0, .I 0, .str [], .I 0])]⟩)))) ?_
    cases h
    exact ⟨rfl, _, rfl, rfl⟩
   refine fF c11 <| sg0 L 249 ?_
   rcases ite_some h with ⟨c12, h⟩ | ⟨c12, h⟩
   ·refine tT c12 <| awp_skip' <| tT c12 <| awp_post (rg0 L 279 ⟨rfl, rfl⟩) (Turns.trans (Turns.kk [0, 2, 4] [0, 22200]) (Turns.trans (Turns.rr [(0, 0), (22200, 21000)]) (Turns.kp (S' := ⟨[(0, .P 0), (2, .P 21000), (4, .I 1)], [(0, .raw (A6 p0)), (21000, .raw [.I 0, .I 0, .str [], .I 0])]⟩)))) ?_
    cases h
    exact ⟨rfl, _, rfl, rfl⟩
   refine fF c12 <| sg0 L 252 ?_
   rcases ite_some h with ⟨c13, h⟩ | ⟨c13, h⟩
   ·refine tT c13 <| awp_skip' <| tT c13 <| awp_post (rg0 L 279 ⟨rfl, rfl⟩) (Turns.trans (Turns.kk [0, 2, 4] [0, 22200]) (Turns.trans (Turns.rr [(0, 0), (22200, 21000)]) (Turns.kp (S' := ⟨[(0, .P 0), (2, .P 21000), (4, .I 1)], [(0, .raw (A6 p0)), (21000, .raw [.I 0, .I 0, .str [], .I 0])]⟩)))) ?_
    cases h
    exact ⟨rfl, _, rfl, rfl⟩
   refine fF c13 <| sg0 L 255 ?_
   rcases ite_some h with ⟨c14, h⟩ | ⟨c14, h⟩
   ·refine tT c14 <| awp_skip' <| tT c14 <| awp_post (rg0 L 279 ⟨rfl, rfl⟩) (Turns.trans (Turns.kk [0, 2, 4] [0, 22200]) (Turns.trans (Turns.rr [(0, 0), (22200, 21000)]) (Turns.kp (S' := ⟨[(0, .P 0), (2, .P 21000), (4, .I 1)], [(0, .raw (A6 p0)), (21000, .raw [.I 0, .I 0, .str [], .I 0])]⟩)))) ?_
    cases h
    exact ⟨rfl, _, rfl, rfl⟩
   refine fF c14 <| sg0 L 258 ?_
   rcases ite_some h with ⟨c15, h⟩ | ⟨c15, h⟩
   ·refine tT c15 <| awp_skip' <| tT c15 <| awp_post (rg0 L 279 ⟨rfl, rfl⟩) (Turns.trans (Turns.kk [0, 2, 4] [0, 22200]) (Turns.trans (Turns.rr [(0, 0), (22200, 21000)]) (Turns.kp (S' := ⟨[(0, .P 0), (2, .P 21000), (4, .I 1)], [(0, .raw (A6 p0)), (21000, .raw [.I 0, .I 0, .str [], .I 0])]⟩)))) ?_
    cases h
    exact ⟨rfl, _, rfl, rfl⟩
   refine fF c15 <| sg0 L 261 ?_
   rcases ite_some h with ⟨c16, h⟩ | ⟨c16, h⟩
   ·refine tT c16 <| awp_skip' <| tT c16 <| awp_post (rg0 L 279 ⟨rfl, rfl⟩) (Turns.trans (Turns.kk [0, 2, 4] [0, 22200]) (Turns.trans (Turns.rr [(0, 0), (22200, 21000)]) (Turns.kp (S' := ⟨[(0, .P 0), (2, .P 21000), (4, .I 1)], [(0, .raw (A6 p0)), (21000, .raw [.I 0, .I 0, .str [], .I 0])]⟩)))) ?_
    cases h
    exact ⟨rfl, _, rfl, rfl⟩
   refine fF c16 <| sg0 L 264 ?_
   rcases ite_some h with ⟨c17, h⟩ | ⟨c17, h⟩
   ·refine tT c17 <| awp_skip' <| tT c17 <| awp_post (rg0 L 279 ⟨rfl, rfl⟩) (Turns.trans (Turns.kk [0, 2, 4] [0, 22200]) (Turns.trans (Turns.rr [(0, 0), (22200, 21000)]) (Turns.kp (S' := ⟨[(0, .P 0), (2, .P 21000), (4, .I 1)], [(0, .raw (A6 p0)), (21000, .raw [.I 0, .I 0, .str [], .I 0])]⟩)))) ?_
    cases h
    exact ⟨rfl, _, rfl, rfl⟩
   refine fF c17 <| sg0 L 267 ?_
   rcases ite_some h with ⟨c18, h⟩ | ⟨c18, h⟩
   ·refine tT c18 <| awp_skip' <| tT c18 <| awp_post (rg0 L 279 ⟨rfl, rfl⟩) (Turns.trans (Turns.kk [0, 2, 4] [0, 22200]) (Turns.trans (Turns.rr [(0, 0), (22200, 21000)]) (Turns.kp (S' := ⟨[(0, .P 0), (2, .P 21000), (4, .I 1)], [(0, .raw (A6 p0)), (21000, .raw [.I 0, .I 0, .str [], .I 0])]⟩)))) ?_
    cases h
    exact ⟨rfl, _, rfl, rfl⟩
   refine fF c18 <| sg0 L 270 ?_
   rcases ite_some h with ⟨c19, h⟩ | ⟨c19, h⟩
   ·refine tT c19 <| awp_skip' <| tT c19 <| awp_post (rg0 L 279 ⟨rfl, rfl⟩) (Turns.trans (Turns.kk [0, 2, 4] [0, 22200]) (Turns.trans (Turns.rr [(0, 0), (22200, 21000)]) (Turns.kp (S' := ⟨[(0, .P 0), (2, .P 21000), (4, .I 1)], [(0, .raw (A6 p0)), (21000, .raw [.I 0, .I 0, .str [], .I 0])]⟩)))) ?_
    cases h
    exact ⟨rfl, _, rfl, rfl⟩
   refine fF c19 <| sg0 L 273 ?_
   rcases ite_some h with ⟨c20, h⟩ | ⟨c20, h⟩
   ·refine tT c20 <| awp_skip' <| tT c20 <| awp_post (rg0 L 279 ⟨rfl, rfl⟩) (Turns.trans (Turns.kk [0, 2, 4] [0, 22200]) (Turns.trans (Turns.rr [(0, 0), (22200, 21000)]) (Turns.kp (S' := ⟨[(0, .P 0), (2, .P 21000), (4, .I 1)], [(0, .raw (A6 p0)), (21000, .raw [.I 0, .I 0, .str [], .I 0])]⟩)))) ?_
    cases h
    exact ⟨rfl, _, rfl, rfl⟩
   refine fF c20 <| rg0 L 276 ?_
   rcases ite_some h with ⟨c21, h⟩ | ⟨c21, h⟩
   ·refine tT c21 <| awp_post (rg0 L 279 ⟨rfl, rfl⟩) (Turns.trans (Turns.kk [0, 2, 4] [0, 22200]) (Turns.trans (Turns.rr [(0, 0), (22200, 21000)]) (Turns.kp (S' := ⟨[(0, .P 0), (2, .P 21000), (4, .I 1)], [(0, .raw (A6 p0)), (21000, .raw [.I 0, .I 0, .str [], .I 0])]⟩)))) ?_
    cases h
    exact ⟨rfl, _, rfl, rfl⟩
   refine fF c21 <| awp_turn (Turns.trans (Turns.kk [0, 2, 4] [0, 22200]) (Turns.rr [(0, 0), (22200, 21000)])) ?_
   refine sk (S' := ⟨[(0, .P 0), (2, .P 21000), (4, .I 0)], [(0, .raw (A6 p0)), (21000, .raw [.I 0, .I 0, .str [], .I 0])]⟩) ?_
   cases h
   exact ⟨rfl, _, rfl, rfl⟩
 ·rintro e S ⟨rfl, xt4_5, rfl, rfl⟩
  refine awp_seq <| sg0 L 281 ?_
  rcases ite_some h with ⟨c22, h⟩ | ⟨c22, h⟩
  ·refine tT c22 <| sg0 L 284 <| awp_turn (Turns.trans (Turns.kk [2, 3] [0, 21000]) (Turns.rr [(0, 0), (21000, 100)])) ?_
   refine awp_ret ?_
   cases h
   exact er0
  refine fF c22 <| awp_skip' <| awp_seq ?_
  obtain ⟨g1, h⟩ := guard_some h
  refine rd L mixed 288 [] [] [] [] 16 (plc g1.1 (plc g1.2.1 (pl1 g1.2.2))) ?_
  refine sg0 L 305 <| sg0 L 315 <| awp_turn (Turns.trans (Turns.kk [2, 3] [0, 21000]) (Turns.rr [(0, 0), (21000, 100)])) ?_
  refine awp_ret ?_
  cases h
  exact er0
theorem Es.okE {K : Nat} {p0 : Ax} {r : As × Int × Ax} (h : Es K p0 = some r) : ECall V P 103 [.P 0] [(0, .raw (A6 p0))] [0] (.tup [.agg [.I r.1.Kind, .I r.1.At, .str r.1.Text, .I r.1.Int], .I r.2.1]) [(0, .raw [.str r.2.2.src, .I r.2.2.at_])] :=
 eo (fn := Tryz.f103) (n := 64) (m := 100) fun Γ => Es.body h
def Ep (K : Nat) (p0 : Ax) : Option (As × Int × Ax) := (Option.bind (Cs K p0 0) (fun a1 => (Option.bind (Ew K a1) (fun a2 => (if a2 = true then (Option.bind (Eq K p0) (fun (a3_0, a3_1, a3_2) => some (a3_0, a3_1, a3_2))) else (Option.bind (Fb K a1) (fun a4 => (if a4 = true then (Option.bind (Ek K p0) (fun (a5_0, a5_1, a5_2) => some (a5_0, a5_1, a5_2))) else (if a1 = 34 then (Option.bind (Du K p0) (fun (a6_0, a6_1, a6_2) => some (a6_0, a6_1, a6_2))) else (Option.bind (Es K p0) (fun (a7_0, a7_1, a7_2) => some (a7_0, a7_1, a7_2))))))))))))
theorem Ep.body {Γ : Ent} {K : Nat} {p0 : Ax} {r : As × Int × Ax} (h : Ep K p0 = some r) : AWp V P 32 100 Γ (Tryz.f72.body.getD .skip) (EndsE P V Tryz.f72 (.tup [.agg [.I r.1.Kind, .I r.1.At, .str r.1.Text, .I r.1.Int], .I r.2.1]) [(0, .raw [.str r.2.2.src, .I r.2.2.at_])]) ⟨args0 0 [.P 0], [(0, .raw (A6 p0))]⟩ := by
 unfold Ep at h
 refine sg0 L 200 <| awp_seq <| awp_seq ?_
 obtain ⟨a1, h1, h⟩ := bind_some h
 refine rg L 203 [] [(1, .cv (.lit (.int .i32 a1)))] [] (plt (Cs.ok h1)) ?_
 refine awp_block <| awp_seq ?_
 obtain ⟨a2, h2, h⟩ := bind_some h
 refine rg L 207 [] [(1, .B a2)] [] (plt (Ew.ok h2)) ?_
 rcases ite_some h with ⟨c1, h⟩ | ⟨c1, h⟩
 ·refine tt c1 <| awp_seq ?_
  obtain ⟨⟨a3_0, a3_1, a3_2⟩, h3, h⟩ := bind_some h
  dsimp only at h
  refine rg L 211 [] [] [(1, (ef0 (.tup [.agg (Ea a3_0), .I a3_1]) [(0, .raw (A6 a3_2))]))] (pl1 (Eq.okE h3)) ?_
  refine awp_turn (Turns.trans (Turns.kk [2, 3] [0, 200]) (Turns.rr [(0, 0), (200, 100)])) ?_
  refine awp_ret ?_
  cases h
  exact er0
 refine fN c1 <| awp_seq ?_
 obtain ⟨a4, h4, h⟩ := bind_some h
 refine rg L 218 [] [(1, .B a4)] [] (plt (Fb.ok h4)) ?_
 rcases ite_some h with ⟨c2, h⟩ | ⟨c2, h⟩
 ·refine tt c2 <| awp_seq ?_
  obtain ⟨⟨a5_0, a5_1, a5_2⟩, h5, h⟩ := bind_some h
  dsimp only at h
  refine rg L 222 [] [] [(1, (ef0 (.tup [.agg (Ea a5_0), .I a5_1]) [(0, .raw (A6 a5_2))]))] (pl1 (Ek.okE h5)) ?_
  refine awp_turn (Turns.trans (Turns.kk [2, 3] [0, 200]) (Turns.rr [(0, 0), (200, 100)])) ?_
  refine awp_ret ?_
  cases h
  exact er0
 refine fN c2 <| sg0 L 229 ?_
 rcases ite_some h with ⟨c3, h⟩ | ⟨c3, h⟩
 ·refine tT c3 <| awp_seq ?_
  obtain ⟨⟨a6_0, a6_1, a6_2⟩, h6, h⟩ := bind_some h
  dsimp only at h
  refine rg L 233 [] [] [(1, (ef0 (.tup [.agg (Ea a6_0), .I a6_1]) [(0, .raw (A6 a6_2))]))] (pl1 (Du.okE h6)) ?_
  refine awp_turn (Turns.trans (Turns.kk [2, 3] [0, 200]) (Turns.rr [(0, 0), (200, 100)])) ?_
  refine awp_ret ?_
  cases h
  exact er0
 refine fF c3 <| awp_skip' <| awp_seq ?_
 obtain ⟨⟨a7_0, a7_1, a7_2⟩, h7, h⟩ := bind_some h
 dsimp only at h
 refine rg L 240 [] [] [(1, (ef0 (.tup [.agg (Ea a7_0), .I a7_1]) [(0, .raw (A6 a7_2))]))] (pl1 (Es.okE h7)) ?_
 refine awp_turn (Turns.trans (Turns.kk [2, 3] [0, 200]) (Turns.rr [(0, 0), (200, 100)])) ?_
 refine awp_ret ?_
 cases h
 exact er0
theorem Ep.okE {K : Nat} {p0 : Ax} {r : As × Int × Ax} (h : Ep K p0 = some r) : ECall V P 72 [.P 0] [(0, .raw (A6 p0))] [0] (.tup [.agg [.I r.1.Kind, .I r.1.At, .str r.1.Text, .I r.1.Int], .I r.2.1]) [(0, .raw [.str r.2.2.src, .I r.2.2.at_])] :=
 eo (fn := Tryz.f72) (n := 32) (m := 100) fun Γ => Ep.body h
def E1.l16 (K : Nat) (p0 : List UInt8) : Nat → (List UInt8) → Int → (List As) → Option (Out ((List As) × Int × Int) Unit)
 | 0, _, _, _ => none
 | k + 1, x23300_0, x23300_1, x23301 => (Option.bind (Dw K (⟨x23300_0, x23300_1⟩ : Ax)) (fun (a1_0, a1_1) => (if a1_1.at_ ≥ (p0.length : Int) then (if (x23301.length + ([(⟨0, a1_1.at_, [], 0⟩ : As)] : List As).length) * 40 ≤ 140737488355328 then some (Out.done ((x23301 ++ ([(⟨0, a1_1.at_, [], 0⟩ : As)] : List As)), 0, 0)) else none) else (Option.bind (Ep K a1_1) (fun (a2_0, a2_1, a2_2) => (if a2_1 ≠ 0 then some (Out.done (([] : List As), a1_1.at_, a2_1)) else (if (x23301.length + ([(⟨a2_0.Kind, a1_1.at_, a2_0.Text, a2_0.Int⟩ : As)] : List As).length) * 40 ≤ 140737488355328 then E1.l16 K p0 k a2_2.src a2_2.at_ (x23301 ++ ([(⟨a2_0.Kind, a1_1.at_, a2_0.Text, a2_0.Int⟩ : As)] : List As)) else none)))))))
def E1 (K : Nat) (p0 : List UInt8) : Option ((List As) × Int × Int) := (if (p0.length : Int) > 16384 then some (([] : List As), 0, 6) else (obind (E1.l16 K p0 K p0 0 ([] : List As) : Option (Out ((List As) × Int × Int) Unit)) (fun r => r) (fun _ => none)))
theorem E1.body {Γ : Ent} {K : Nat} {p0 : List UInt8} {r : (List As) × Int × Int} (h : E1 K p0 = some r) : AWp V P 46 100 Γ (Tryz.f40.body.getD .skip) (EndsE P V Tryz.f40 (.tup [.cv (.ro .Am r.1), .I r.2.1, .I r.2.2]) []) ⟨args0 0 [.cv (.str p0)], []⟩ := by
 unfold E1 at h
 refine sg0 L 200 <| awp_seq <| sg0 L 204 ?_
 rcases ite_some h with ⟨c1, h⟩ | ⟨c1, h⟩
 ·refine tT c1 <| sg0 L 208 <| awp_ret ?_
  cases h
  exact er0
 refine fF c1 <| awp_skip' <| sg0 L 212 <| sg0 L 217 <| awp_block <| awp_turn (Turns.trans (Turns.kk [0, 5, 6] [214]) (Turns.trans (Turns.no 6 9500 Tag.Am) (Turns.trans (Turns.kk [0, 5, 6] [214, 9500]) (Turns.rr [(214, 23300), (9500, 23301)])))) ?_
 refine kp (S' := ⟨[(0, .cv (.str p0)), (5, .P 23300), (6, .cv (.own .Am 23301))], [(23300, .raw [.str p0, .I 0]), (23301, .lst .Am ([] : List As))]⟩) ?_
 obtain ⟨o1, hp1, h⟩ := obind_some h
 refine awp_conseq (Q' := fun e S => False ∨ (e = .ret ∧ ∃ a, Out.done a = o1 ∧ EndsE P V Tryz.f40 (.tup [.cv (.ro .Am a.1), .I a.2.1, .I a.2.2]) [] .ret S)) (awp_loop (fun k S => ∃ x23300_0 : List UInt8, ∃ x23300_1 : Int, ∃ x23301 : List As, S = ⟨[(0, .cv (.str p0)), (5, .P 23300), (6, .cv (.own .Am 23301))], [(23300, .raw [.str x23300_0, .I x23300_1]), (23301, .lst .Am x23301)]⟩ ∧ E1.l16 K p0 k x23300_0 x23300_1 x23301 = some o1) ?_ ⟨_, _, _, rfl, hp1⟩) ?_
 ·clear h hp1
  intro k S hS
  obtain ⟨x23300_0, x23300_1, x23301, rfl, h⟩ := hS
  cases k with
  | zero => cases h
  | succ k =>
  unfold E1.l16 at h
  refine awp_block <| awp_seq ?_
  obtain ⟨⟨a1_0, a1_1⟩, h1, h⟩ := bind_some h
  dsimp only at h
  refine rg L 219 [] [] [(1, (ef [0] [0] (.cv (.str a1_0)) [(0, .raw (A6 a1_1))] [(0, 23300)]))] (pl1 (Dw.okE h1)) ?_
  refine sg0 L 222 <| awp_seq <| sg0 L 228 ?_
  rcases ite_some h with ⟨c2, h⟩ | ⟨c2, h⟩
  ·refine tT c2 <| awp_seq ?_
   obtain ⟨g1, h⟩ := guard_some h
   refine rg L 233 [] [] [] (plt g1) ?_
   refine awp_turn (Turns.trans (Turns.kk [2, 3, 4] [23301]) (Turns.fz 23301)) ?_
   refine awp_ret ?_
   cases h
   exact .inr ⟨rfl, _, rfl, er0⟩
  refine fF c2 <| awp_skip' <| awp_seq ?_
  obtain ⟨⟨a2_0, a2_1, a2_2⟩, h2, h⟩ := bind_some h
  dsimp only at h
  refine rg L 242 [] [] [(1, (ef [0] [0] (.tup [.agg (Ea a2_0), .I a2_1]) [(0, .raw (A6 a2_2))] [(0, 23300)]))] (pl1 (Ep.okE h2)) ?_
  refine awp_seq <| sg0 L 251 ?_
  rcases ite_some h with ⟨c3, h⟩ | ⟨c3, h⟩
  ·refine tT c3 <| sg0 L 254 <| awp_ret ?_
   cases h
   exact .inr ⟨rfl, _, rfl, er0⟩
  refine fF c3 <| awp_skip' <| sg0 L 260 ?_
  obtain ⟨g2, h⟩ := guard_some h
  refine ar L 264 [] [] [] (cs := [(x23301.length + ([(⟨a2_0.Kind, a1_1.at_, a2_0.Text, a2_0.Int⟩ : As)] : List As).length) * 40 ≤ 140737488355328, True]) (S' := ⟨[(0, .cv (.str p0)), (5, .P 23300), (6, .cv (.own .Am 23301))], [(23300, .raw (A6 a2_2)), (23301, .lst .Am (x23301 ++ ([(⟨a2_0.Kind, a1_1.at_, a2_0.Text, a2_0.Int⟩ : As)] : List As)))]⟩) (And.intro g2 trivial) ?_
  exact ⟨k, Nat.lt_succ_self k, _, _, _, rfl, h⟩
 ·rintro e S (hf | ⟨rfl, a, rfl, hr⟩)
  ·exact hf.elim
  ·rcases h with ⟨_, e1, h⟩ | ⟨_, e1, h⟩
   ·have e2 := Out.done.inj e1
    subst e2
    subst h
    exact ⟨_, Turns.refl, hr⟩
   ·cases e1
theorem E1.ok {K : Nat} {p0 : List UInt8} {r : (List As) × Int × Int} (h : E1 K p0 = some r) : PCall V P 40 [.cv (.str p0)] (.tup [.cv (.ro .Am r.1), .I r.2.1, .I r.2.2]) := ECall.pcall (eo (fn := Tryz.f40) (n := 46) (m := 100) fun Γ => E1.body h) (by kernel_rfl)
def Bx (K : Nat) (p0 : Ab) : Option As := (if (0 : Int) ≤ (if (IntKind.i64.wrap ((p0.l.length : Int) - 1)) < p0.i then (IntKind.i64.wrap ((p0.l.length : Int) - 1)) else p0.i) ∧ ((if (IntKind.i64.wrap ((p0.l.length : Int) - 1)) < p0.i then (IntKind.i64.wrap ((p0.l.length : Int) - 1)) else p0.i) : Int) < (p0.l.length : Int) then some ((p0.l.getD (Int.toNat (if (IntKind.i64.wrap ((p0.l.length : Int) - 1)) < p0.i then (IntKind.i64.wrap ((p0.l.length : Int) - 1)) else p0.i)) D2)) else none)
theorem Bx.body {Γ : Ent} {K : Nat} {p0 : Ab} {r : As} (h : Bx K p0 = some r) : AWp V P 20 100 Γ (Tryz.f42.body.getD .skip) (EndsE P V Tryz.f42 (.agg [.I r.Kind, .I r.At, .str r.Text, .I r.Int]) []) ⟨args0 0 [.cv (.pcs (Af p0) 0)], []⟩ := by
 unfold Bx at h
 refine sg0 L 200 <| awp_seq ?_
 obtain ⟨g1, h⟩ := guard_some h
 refine rd L mixed 202 [] [] [] [200] 18 (pl2 g1.1 g1.2) ?_
 refine awp_turn (Turns.trans (Turns.kk [2] [200]) (Turns.rr [(200, 100)])) ?_
 refine awp_ret ?_
 cases h
 exact er0
theorem Bx.ok {K : Nat} {p0 : Ab} {r : As} (h : Bx K p0 = some r) : PCall V P 42 [.cv (.pcs (Af p0) 0)] (.agg [.I r.Kind, .I r.At, .str r.Text, .I r.Int]) := ECall.pcall (eo (fn := Tryz.f42) (n := 20) (m := 100) fun Γ => Bx.body h) (by kernel_rfl)
def Ec (K : Nat) (p0 : Ab) (p1 : List UInt8) : Option Bool := (Option.bind (Bx K p0) (fun a1 => (if a1.Kind = 2 then some (decide (a1.Text = p1)) else (if a1.Kind = 5 then some (decide (a1.Text = p1)) else some false))))
theorem Ec.body {Γ : Ent} {K : Nat} {p0 : Ab} {p1 : List UInt8} {r : Bool} (h : Ec K p0 p1 = some r) : AWp V P 22 100 Γ (Tryz.f73.body.getD .skip) (EndsE P V Tryz.f73 (.B r) []) ⟨args0 0 [.cv (.pcs (Af p0) 0), .cv (.str p1)], []⟩ := by
 unfold Ec at h
 refine sg0 L 200 <| awp_seq ?_
 obtain ⟨a1, h1, h⟩ := bind_some h
 refine rg L 202 [] [(1, .agg (Ea a1))] [] (plt (Bx.ok h1)) ?_
 refine awp_seq ?_
 rcases ite_some h with ⟨c1, h⟩ | ⟨c1, h⟩
 ·refine rg L 207 [(3, true)] [] [] (pl1 (decide_eq_true c1)) ?_
  refine awp_ret ?_
  cases h
  exact er0
 rcases ite_some h with ⟨c2, h⟩ | ⟨c2, h⟩
 ·refine rg L 207 [(3, false), (8, true)] [] [] (pl2 (decide_eq_false c1) (decide_eq_true c2)) ?_
  refine awp_ret ?_
  cases h
  exact er0
 refine rg L 207 [(3, false), (8, false)] [] [] (pl2 (decide_eq_false c1) (decide_eq_false c2)) ?_
 refine awp_ret ?_
 cases h
 exact er0
theorem Ec.ok {K : Nat} {p0 : Ab} {p1 : List UInt8} {r : Bool} (h : Ec K p0 p1 = some r) : PCall V P 73 [.cv (.pcs (Af p0) 0), .cv (.str p1)] (.B r) := ECall.pcall (eo (fn := Tryz.f73) (n := 22) (m := 100) fun Γ => Ec.body h) (by kernel_rfl)
def Ao (K : Nat) (p0 : List UInt8) (p1 : Ab) : Option (Bool × Ab) := (Option.bind (Ec K p1 p0) (fun a1 => (if a1 = true then some (true, (⟨p1.l, (IntKind.i64.wrap (p1.i + 1))⟩ : Ab)) else some (false, p1))))
theorem Ao.body {Γ : Ent} {K : Nat} {p0 : List UInt8} {p1 : Ab} {r : Bool × Ab} (h : Ao K p0 p1 = some r) : AWp V P 16 100 Γ (Tryz.f44.body.getD .skip) (EndsE P V Tryz.f44 (.B r.1) [(0, .raw [.ro .Am r.2.l, .I r.2.i])]) ⟨args0 0 [.P 0, .cv (.str p0)], [(0, .raw (Af p1))]⟩ := by
 unfold Ao at h
 refine sg0 L 200 <| awp_seq <| awp_seq ?_
 obtain ⟨a1, h1, h⟩ := bind_some h
 refine rg L 202 [] [(2, .B a1)] [] (plt (Ec.ok h1)) ?_
 rcases ite_some h with ⟨c1, h⟩ | ⟨c1, h⟩
 ·refine ff (b := (!a1)) (congrArg Bool.not (c1)) ?_
  refine awp_skip' <| sg0 L 209 <| sg0 L 218 <| awp_ret ?_
  cases h
  exact er0
 refine tt (b := (!a1)) (congrArg Bool.not (eq_false_of_ne_true c1)) ?_
 refine sg0 L 207 <| awp_ret ?_
 cases h
 exact er0
theorem Ao.okE {K : Nat} {p0 : List UInt8} {p1 : Ab} {r : Bool × Ab} (h : Ao K p0 p1 = some r) : ECall V P 44 [.P 0, .cv (.str p0)] [(0, .raw (Af p1))] [0] (.B r.1) [(0, .raw [.ro .Am r.2.l, .I r.2.i])] :=
 eo (fn := Tryz.f44) (n := 16) (m := 100) fun Γ => Ao.body h
def Bs (K : Nat) (p0 : Ab) : Option Int := (Option.bind (Bx K p0) (fun a1 => some a1.At))
def Bs.rep (p0 : Ab) : Int → Outc T
 | v0 => .pan (ofi 49 v0)
def Bs.post (p0 : Ab) : Int → List (Nat × Blk T)
 | v0 => []
theorem Bs.body {Γ : Ent} {K : Nat} {p0 : Ab} {r : Int} (h : Bs K p0 = some r) : AWp V P 7 100 Γ (Tryz.f43.body.getD .skip) (EndsX P V Tryz.f43 (Bs.rep p0 r) (Bs.post p0 r)) ⟨args0 0 [.P 0], [(0, .raw (Af p0))]⟩ := by
 unfold Bs at h
 obtain ⟨a1, h1, h⟩ := bind_some h
 refine qn L 200 [] [(1, .agg (Ea a1))] [] 5 (ef [] [] (.tup []) [] []) (ofi 49 a1.At) (plc (Bx.ok h1) (plc trivial (pl1 (show (ofi 49 a1.At) = (ofi 49 a1.At) from rfl)))) ?_
 cases h
 exact rfl
theorem Bs.okE {K : Nat} {p0 : Ab} {r : Int} (h : Bs K p0 = some r) : XCall V P 43 [.P 0] [(0, .raw (Af p0))] [0] (Bs.post p0 r) (Bs.rep p0 r) :=
 xo (fn := Tryz.f43) (n := 7) (m := 100) fun Γ => Bs.body h
def D5 (K : Nat) (p0 : Ab) : Option (As × Ab) := (Option.bind (Bx K p0) (fun a1 => some (a1, (⟨p0.l, (IntKind.i64.wrap (p0.i + 1))⟩ : Ab))))
theorem D5.body {Γ : Ent} {K : Nat} {p0 : Ab} {r : As × Ab} (h : D5 K p0 = some r) : AWp V P 14 100 Γ (Tryz.f74.body.getD .skip) (EndsE P V Tryz.f74 (.agg [.I r.1.Kind, .I r.1.At, .str r.1.Text, .I r.1.Int]) [(0, .raw [.ro .Am r.2.l, .I r.2.i])]) ⟨args0 0 [.P 0], [(0, .raw (Af p0))]⟩ := by
 unfold D5 at h
 refine sg0 L 200 <| awp_seq ?_
 obtain ⟨a1, h1, h⟩ := bind_some h
 refine rg L 202 [] [(1, .agg (Ea a1))] [] (plt (Bx.ok h1)) ?_
 refine sg0 L 207 <| sg0 L 216 <| awp_turn (Turns.trans (Turns.kk [2] [0, 200]) (Turns.rr [(0, 0), (200, 100)])) ?_
 refine awp_ret ?_
 cases h
 exact er0
theorem D5.okE {K : Nat} {p0 : Ab} {r : As × Ab} (h : D5 K p0 = some r) : ECall V P 74 [.P 0] [(0, .raw (Af p0))] [0] (.agg [.I r.1.Kind, .I r.1.At, .str r.1.Text, .I r.1.Int]) [(0, .raw [.ro .Am r.2.l, .I r.2.i])] :=
 eo (fn := Tryz.f74) (n := 14) (m := 100) fun Γ => D5.body h
def Au (K : Nat) (p0 : Ab) : Option (Int ⊕ ((List UInt8) × Ab)) := (Option.bind (Bx K p0) (fun a1 => (if a1.Kind ≠ 1 then (Option.bind (Bs K p0) (fun a2 => some (Sum.inl a2))) else (Option.bind (D5 K p0) (fun (a3_0, a3_1) => some (Sum.inr (a3_0.Text, a3_1)))))))
def Au.rep (p0 : Ab) : Int ⊕ ((List UInt8) × Ab) → Outc T
 | (Sum.inl v0) => .pan (ofi 49 v0)
 | (Sum.inr (v0, v1)) => .ret (.cv (.str v0))
def Au.post (p0 : Ab) : Int ⊕ ((List UInt8) × Ab) → List (Nat × Blk T)
 | (Sum.inl v0) => []
 | (Sum.inr (v0, v1)) => [(0, .raw [.ro .Am v1.l, .I v1.i])]
theorem Au.body {Γ : Ent} {K : Nat} {p0 : Ab} {r : Int ⊕ ((List UInt8) × Ab)} (h : Au K p0 = some r) : AWp V P 12 100 Γ (Tryz.f45.body.getD .skip) (EndsX P V Tryz.f45 (Au.rep p0 r) (Au.post p0 r)) ⟨args0 0 [.P 0], [(0, .raw (Af p0))]⟩ := by
 unfold Au at h
 refine sg0 L 200 <| awp_seq <| awp_seq ?_
 obtain ⟨a1, h1, h⟩ := bind_some h
 refine rg L 202 [] [(1, .agg (Ea a1))] [] (plt (Bx.ok h1)) ?_
 rcases ite_some h with ⟨c1, h⟩ | ⟨c1, h⟩
 ·refine tT c1 ?_
  obtain ⟨a2, h2, h⟩ := bind_some h
  refine qn L 207 [] [] [] 1 (ef0 (.tup []) []) (ofi 49 a2) (pl1 (Bs.okE h2)) ?_
  cases h
  exact rfl
 refine fF c1 <| awp_skip' <| awp_seq ?_
 obtain ⟨⟨a3_0, a3_1⟩, h3, h⟩ := bind_some h
 dsimp only at h
 refine rg L 210 [] [] [(1, (ef0 (.agg (Ea a3_0)) [(0, .raw (Af a3_1))]))] (pl1 (D5.okE h3)) ?_
 refine awp_ret ?_
 cases h
 exact xr0
theorem Au.okE {K : Nat} {p0 : Ab} {r : Int ⊕ ((List UInt8) × Ab)} (h : Au K p0 = some r) : XCall V P 45 [.P 0] [(0, .raw (Af p0))] [0] (Au.post p0 r) (Au.rep p0 r) :=
 xo (fn := Tryz.f45) (n := 12) (m := 100) fun Γ => Au.body h
def Aq (K : Nat) (p0 : List UInt8) (p1 : Ab) : Option (Ab ⊕ Int) := (Option.bind (Ao K p0 p1) (fun (a1_0, a1_1) => (if a1_0 = true then some (Sum.inl a1_1) else (Option.bind (Bs K a1_1) (fun a2 => some (Sum.inr a2))))))
def Aq.rep (p0 : List UInt8) (p1 : Ab) : Ab ⊕ Int → Outc T
 | (Sum.inl v0) => .ret (.tup [])
 | (Sum.inr v0) => .pan (ofi 49 v0)
def Aq.post (p0 : List UInt8) (p1 : Ab) : Ab ⊕ Int → List (Nat × Blk T)
 | (Sum.inl v0) => [(0, .raw [.ro .Am v0.l, .I v0.i])]
 | (Sum.inr v0) => []
theorem Aq.body {Γ : Ent} {K : Nat} {p0 : List UInt8} {p1 : Ab} {r : Ab ⊕ Int} (h : Aq K p0 p1 = some r) : AWp V P 10 100 Γ (Tryz.f46.body.getD .skip) (EndsX P V Tryz.f46 (Aq.rep p0 p1 r) (Aq.post p0 p1 r)) ⟨args0 0 [.P 0, .cv (.str p0)], [(0, .raw (Af p1))]⟩ := by
 unfold Aq at h
 refine awp_seq ?_
 obtain ⟨⟨a1_0, a1_1⟩, h1, h⟩ := bind_some h
 dsimp only at h
 refine rg L 200 [] [] [(2, (ef0 (.B a1_0) [(0, .raw (Af a1_1))]))] (pl1 (Ao.okE h1)) ?_
 rcases ite_some h with ⟨c1, h⟩ | ⟨c1, h⟩
 ·refine ff (b := (!a1_0)) (congrArg Bool.not (c1)) ?_
  refine sk (S' := ⟨[], [(0, .raw (Af a1_1))]⟩) ?_
  cases h
  exact xn0
 refine tt (b := (!a1_0)) (congrArg Bool.not (eq_false_of_ne_true c1)) ?_
 obtain ⟨a2, h2, h⟩ := bind_some h
 refine qn L 205 [] [] [] 1 (ef0 (.tup []) []) (ofi 49 a2) (pl1 (Bs.okE h2)) ?_
 cases h
 exact rfl
theorem Aq.okE {K : Nat} {p0 : List UInt8} {p1 : Ab} {r : Ab ⊕ Int} (h : Aq K p0 p1 = some r) : XCall V P 46 [.P 0, .cv (.str p0)] [(0, .raw (Af p1))] [0] (Aq.post p0 p1 r) (Aq.rep p0 p1 r) :=
 xo (fn := Tryz.f46) (n := 10) (m := 100) fun Γ => Aq.body h
def Cy.l7 (K : Nat) (p0 : List (List UInt8)) (p1 : List Int) (p2 : Ab) : Nat → Int → Option (Out (Int × Bool × Ab) Unit)
 | 0, _ => none
 | k + 1, xt12_7h => (if xt12_7h < (p0.length : Int) then (if (0 : Int) ≤ xt12_7h ∧ (xt12_7h : Int) < (p0.length : Int) then (Option.bind (Ec K p2 (p0.getD (Int.toNat xt12_7h) ([] : List UInt8))) (fun a1 => (if a1 = true then (if (xt12_7h : Int) < (p1.length : Int) then some (Out.done ((p1.getD (Int.toNat xt12_7h) (0 : Int)), true, (⟨p2.l, (IntKind.i64.wrap (p2.i + 1))⟩ : Ab))) else none) else Cy.l7 K p0 p1 p2 k (IntKind.i64.wrap (xt12_7h + 1))))) else none) else some (Out.go ()))
def Cy (K : Nat) (p0 : List (List UInt8)) (p1 : List Int) (p2 : Ab) : Option (Int × Bool × Ab) := (obind (Cy.l7 K p0 p1 p2 K 0 : Option (Out (Int × Bool × Ab) Unit)) (fun r => r) (fun _ => some (0, false, p2)))
theorem Cy.body {Γ : Ent} {K : Nat} {p0 : List (List UInt8)} {p1 : List Int} {p2 : Ab} {r : Int × Bool × Ab} (h : Cy K p0 p1 p2 = some r) : AWp V P 32 100 Γ (Tryz.f78.body.getD .skip) (EndsE P V Tryz.f78 (.tup [.I r.1, .B r.2.1]) [(0, .raw [.ro .Am r.2.2.l, .I r.2.2.i])]) ⟨args0 0 [.P 0, .cv (.ro .Dg p0), .cv (.ro .E7 p1)], [(0, .raw (Af p2))]⟩ := by
 unfold Cy at h
 refine sg0 L 200 <| awp_seq <| sg0 L 203 <| awp_block <| kp (S' := ⟨[(0, .P 0), (2, .cv (.ro .E7 p1)), (10, .cv (.ro .Dg p0)), (11, .I (p0.length : Int)), (12, .I 0)], [(0, .raw (Af p2))]⟩) ?_
 obtain ⟨o1, hp1, h⟩ := obind_some h
 refine awp_conseq (Q' := fun e S => (e = .exit 0 ∧ S = ⟨[], [(0, .raw (Af p2))]⟩ ∧ Out.go () = o1) ∨ (e = .ret ∧ ∃ a, Out.done a = o1 ∧ EndsE P V Tryz.f78 (.tup [.I a.1, .B a.2.1]) [(0, .raw [.ro .Am a.2.2.l, .I a.2.2.i])] .ret S)) (awp_loop (fun k S => ∃ xt12_7h : Int, S = ⟨[(0, .P 0), (2, .cv (.ro .E7 p1)), (10, .cv (.ro .Dg p0)), (11, .I (p0.length : Int)), (12, .I xt12_7h)], [(0, .raw (Af p2))]⟩ ∧ Cy.l7 K p0 p1 p2 k xt12_7h = some o1) ?_ ⟨_, rfl, hp1⟩) ?_
 ·clear h hp1
  intro k S hS
  obtain ⟨xt12_7h, rfl, h⟩ := hS
  cases k with
  | zero => cases h
  | succ k =>
  unfold Cy.l7 at h
  refine sg0 L 207 <| awp_seq ?_
  rcases ite_some h with ⟨c1, h⟩ | ⟨c1, h⟩
  ·refine tT c1 <| awp_skip' <| awp_seq <| awp_block <| awp_seq ?_
   obtain ⟨g1, h⟩ := guard_some h
   refine rg L 209 [] [] [] (pl2 g1.1 g1.2) ?_
   refine awp_seq ?_
   obtain ⟨a1, h1, h⟩ := bind_some h
   refine rg L 215 [] [(2, .B a1)] [] (plt (Ec.ok h1)) ?_
   rcases ite_some h with ⟨c2, h⟩ | ⟨c2, h⟩
   ·refine tt c2 <| sg0 L 219 <| awp_seq ?_
    obtain ⟨g2, h⟩ := guard_some h
    refine rg L 228 [] [] [] (pl2 g1.1 g2) ?_
    refine awp_ret ?_
    cases h
    exact .inr ⟨rfl, _, rfl, er0⟩
   refine fN c2 <| awp_skip' <| ar0 L 235 [] [] [] (S' := ⟨[(0, .P 0), (2, .cv (.ro .E7 p1)), (10, .cv (.ro .Dg p0)), (11, .I (p0.length : Int)), (12, .I (IntKind.i64.wrap (xt12_7h + 1)))], [(0, .raw (Af p2))]⟩) ?_
   exact ⟨k, Nat.lt_succ_self k, _, rfl, h⟩
  refine fF c1 <| ex (S' := ⟨[], [(0, .raw (Af p2))]⟩) ?_
  cases h
  exact .inl ⟨rfl, rfl, rfl⟩
 ·rintro e S (⟨rfl, rfl, rfl⟩ | ⟨rfl, a, rfl, hr⟩)
  ·rcases h with ⟨_, e1, h⟩ | ⟨_, e1, h⟩
   ·cases e1
   ·have e2 := Out.go.inj e1
    subst e2
    refine ⟨_, Turns.refl, ?_⟩
    refine sg0 L 238 <| awp_ret ?_
    cases h
    exact er0
  ·rcases h with ⟨_, e1, h⟩ | ⟨_, e1, h⟩
   ·have e2 := Out.done.inj e1
    subst e2
    subst h
    exact ⟨_, Turns.refl, hr⟩
   ·cases e1
theorem Cy.okE {K : Nat} {p0 : List (List UInt8)} {p1 : List Int} {p2 : Ab} {r : Int × Bool × Ab} (h : Cy K p0 p1 p2 = some r) : ECall V P 78 [.P 0, .cv (.ro .Dg p0), .cv (.ro .E7 p1)] [(0, .raw (Af p2))] [0] (.tup [.I r.1, .B r.2.1]) [(0, .raw [.ro .Am r.2.2.l, .I r.2.2.i])] :=
 eo (fn := Tryz.f78) (n := 32) (m := 100) fun Γ => Cy.body h
def D8 (K : Nat) (p0 : Ab) : Option (Aa × Bool × Ab) := (Option.bind (Bx K p0) (fun a1 => (if a1.Kind = 3 then some ((⟨4, [], a1.Int, [], ([] : List Aa)⟩ : Aa), true, (⟨p0.l, (IntKind.i64.wrap (p0.i + 1))⟩ : Ab)) else (if a1.Kind = 4 then some ((⟨5, [], 0, a1.Text, ([] : List Aa)⟩ : Aa), true, (⟨p0.l, (IntKind.i64.wrap (p0.i + 1))⟩ : Ab)) else (Option.bind (Cy K ([([110, 117, 108, 108] : List UInt8), ([116, 114, 117, 101] : List UInt8), ([102, 97, 108, 115, 101] : List UInt8)] : List (List UInt8)) ([1, 2, 3] : List Int) p0) (fun (a2_0, a2_1, a2_2) => some ((⟨a2_0, [], 0, [], ([] : List Aa)⟩ : Aa), a2_1, a2_2)))))))
theorem D8.body {Γ : Ent} {K : Nat} {p0 : Ab} {r : Aa × Bool × Ab} (h : D8 K p0 = some r) : AWp V P 47 100 Γ (Tryz.f76.body.getD .skip) (EndsE P V Tryz.f76 (.tup [.agg [.I r.1.Op, .str r.1.Name, .I r.1.Int, .str r.1.Text, .ro .Ae r.1.Kids], .B r.2.1]) [(0, .raw [.ro .Am r.2.2.l, .I r.2.2.i])]) ⟨args0 0 [.P 0], [(0, .raw (Af p0))]⟩ := by
 unfold D8 at h
 refine sg0 L 200 <| awp_seq <| awp_seq ?_
 obtain ⟨a1, h1, h⟩ := bind_some h
 refine rg L 203 [] [(1, .agg (Ea a1))] [] (plt (Bx.ok h1)) ?_
 refine awp_block <| sg0 L 208 ?_
 rcases ite_some h with ⟨c1, h⟩ | ⟨c1, h⟩
 ·refine tT c1 <| sg0 L 213 <| sg0 L 222 <| awp_turn (Turns.trans (Turns.kk [2, 3] [0, 200]) (Turns.rr [(0, 0), (200, 100)])) ?_
  refine awp_ret ?_
  cases h
  exact er0
 refine fF c1 <| sg0 L 228 ?_
 rcases ite_some h with ⟨c2, h⟩ | ⟨c2, h⟩
 ·refine tT c2 <| sg0 L 233 <| sg0 L 242 <| awp_turn (Turns.trans (Turns.kk [2, 3] [0, 200]) (Turns.rr [(0, 0), (200, 100)])) ?_
  refine awp_ret ?_
  cases h
  exact er0
 refine fF c2 <| awp_skip' <| awp_seq ?_
 obtain ⟨⟨a2_0, a2_1, a2_2⟩, h2, h⟩ := bind_some h
 dsimp only at h
 refine rg L 248 [] [] [(3, (ef0 (.tup [.I a2_0, .B a2_1]) [(0, .raw (Af a2_2))]))] (pl1 (Cy.okE h2)) ?_
 refine sg0 L 258 <| awp_turn (Turns.trans (Turns.kk [2, 3] [0, 200]) (Turns.rr [(0, 0), (200, 100)])) ?_
 refine awp_ret ?_
 cases h
 exact er0
theorem D8.okE {K : Nat} {p0 : Ab} {r : Aa × Bool × Ab} (h : D8 K p0 = some r) : ECall V P 76 [.P 0] [(0, .raw (Af p0))] [0] (.tup [.agg [.I r.1.Op, .str r.1.Name, .I r.1.Int, .str r.1.Text, .ro .Ae r.1.Kids], .B r.2.1]) [(0, .raw [.ro .Am r.2.2.l, .I r.2.2.i])] :=
 eo (fn := Tryz.f76) (n := 47) (m := 100) fun Γ => D8.body h
def C3 (K : Nat) (p0 : Int) (p1 : List Aa) : Option Aa := some (⟨p0, [], 0, [], p1⟩ : Aa)
theorem C3.body {Γ : Ent} {K : Nat} {p0 : Int} {p1 : List Aa} {r : Aa} (h : C3 K p0 p1 = some r) : AWp V P 8 100 Γ (Tryz.f75.body.getD .skip) (EndsE P V Tryz.f75 (.agg [.I r.Op, .str r.Name, .I r.Int, .str r.Text, .ro .Ae r.Kids]) []) ⟨args0 0 [.I p0, .cv (.ro .Ae p1)], []⟩ := by
 unfold C3 at h
 refine sg0 L 200 <| sg0 L 202 <| awp_turn (Turns.trans (Turns.kk [4] [200]) (Turns.rr [(200, 100)])) ?_
 refine awp_ret ?_
 cases h
 exact er0
theorem C3.ok {K : Nat} {p0 : Int} {p1 : List Aa} {r : Aa} (h : C3 K p0 p1 = some r) : PCall V P 75 [.I p0, .cv (.ro .Ae p1)] (.agg [.I r.Op, .str r.Name, .I r.Int, .str r.Text, .ro .Ae r.Kids]) := ECall.pcall (eo (fn := Tryz.f75) (n := 8) (m := 100) fun Γ => C3.body h) (by kernel_rfl)
def Bk.rep (p0 : List UInt8) (p1 : Ab) : ((List Aa) × Ab) ⊕ Int → Outc T
 | (Sum.inl (v0, v1)) => .ret (.cv (.ro .Ae v0))
 | (Sum.inr v0) => .pan (ofi 49 v0)
def Bk.post (p0 : List UInt8) (p1 : Ab) : ((List Aa) × Ab) ⊕ Int → List (Nat × Blk T)
 | (Sum.inl (v0, v1)) => [(0, .raw [.ro .Am v1.l, .I v1.i])]
 | (Sum.inr v0) => []
def Bz.rep (p0 : Int) (p1 : List UInt8) (p2 : Ab) : (Aa × Ab) ⊕ Int → Outc T
 | (Sum.inl (v0, v1)) => .ret (.agg [.I v0.Op, .str v0.Name, .I v0.Int, .str v0.Text, .ro .Ae v0.Kids])
 | (Sum.inr v0) => .pan (ofi 49 v0)
def Bz.post (p0 : Int) (p1 : List UInt8) (p2 : Ab) : (Aa × Ab) ⊕ Int → List (Nat × Blk T)
 | (Sum.inl (v0, v1)) => [(0, .raw [.ro .Am v1.l, .I v1.i])]
 | (Sum.inr v0) => []
def Cg.rep (p0 : Ab) : Int ⊕ (Aa × Ab) → Outc T
 | (Sum.inl v0) => .pan (ofi 49 v0)
 | (Sum.inr (v0, v1)) => .ret (.agg [.I v0.Op, .str v0.Name, .I v0.Int, .str v0.Text, .ro .Ae v0.Kids])
def Cg.post (p0 : Ab) : Int ⊕ (Aa × Ab) → List (Nat × Blk T)
 | (Sum.inl v0) => []
 | (Sum.inr (v0, v1)) => [(0, .raw [.ro .Am v1.l, .I v1.i])]
def Bu.rep (p0 : List UInt8) (p1 : Ab) : ((List Aa) × Ab) ⊕ Int → Outc T
 | (Sum.inl (v0, v1)) => .ret (.cv (.ro .Ae v0))
 | (Sum.inr v0) => .pan (ofi 49 v0)
def Bu.post (p0 : List UInt8) (p1 : Ab) : ((List Aa) × Ab) ⊕ Int → List (Nat × Blk T)
 | (Sum.inl (v0, v1)) => [(0, .raw [.ro .Am v1.l, .I v1.i])]
 | (Sum.inr v0) => []
def B5.rep (p0 : Ab) : (Aa × Ab) ⊕ Int → Outc T
 | (Sum.inl (v0, v1)) => .ret (.agg [.I v0.Op, .str v0.Name, .I v0.Int, .str v0.Text, .ro .Ae v0.Kids])
 | (Sum.inr v0) => .pan (ofi 49 v0)
def B5.post (p0 : Ab) : (Aa × Ab) ⊕ Int → List (Nat × Blk T)
 | (Sum.inl (v0, v1)) => [(0, .raw [.ro .Am v1.l, .I v1.i])]
 | (Sum.inr v0) => []
def Bi.rep (p0 : Ab) : Int ⊕ (Aa × Ab) → Outc T
 | (Sum.inl v0) => .pan (ofi 49 v0)
 | (Sum.inr (v0, v1)) => .ret (.agg [.I v0.Op, .str v0.Name, .I v0.Int, .str v0.Text, .ro .Ae v0.Kids])
def Bi.post (p0 : Ab) : Int ⊕ (Aa × Ab) → List (Nat × Blk T)
 | (Sum.inl v0) => []
 | (Sum.inr (v0, v1)) => [(0, .raw [.ro .Am v1.l, .I v1.i])]
def Bj.rep (p0 : Ab) : Int ⊕ (Aa × Ab) → Outc T
 | (Sum.inl v0) => .pan (ofi 49 v0)
 | (Sum.inr (v0, v1)) => .ret (.agg [.I v0.Op, .str v0.Name, .I v0.Int, .str v0.Text, .ro .Ae v0.Kids])
def Bj.post (p0 : Ab) : Int ⊕ (Aa × Ab) → List (Nat × Blk T)
 | (Sum.inl v0) => []
 | (Sum.inr (v0, v1)) => [(0, .raw [.ro .Am v1.l, .I v1.i])]
def Bp.rep (p0 : List (List UInt8)) (p1 : List Int) (p2 : Ab) : Int ⊕ (Aa × Ab) → Outc T
 | (Sum.inl v0) => .pan (ofi 49 v0)
 | (Sum.inr (v0, v1)) => .ret (.agg [.I v0.Op, .str v0.Name, .I v0.Int, .str v0.Text, .ro .Ae v0.Kids])
def Bp.post (p0 : List (List UInt8)) (p1 : List Int) (p2 : Ab) : Int ⊕ (Aa × Ab) → List (Nat × Blk T)
 | (Sum.inl v0) => []
 | (Sum.inr (v0, v1)) => [(0, .raw [.ro .Am v1.l, .I v1.i])]
def Bl.rep (p0 : Ab) : Int ⊕ (Aa × Ab) → Outc T
 | (Sum.inl v0) => .pan (ofi 49 v0)
 | (Sum.inr (v0, v1)) => .ret (.agg [.I v0.Op, .str v0.Name, .I v0.Int, .str v0.Text, .ro .Ae v0.Kids])
def Bl.post (p0 : Ab) : Int ⊕ (Aa × Ab) → List (Nat × Blk T)
 | (Sum.inl v0) => []
 | (Sum.inr (v0, v1)) => [(0, .raw [.ro .Am v1.l, .I v1.i])]
def Br.rep (p0 : List (List UInt8)) (p1 : List Int) (p2 : Ab) : Int ⊕ (Aa × Ab) → Outc T
 | (Sum.inl v0) => .pan (ofi 49 v0)
 | (Sum.inr (v0, v1)) => .ret (.agg [.I v0.Op, .str v0.Name, .I v0.Int, .str v0.Text, .ro .Ae v0.Kids])
def Br.post (p0 : List (List UInt8)) (p1 : List Int) (p2 : Ab) : Int ⊕ (Aa × Ab) → List (Nat × Blk T)
 | (Sum.inl v0) => []
 | (Sum.inr (v0, v1)) => [(0, .raw [.ro .Am v1.l, .I v1.i])]
def Cc.rep (p0 : Ab) : Int ⊕ (Aa × Ab) → Outc T
 | (Sum.inl v0) => .pan (ofi 49 v0)
 | (Sum.inr (v0, v1)) => .ret (.agg [.I v0.Op, .str v0.Name, .I v0.Int, .str v0.Text, .ro .Ae v0.Kids])
def Cc.post (p0 : Ab) : Int ⊕ (Aa × Ab) → List (Nat × Blk T)
 | (Sum.inl v0) => []
 | (Sum.inr (v0, v1)) => [(0, .raw [.ro .Am v1.l, .I v1.i])]
def Bw.rep (p0 : Ab) : Int ⊕ (Aa × Ab) → Outc T
 | (Sum.inl v0) => .pan (ofi 49 v0)
 | (Sum.inr (v0, v1)) => .ret (.agg [.I v0.Op, .str v0.Name, .I v0.Int, .str v0.Text, .ro .Ae v0.Kids])
def Bw.post (p0 : Ab) : Int ⊕ (Aa × Ab) → List (Nat × Blk T)
 | (Sum.inl v0) => []
 | (Sum.inr (v0, v1)) => [(0, .raw [.ro .Am v1.l, .I v1.i])]
def Bo.rep (p0 : List (List UInt8)) (p1 : List Int) (p2 : Ab) : Int ⊕ (Aa × Ab) → Outc T
 | (Sum.inl v0) => .pan (ofi 49 v0)
 | (Sum.inr (v0, v1)) => .ret (.agg [.I v0.Op, .str v0.Name, .I v0.Int, .str v0.Text, .ro .Ae v0.Kids])
def Bo.post (p0 : List (List UInt8)) (p1 : List Int) (p2 : Ab) : Int ⊕ (Aa × Ab) → List (Nat × Blk T)
 | (Sum.inl v0) => []
 | (Sum.inr (v0, v1)) => [(0, .raw [.ro .Am v1.l, .I v1.i])]
def Cf.rep (p0 : Ab) : Int ⊕ (Aa × Ab) → Outc T
 | (Sum.inl v0) => .pan (ofi 49 v0)
 | (Sum.inr (v0, v1)) => .ret (.agg [.I v0.Op, .str v0.Name, .I v0.Int, .str v0.Text, .ro .Ae v0.Kids])
def Cf.post (p0 : Ab) : Int ⊕ (Aa × Ab) → List (Nat × Blk T)
 | (Sum.inl v0) => []
 | (Sum.inr (v0, v1)) => [(0, .raw [.ro .Am v1.l, .I v1.i])]
def Bq.rep (p0 : List (List UInt8)) (p1 : List Int) (p2 : Ab) : Int ⊕ (Aa × Ab) → Outc T
 | (Sum.inl v0) => .pan (ofi 49 v0)
 | (Sum.inr (v0, v1)) => .ret (.agg [.I v0.Op, .str v0.Name, .I v0.Int, .str v0.Text, .ro .Ae v0.Kids])
def Bq.post (p0 : List (List UInt8)) (p1 : List Int) (p2 : Ab) : Int ⊕ (Aa × Ab) → List (Nat × Blk T)
 | (Sum.inl v0) => []
 | (Sum.inr (v0, v1)) => [(0, .raw [.ro .Am v1.l, .I v1.i])]
def Aw.rep (p0 : Ab) : Int ⊕ (Aa × Ab) → Outc T
 | (Sum.inl v0) => .pan (ofi 49 v0)
 | (Sum.inr (v0, v1)) => .ret (.agg [.I v0.Op, .str v0.Name, .I v0.Int, .str v0.Text, .ro .Ae v0.Kids])
def Aw.post (p0 : Ab) : Int ⊕ (Aa × Ab) → List (Nat × Blk T)
 | (Sum.inl v0) => []
 | (Sum.inr (v0, v1)) => [(0, .raw [.ro .Am v1.l, .I v1.i])]
structure Ah where
 Bk : (List UInt8) → Ab → Option (((List Aa) × Ab) ⊕ Int)
 Bz : Int → (List UInt8) → Ab → Option ((Aa × Ab) ⊕ Int)
 Cg : Ab → Option (Int ⊕ (Aa × Ab))
 Bu : (List UInt8) → Ab → Option (((List Aa) × Ab) ⊕ Int)
 B5 : Ab → Option ((Aa × Ab) ⊕ Int)
 Bi : Ab → Option (Int ⊕ (Aa × Ab))
 Bj : Ab → Option (Int ⊕ (Aa × Ab))
 Bp : (List (List UInt8)) → (List Int) → Ab → Option (Int ⊕ (Aa × Ab))
 Bl : Ab → Option (Int ⊕ (Aa × Ab))
 Br : (List (List UInt8)) → (List Int) → Ab → Option (Int ⊕ (Aa × Ab))
 Cc : Ab → Option (Int ⊕ (Aa × Ab))
 Bw : Ab → Option (Int ⊕ (Aa × Ab))
 Bo : (List (List UInt8)) → (List Int) → Ab → Option (Int ⊕ (Aa × Ab))
 Cf : Ab → Option (Int ⊕ (Aa × Ab))
 Bq : (List (List UInt8)) → (List Int) → Ab → Option (Int ⊕ (Aa × Ab))
 Aw : Ab → Option (Int ⊕ (Aa × Ab))
structure Ah.Ok (R : Ah) : Prop where
 Bk : ∀ {p0 : List UInt8} {p1 : Ab} {r : ((List Aa) × Ab) ⊕ Int}, R.Bk p0 p1 = some r → XCall V P 48 [.P 0, .cv (.str p0), .cv (.fn (.func 32) [.P 0] [])] [(0, .raw (Af p1))] [0] (Bk.post p0 p1 r) (Bk.rep p0 p1 r)
 Bz : ∀ {p0 : Int} {p1 : List UInt8} {p2 : Ab} {r : (Aa × Ab) ⊕ Int}, R.Bz p0 p1 p2 = some r → XCall V P 106 [.P 0, .I p0, .cv (.str p1)] [(0, .raw (Af p2))] [0] (Bz.post p0 p1 p2 r) (Bz.rep p0 p1 p2 r)
 Cg : ∀ {p0 : Ab} {r : Int ⊕ (Aa × Ab)}, R.Cg p0 = some r → XCall V P 166 [.P 0] [(0, .raw (Af p0))] [0] (Cg.post p0 r) (Cg.rep p0 r)
 Bu : ∀ {p0 : List UInt8} {p1 : Ab} {r : ((List Aa) × Ab) ⊕ Int}, R.Bu p0 p1 = some r → XCall V P 48 [.P 0, .cv (.str p0), .cv (.fn (.func 166) [.P 0] [])] [(0, .raw (Af p1))] [0] (Bu.post p0 p1 r) (Bu.rep p0 p1 r)
 B5 : ∀ {p0 : Ab} {r : (Aa × Ab) ⊕ Int}, R.B5 p0 = some r → XCall V P 163 [.P 0] [(0, .raw (Af p0))] [0] (B5.post p0 r) (B5.rep p0 r)
 Bi : ∀ {p0 : Ab} {r : Int ⊕ (Aa × Ab)}, R.Bi p0 = some r → XCall V P 156 [.P 0] [(0, .raw (Af p0))] [0] (Bi.post p0 r) (Bi.rep p0 r)
 Bj : ∀ {p0 : Ab} {r : Int ⊕ (Aa × Ab)}, R.Bj p0 = some r → XCall V P 146 [.P 0] [(0, .raw (Af p0))] [0] (Bj.post p0 r) (Bj.rep p0 r)
 Bp : ∀ {p0 : List (List UInt8)} {p1 : List Int} {p2 : Ab} {r : Int ⊕ (Aa × Ab)}, R.Bp p0 p1 p2 = some r → XCall V P 62 [.P 0, .cv (.fn (.func 146) [.P 0] []), .cv (.ro .Dg p0), .cv (.ro .E7 p1)] [(0, .raw (Af p2))] [0] (Bp.post p0 p1 p2 r) (Bp.rep p0 p1 p2 r)
 Bl : ∀ {p0 : Ab} {r : Int ⊕ (Aa × Ab)}, R.Bl p0 = some r → XCall V P 137 [.P 0] [(0, .raw (Af p0))] [0] (Bl.post p0 r) (Bl.rep p0 r)
 Br : ∀ {p0 : List (List UInt8)} {p1 : List Int} {p2 : Ab} {r : Int ⊕ (Aa × Ab)}, R.Br p0 p1 p2 = some r → XCall V P 62 [.P 0, .cv (.fn (.func 137) [.P 0] []), .cv (.ro .Dg p0), .cv (.ro .E7 p1)] [(0, .raw (Af p2))] [0] (Br.post p0 p1 p2 r) (Br.rep p0 p1 p2 r)
 Cc : ∀ {p0 : Ab} {r : Int ⊕ (Aa × Ab)}, R.Cc p0 = some r → XCall V P 122 [.P 0] [(0, .raw (Af p0))] [0] (Cc.post p0 r) (Cc.rep p0 r)
 Bw : ∀ {p0 : Ab} {r : Int ⊕ (Aa × Ab)}, R.Bw p0 = some r → XCall V P 93 [.P 0] [(0, .raw (Af p0))] [0] (Bw.post p0 r) (Bw.rep p0 r)
 Bo : ∀ {p0 : List (List UInt8)} {p1 : List Int} {p2 : Ab} {r : Int ⊕ (Aa × Ab)}, R.Bo p0 p1 p2 = some r → XCall V P 62 [.P 0, .cv (.fn (.func 93) [.P 0] []), .cv (.ro .Dg p0), .cv (.ro .E7 p1)] [(0, .raw (Af p2))] [0] (Bo.post p0 p1 p2 r) (Bo.rep p0 p1 p2 r)
 Cf : ∀ {p0 : Ab} {r : Int ⊕ (Aa × Ab)}, R.Cf p0 = some r → XCall V P 63 [.P 0] [(0, .raw (Af p0))] [0] (Cf.post p0 r) (Cf.rep p0 r)
 Bq : ∀ {p0 : List (List UInt8)} {p1 : List Int} {p2 : Ab} {r : Int ⊕ (Aa × Ab)}, R.Bq p0 p1 p2 = some r → XCall V P 62 [.P 0, .cv (.fn (.func 63) [.P 0] []), .cv (.ro .Dg p0), .cv (.ro .E7 p1)] [(0, .raw (Af p2))] [0] (Bq.post p0 p1 p2 r) (Bq.rep p0 p1 p2 r)
 Aw : ∀ {p0 : Ab} {r : Int ⊕ (Aa × Ab)}, R.Aw p0 = some r → XCall V P 32 [.P 0] [(0, .raw (Af p0))] [0] (Aw.post p0 r) (Aw.rep p0 r)
def Bk.l15 (K : Nat) (R : Ah) : Nat → (List As) → Int → (List Aa) → Option (Out (((List Aa) × Ab) ⊕ Int) ((List As) × Int × (List Aa)))
 | 0, _, _, _ => none
 | k + 1, xh0_0_15h, xh0_1_15h, x23100 => (Option.bind (Ao K ([44] : List UInt8) (⟨xh0_0_15h, xh0_1_15h⟩ : Ab)) (fun (a3_0, a3_1) => (if a3_0 = true then (Option.bind (R.Aw a3_1) (fun a4 => match a4 with | (Sum.inl a4) => some (Out.done (Sum.inr a4)) | (Sum.inr (a4_0, a4_1)) => (if (x23100.length + ([(⟨a4_0.Op, a4_0.Name, a4_0.Int, a4_0.Text, a4_0.Kids⟩ : Aa)] : List Aa).length) * 72 ≤ 140737488355328 then Bk.l15 K R k a4_1.l a4_1.i (x23100 ++ ([(⟨a4_0.Op, a4_0.Name, a4_0.Int, a4_0.Text, a4_0.Kids⟩ : Aa)] : List Aa)) else none))) else some (Out.go (a3_1.l, a3_1.i, x23100)))))
def Bk.F (K : Nat) (R : Ah) (p0 : List UInt8) (p1 : Ab) : Option (((List Aa) × Ab) ⊕ Int) := (Option.bind (Ao K p0 p1) (fun (a1_0, a1_1) => (if a1_0 = true then some (Sum.inl (([] : List Aa), a1_1)) else (Option.bind (R.Aw a1_1) (fun a2 => match a2 with | (Sum.inl a2) => some (Sum.inr a2) | (Sum.inr (a2_0, a2_1)) => (obind (Bk.l15 K R K a2_1.l a2_1.i ([(⟨a2_0.Op, a2_0.Name, a2_0.Int, a2_0.Text, a2_0.Kids⟩ : Aa)] : List Aa) : Option (Out (((List Aa) × Ab) ⊕ Int) ((List As) × Int × (List Aa)))) (fun r => r) (fun (xh0_0_15, xh0_1_15, x23000) => (Option.bind (Aq K p0 (⟨xh0_0_15, xh0_1_15⟩ : Ab)) (fun a5 => match a5 with | (Sum.inl a5) => some (Sum.inl (x23000, a5)) | (Sum.inr a5) => some (Sum.inr a5))))))))))
theorem Bk.body {Γ : Ent} {K : Nat} {R : Ah} (hR : R.Ok) {p0 : List UInt8} {p1 : Ab} {r : ((List Aa) × Ab) ⊕ Int} (h : Bk.F K R p0 p1 = some r) : AWp V P 25 100 Γ (Tryz.f48.body.getD .skip) (EndsX P V Tryz.f48 (Bk.rep p0 p1 r) (Bk.post p0 p1 r)) ⟨args0 0 [.P 0, .cv (.str p0), .cv (.fn (.func 32) [.P 0] [])], [(0, .raw (Af p1))]⟩ := by
 unfold Bk.F at h
 refine sg0 L 200 <| awp_seq <| awp_seq ?_
 obtain ⟨⟨a1_0, a1_1⟩, h1, h⟩ := bind_some h
 dsimp only at h
 refine rg L 202 [] [] [(2, (ef0 (.B a1_0) [(0, .raw (Af a1_1))]))] (pl1 (Ao.okE h1)) ?_
 rcases ite_some h with ⟨c1, h⟩ | ⟨c1, h⟩
 ·refine tt c1 <| sg0 L 206 <| awp_ret ?_
  cases h
  exact xr0
 refine fN c1 <| awp_skip' <| awp_seq ?_
 obtain ⟨a2, h2, h⟩ := bind_some h
 rcases a2 with a2 | a2
 ·dsimp only at h
  refine qn L 100208 [] [] [] 1 (ef0 (.tup []) []) (ofi 49 a2) (pl1 (hR.Aw h2)) ?_
  cases h
  exact rfl
 ·obtain ⟨a2_0, a2_1⟩ := a2
  dsimp only at h
  refine rg L 100208 [] [] [(1, (ef0 (.agg (Ag a2_0)) [(0, .raw (Af a2_1))]))] (pl1 (hR.Aw h2)) ?_
  refine awp_seq <| awp_block <| awp_turn (Turns.trans (Turns.kk [0, 1, 2, 7] [0, 100210]) (Turns.rr [(0, 0), (100210, 23100)])) ?_
  refine kp (S' := ⟨[(0, .P 0), (1, .cv (.str p0)), (2, .cv (.fn (.func 32) [.P 0] [])), (7, .cv (.own .Ae 23100))], [(0, .raw (Af a2_1)), (23100, .lst .Ae ([(⟨a2_0.Op, a2_0.Name, a2_0.Int, a2_0.Text, a2_0.Kids⟩ : Aa)] : List Aa))]⟩) ?_
  obtain ⟨o1, hp1, h⟩ := obind_some h
  refine awp_conseq (Q' := fun e S => (e = .exit 0 ∧ ∃ xh0_0_15 : List As, ∃ xh0_1_15 : Int, ∃ x23000 : List Aa, S = ⟨[(0, .P 0), (1, .cv (.str p0)), (7, .cv (.own .Ae 23000))], [(0, .raw [.ro .Am xh0_0_15, .I xh0_1_15]), (23000, .lst .Ae x23000)]⟩ ∧ Out.go (xh0_0_15, xh0_1_15, x23000) = o1) ∨ ((e = .ret ∨ ∃ ch, e = .panic ch) ∧ ∃ a, Out.done a = o1 ∧ EndsX P V Tryz.f48 (Bk.rep p0 p1 a) (Bk.post p0 p1 a) e S)) (awp_loop (fun k S => ∃ xh0_0_15h : List As, ∃ xh0_1_15h : Int, ∃ x23100 : List Aa, S = ⟨[(0, .P 0), (1, .cv (.str p0)), (2, .cv (.fn (.func 32) [.P 0] [])), (7, .cv (.own .Ae 23100))], [(0, .raw [.ro .Am xh0_0_15h, .I xh0_1_15h]), (23100, .lst .Ae x23100)]⟩ ∧ Bk.l15 K R k xh0_0_15h xh0_1_15h x23100 = some o1) ?_ ⟨_, _, _, rfl, hp1⟩) ?_
  ·clear h hp1
   intro k S hS
   obtain ⟨xh0_0_15h, xh0_1_15h, x23100, rfl, h⟩ := hS
   cases k with
   | zero => cases h
   | succ k =>
   unfold Bk.l15 at h
   refine awp_seq <| awp_seq ?_
   obtain ⟨⟨a3_0, a3_1⟩, h3, h⟩ := bind_some h
   dsimp only at h
   refine rg L 213 [] [] [(1, (ef0 (.B a3_0) [(0, .raw (Af a3_1))]))] (pl1 (Ao.okE h3)) ?_
   rcases ite_some h with ⟨c2, h⟩ | ⟨c2, h⟩
   ·refine tt c2 <| awp_skip' <| awp_block ?_
    obtain ⟨a4, h4, h⟩ := bind_some h
    rcases a4 with a4 | a4
    ·dsimp only at h
     refine qn L 216 [] [] [] 2 (ef0 (.tup []) []) (ofi 49 a4) (pl1 (hR.Aw h4)) ?_
     cases h
     exact .inr ⟨.inr ⟨_, rfl⟩, _, rfl, rfl⟩
    ·obtain ⟨a4_0, a4_1⟩ := a4
     dsimp only at h
     obtain ⟨g1, h⟩ := guard_some h
     refine ar L 216 [] [] [(2, (ef0 (.agg (Ag a4_0)) [(0, .raw (Af a4_1))]))] (cs := [ECall V P 32 [.P 0] [(0, .raw (Af a3_1))] [0] (.agg (Ag a4_0)) [(0, .raw (Af a4_1))], (x23100.length + ([(⟨a4_0.Op, a4_0.Name, a4_0.Int, a4_0.Text, a4_0.Kids⟩ : Aa)] : List Aa).length) * 72 ≤ 140737488355328, True]) (S' := ⟨[(0, .P 0), (1, .cv (.str p0)), (2, .cv (.fn (.func 32) [.P 0] [])), (7, .cv (.own .Ae 23100))], [(0, .raw (Af a4_1)), (23100, .lst .Ae (x23100 ++ ([(⟨a4_0.Op, a4_0.Name, a4_0.Int, a4_0.Text, a4_0.Kids⟩ : Aa)] : List Aa)))]⟩) (And.intro (hR.Aw h4) (And.intro g1 trivial)) ?_
     exact ⟨k, Nat.lt_succ_self k, _, _, _, rfl, h⟩
   refine fN c2 <| awp_turn (Turns.trans (Turns.kk [0, 1, 7] [0, 23100]) (Turns.rr [(0, 0), (23100, 23000)])) ?_
   refine ex (S' := ⟨[(0, .P 0), (1, .cv (.str p0)), (7, .cv (.own .Ae 23000))], [(0, .raw (Af a3_1)), (23000, .lst .Ae x23100)]⟩) ?_
   cases h
   exact .inl ⟨rfl, _, _, _, rfl, rfl⟩
  ·rintro e S (⟨rfl, xh0_0_15, xh0_1_15, x23000, rfl, rfl⟩ | ⟨he, a, rfl, hr⟩)
   ·rcases h with ⟨_, e1, h⟩ | ⟨_, e1, h⟩
    ·cases e1
    ·have e2 := Out.go.inj e1
     subst e2
     dsimp only at h
     refine ⟨_, Turns.refl, ?_⟩
     refine awp_seq ?_
     obtain ⟨a5, h5, h⟩ := bind_some h
     rcases a5 with a5 | a5
     ·dsimp only at h
      refine rg L 223 [] [] [(2, (ef0 (.tup []) [(0, .raw (Af a5))]))] (pl1 (Aq.okE h5)) ?_
      refine sg0 L 227 <| awp_turn (Turns.trans (Turns.kk [6] [0, 23000]) (Turns.fz 23000)) ?_
      refine awp_ret ?_
      cases h
      exact xr0
     ·obtain ⟨a5, rfl⟩ : ∃ z, z = a5 := ⟨_, rfl⟩
      dsimp only at h
      refine qn L 223 [] [] [] 2 (ef0 (.tup []) []) (ofi 49 a5) (pl1 (Aq.okE h5)) ?_
      cases h
      exact rfl
   ·rcases h with ⟨_, e1, h⟩ | ⟨_, e1, h⟩
    ·have e2 := Out.done.inj e1
     subst e2
     subst h
     rcases he with rfl | ⟨ch, rfl⟩
     ·exact ⟨_, Turns.refl, hr⟩
     ·exact ⟨_, Turns.refl, hr⟩
    ·cases e1
def Bz.F (K : Nat) (R : Ah) (p0 : Int) (p1 : List UInt8) (p2 : Ab) : Option ((Aa × Ab) ⊕ Int) := (Option.bind (Aq K ([40] : List UInt8) p2) (fun a1 => match a1 with | (Sum.inl a1) => (Option.bind (R.Bk ([41] : List UInt8) a1) (fun a2 => match a2 with | (Sum.inl (a2_0, a2_1)) => some (Sum.inl ((⟨p0, p1, 0, [], a2_0⟩ : Aa), a2_1)) | (Sum.inr a2) => some (Sum.inr a2))) | (Sum.inr a1) => some (Sum.inr a1)))
theorem Bz.body {Γ : Ent} {K : Nat} {R : Ah} (hR : R.Ok) {p0 : Int} {p1 : List UInt8} {p2 : Ab} {r : (Aa × Ab) ⊕ Int} (h : Bz.F K R p0 p1 p2 = some r) : AWp V P 16 100 Γ (Tryz.f106.body.getD .skip) (EndsX P V Tryz.f106 (Bz.rep p0 p1 p2 r) (Bz.post p0 p1 p2 r)) ⟨args0 0 [.P 0, .I p0, .cv (.str p1)], [(0, .raw (Af p2))]⟩ := by
 unfold Bz.F at h
 refine sg0 L 200 <| awp_seq ?_
 obtain ⟨a1, h1, h⟩ := bind_some h
 rcases a1 with a1 | a1
 ·dsimp only at h
  refine rg L 202 [] [] [(1, (ef0 (.tup []) [(0, .raw (Af a1))]))] (pl1 (Aq.okE h1)) ?_
  refine awp_seq ?_
  obtain ⟨a2, h2, h⟩ := bind_some h
  rcases a2 with ⟨a2_0, a2_1⟩ | a2
  ·dsimp only at h
   refine rg L 205 [] [] [(5, (ef0 (.cv (.ro .Ae a2_0)) [(0, .raw (Af a2_1))]))] (pl1 (hR.Bk h2)) ?_
   refine awp_turn (Turns.trans (Turns.kk [6] [0, 200]) (Turns.rr [(0, 0), (200, 100)])) ?_
   refine awp_ret ?_
   cases h
   exact xr0
  ·obtain ⟨a2, rfl⟩ : ∃ z, z = a2 := ⟨_, rfl⟩
   dsimp only at h
   refine qn L 205 [] [] [] 5 (ef0 (.tup []) []) (ofi 49 a2) (pl1 (hR.Bk h2)) ?_
   cases h
   exact rfl
 ·obtain ⟨a1, rfl⟩ : ∃ z, z = a1 := ⟨_, rfl⟩
  dsimp only at h
  refine qn L 202 [] [] [] 1 (ef0 (.tup []) []) (ofi 49 a1) (pl1 (Aq.okE h1)) ?_
  cases h
  exact rfl
def Cg.F (K : Nat) (R : Ah) (p0 : Ab) : Option (Int ⊕ (Aa × Ab)) := (Option.bind (Bx K p0) (fun a1 => (if a1.Kind ≠ 4 then (Option.bind (Bs K p0) (fun a2 => some (Sum.inl a2))) else (Option.bind (D5 K p0) (fun (a3_0, a3_1) => (Option.bind (Aq K ([58] : List UInt8) a3_1) (fun a4 => match a4 with | (Sum.inl a4) => (Option.bind (R.Aw a4) (fun a5 => match a5 with | (Sum.inl a5) => some (Sum.inl a5) | (Sum.inr (a5_0, a5_1)) => some (Sum.inr ((⟨9, [], 0, a3_0.Text, ([(⟨a5_0.Op, a5_0.Name, a5_0.Int, a5_0.Text, a5_0.Kids⟩ : Aa)] : List Aa)⟩ : Aa), a5_1)))) | (Sum.inr a4) => some (Sum.inl a4))))))))
theorem Cg.body {Γ : Ent} {K : Nat} {R : Ah} (hR : R.Ok) {p0 : Ab} {r : Int ⊕ (Aa × Ab)} (h : Cg.F K R p0 = some r) : AWp V P 21 100 Γ (Tryz.f166.body.getD .skip) (EndsX P V Tryz.f166 (Cg.rep p0 r) (Cg.post p0 r)) ⟨args0 0 [.P 0], [(0, .raw (Af p0))]⟩ := by
 unfold Cg.F at h
 refine sg0 L 200 <| awp_seq <| awp_seq ?_
 obtain ⟨a1, h1, h⟩ := bind_some h
 refine rg L 202 [] [(1, .agg (Ea a1))] [] (plt (Bx.ok h1)) ?_
 rcases ite_some h with ⟨c1, h⟩ | ⟨c1, h⟩
 ·refine tT c1 ?_
  obtain ⟨a2, h2, h⟩ := bind_some h
  refine qn L 207 [] [] [] 1 (ef0 (.tup []) []) (ofi 49 a2) (pl1 (Bs.okE h2)) ?_
  cases h
  exact rfl
 refine fF c1 <| awp_skip' <| awp_seq ?_
 obtain ⟨⟨a3_0, a3_1⟩, h3, h⟩ := bind_some h
 dsimp only at h
 refine rg L 210 [] [] [(1, (ef0 (.agg (Ea a3_0)) [(0, .raw (Af a3_1))]))] (pl1 (D5.okE h3)) ?_
 refine awp_seq ?_
 obtain ⟨a4, h4, h⟩ := bind_some h
 rcases a4 with a4 | a4
 ·dsimp only at h
  refine rg L 217 [] [] [(1, (ef0 (.tup []) [(0, .raw (Af a4))]))] (pl1 (Aq.okE h4)) ?_
  refine awp_seq ?_
  obtain ⟨a5, h5, h⟩ := bind_some h
  rcases a5 with a5 | a5
  ·dsimp only at h
   refine qn L 220 [] [] [] 1 (ef0 (.tup []) []) (ofi 49 a5) (pl1 (hR.Aw h5)) ?_
   cases h
   exact rfl
  ·obtain ⟨a5_0, a5_1⟩ := a5
   dsimp only at h
   refine rg L 220 [] [] [(1, (ef0 (.agg (Ag a5_0)) [(0, .raw (Af a5_1))]))] (pl1 (hR.Aw h5)) ?_
   refine sg0 L 226 <| awp_turn (Turns.trans (Turns.kk [2] [0, 200]) (Turns.rr [(0, 0), (200, 100)])) ?_
   refine awp_ret ?_
   cases h
   exact xr0
 ·obtain ⟨a4, rfl⟩ : ∃ z, z = a4 := ⟨_, rfl⟩
  dsimp only at h
  refine qn L 217 [] [] [] 1 (ef0 (.tup []) []) (ofi 49 a4) (pl1 (Aq.okE h4)) ?_
  cases h
  exact rfl
def Bu.l15 (K : Nat) (R : Ah) : Nat → (List As) → Int → (List Aa) → Option (Out (((List Aa) × Ab) ⊕ Int) ((List As) × Int × (List Aa)))
 | 0, _, _, _ => none
 | k + 1, xh0_0_15h, xh0_1_15h, x23100 => (Option.bind (Ao K ([44] : List UInt8) (⟨xh0_0_15h, xh0_1_15h⟩ : Ab)) (fun (a3_0, a3_1) => (if a3_0 = true then (Option.bind (R.Cg a3_1) (fun a4 => match a4 with | (Sum.inl a4) => some (Out.done (Sum.inr a4)) | (Sum.inr (a4_0, a4_1)) => (if (x23100.length + ([(⟨a4_0.Op, a4_0.Name, a4_0.Int, a4_0.Text, a4_0.Kids⟩ : Aa)] : List Aa).length) * 72 ≤ 140737488355328 then Bu.l15 K R k a4_1.l a4_1.i (x23100 ++ ([(⟨a4_0.Op, a4_0.Name, a4_0.Int, a4_0.Text, a4_0.Kids⟩ : Aa)] : List Aa)) else none))) else some (Out.go (a3_1.l, a3_1.i, x23100)))))
def Bu.F (K : Nat) (R : Ah) (p0 : List UInt8) (p1 : Ab) : Option (((List Aa) × Ab) ⊕ Int) := (Option.bind (Ao K p0 p1) (fun (a1_0, a1_1) => (if a1_0 = true then some (Sum.inl (([] : List Aa), a1_1)) else (Option.bind (R.Cg a1_1) (fun a2 => match a2 with | (Sum.inl a2) => some (Sum.inr a2) | (Sum.inr (a2_0, a2_1)) => (obind (Bu.l15 K R K a2_1.l a2_1.i ([(⟨a2_0.Op, a2_0.Name, a2_0.Int, a2_0.Text, a2_0.Kids⟩ : Aa)] : List Aa) : Option (Out (((List Aa) × Ab) ⊕ Int) ((List As) × Int × (List Aa)))) (fun r => r) (fun (xh0_0_15, xh0_1_15, x23000) => (Option.bind (Aq K p0 (⟨xh0_0_15, xh0_1_15⟩ : Ab)) (fun a5 => match a5 with | (Sum.inl a5) => some (Sum.inl (x23000, a5)) | (Sum.inr a5) => some (Sum.inr a5))))))))))
theorem Bu.body {Γ : Ent} {K : Nat} {R : Ah} (hR : R.Ok) {p0 : List UInt8} {p1 : Ab} {r : ((List Aa) × Ab) ⊕ Int} (h : Bu.F K R p0 p1 = some r) : AWp V P 25 100 Γ (Tryz.f48.body.getD .skip) (EndsX P V Tryz.f48 (Bu.rep p0 p1 r) (Bu.post p0 p1 r)) ⟨args0 0 [.P 0, .cv (.str p0), .cv (.fn (.func 166) [.P 0] [])], [(0, .raw (Af p1))]⟩ := by
 unfold Bu.F at h
 refine sg0 L 200 <| awp_seq <| awp_seq ?_
 obtain ⟨⟨a1_0, a1_1⟩, h1, h⟩ := bind_some h
 dsimp only at h
 refine rg L 202 [] [] [(2, (ef0 (.B a1_0) [(0, .raw (Af a1_1))]))] (pl1 (Ao.okE h1)) ?_
 rcases ite_some h with ⟨c1, h⟩ | ⟨c1, h⟩
 ·refine tt c1 <| sg0 L 206 <| awp_ret ?_
  cases h
  exact xr0
 refine fN c1 <| awp_skip' <| awp_seq ?_
 obtain ⟨a2, h2, h⟩ := bind_some h
 rcases a2 with a2 | a2
 ·dsimp only at h
  refine qn L 100208 [] [] [] 1 (ef0 (.tup []) []) (ofi 49 a2) (pl1 (hR.Cg h2)) ?_
  cases h
  exact rfl
 ·obtain ⟨a2_0, a2_1⟩ := a2
  dsimp only at h
  refine rg L 100208 [] [] [(1, (ef0 (.agg (Ag a2_0)) [(0, .raw (Af a2_1))]))] (pl1 (hR.Cg h2)) ?_
  refine awp_seq <| awp_block <| awp_turn (Turns.trans (Turns.kk [0, 1, 2, 7] [0, 100210]) (Turns.rr [(0, 0), (100210, 23100)])) ?_
  refine kp (S' := ⟨[(0, .P 0), (1, .cv (.str p0)), (2, .cv (.fn (.func 166) [.P 0] [])), (7, .cv (.own .Ae 23100))], [(0, .raw (Af a2_1)), (23100, .lst .Ae ([(⟨a2_0.Op, a2_0.Name, a2_0.Int, a2_0.Text, a2_0.Kids⟩ : Aa)] : List Aa))]⟩) ?_
  obtain ⟨o1, hp1, h⟩ := obind_some h
  refine awp_conseq (Q' := fun e S => (e = .exit 0 ∧ ∃ xh0_0_15 : List As, ∃ xh0_1_15 : Int, ∃ x23000 : List Aa, S = ⟨[(0, .P 0), (1, .cv (.str p0)), (7, .cv (.own .Ae 23000))], [(0, .raw [.ro .Am xh0_0_15, .I xh0_1_15]), (23000, .lst .Ae x23000)]⟩ ∧ Out.go (xh0_0_15, xh0_1_15, x23000) = o1) ∨ ((e = .ret ∨ ∃ ch, e = .panic ch) ∧ ∃ a, Out.done a = o1 ∧ EndsX P V Tryz.f48 (Bu.rep p0 p1 a) (Bu.post p0 p1 a) e S)) (awp_loop (fun k S => ∃ xh0_0_15h : List As, ∃ xh0_1_15h : Int, ∃ x23100 : List Aa, S = ⟨[(0, .P 0), (1, .cv (.str p0)), (2, .cv (.fn (.func 166) [.P 0] [])), (7, .cv (.own .Ae 23100))], [(0, .raw [.ro .Am xh0_0_15h, .I xh0_1_15h]), (23100, .lst .Ae x23100)]⟩ ∧ Bu.l15 K R k xh0_0_15h xh0_1_15h x23100 = some o1) ?_ ⟨_, _, _, rfl, hp1⟩) ?_
  ·clear h hp1
   intro k S hS
   obtain ⟨xh0_0_15h, xh0_1_15h, x23100, rfl, h⟩ := hS
   cases k with
   | zero => cases h
   | succ k =>
   unfold Bu.l15 at h
   refine awp_seq <| awp_seq ?_
   obtain ⟨⟨a3_0, a3_1⟩, h3, h⟩ := bind_some h
   dsimp only at h
   refine rg L 213 [] [] [(1, (ef0 (.B a3_0) [(0, .raw (Af a3_1))]))] (pl1 (Ao.okE h3)) ?_
   rcases ite_some h with ⟨c2, h⟩ | ⟨c2, h⟩
   ·refine tt c2 <| awp_skip' <| awp_block ?_
    obtain ⟨a4, h4, h⟩ := bind_some h
    rcases a4 with a4 | a4
    ·dsimp only at h
     refine qn L 216 [] [] [] 2 (ef0 (.tup []) []) (ofi 49 a4) (pl1 (hR.Cg h4)) ?_
     cases h
     exact .inr ⟨.inr ⟨_, rfl⟩, _, rfl, rfl⟩
    ·obtain ⟨a4_0, a4_1⟩ := a4
     dsimp only at h
     obtain ⟨g1, h⟩ := guard_some h
     refine ar L 216 [] [] [(2, (ef0 (.agg (Ag a4_0)) [(0, .raw (Af a4_1))]))] (cs := [ECall V P 166 [.P 0] [(0, .raw (Af a3_1))] [0] (.agg (Ag a4_0)) [(0, .raw (Af a4_1))], (x23100.length + ([(⟨a4_0.Op, a4_0.Name, a4_0.Int, a4_0.Text, a4_0.Kids⟩ : Aa)] : List Aa).length) * 72 ≤ 140737488355328, True]) (S' := ⟨[(0, .P 0), (1, .cv (.str p0)), (2, .cv (.fn (.func 166) [.P 0] [])), (7, .cv (.own .Ae 23100))], [(0, .raw (Af a4_1)), (23100, .lst .Ae (x23100 ++ ([(⟨a4_0.Op, a4_0.Name, a4_0.Int, a4_0.Text, a4_0.Kids⟩ : Aa)] : List Aa)))]⟩) (And.intro (hR.Cg h4) (And.intro g1 trivial)) ?_
     exact ⟨k, Nat.lt_succ_self k, _, _, _, rfl, h⟩
   refine fN c2 <| awp_turn (Turns.trans (Turns.kk [0, 1, 7] [0, 23100]) (Turns.rr [(0, 0), (23100, 23000)])) ?_
   refine ex (S' := ⟨[(0, .P 0), (1, .cv (.str p0)), (7, .cv (.own .Ae 23000))], [(0, .raw (Af a3_1)), (23000, .lst .Ae x23100)]⟩) ?_
   cases h
   exact .inl ⟨rfl, _, _, _, rfl, rfl⟩
  ·rintro e S (⟨rfl, xh0_0_15, xh0_1_15, x23000, rfl, rfl⟩ | ⟨he, a, rfl, hr⟩)
   ·rcases h with ⟨_, e1, h⟩ | ⟨_, e1, h⟩
    ·cases e1
    ·have e2 := Out.go.inj e1
     subst e2
     dsimp only at h
     refine ⟨_, Turns.refl, ?_⟩
     refine awp_seq ?_
     obtain ⟨a5, h5, h⟩ := bind_some h
     rcases a5 with a5 | a5
     ·dsimp only at h
      refine rg L 223 [] [] [(2, (ef0 (.tup []) [(0, .raw (Af a5))]))] (pl1 (Aq.okE h5)) ?_
      refine sg0 L 227 <| awp_turn (Turns.trans (Turns.kk [6] [0, 23000]) (Turns.fz 23000)) ?_
      refine awp_ret ?_
      cases h
      exact xr0
     ·obtain ⟨a5, rfl⟩ : ∃ z, z = a5 := ⟨_, rfl⟩
      dsimp only at h
      refine qn L 223 [] [] [] 2 (ef0 (.tup []) []) (ofi 49 a5) (pl1 (Aq.okE h5)) ?_
      cases h
      exact rfl
   ·rcases h with ⟨_, e1, h⟩ | ⟨_, e1, h⟩
    ·have e2 := Out.done.inj e1
     subst e2
     subst h
     rcases he with rfl | ⟨ch, rfl⟩
     ·exact ⟨_, Turns.refl, hr⟩
     ·exact ⟨_, Turns.refl, hr⟩
    ·cases e1
def B5.F (K : Nat) (R : Ah) (p0 : Ab) : Option ((Aa × Ab) ⊕ Int) := (Option.bind (D8 K p0) (fun (a1_0, a1_1, a1_2) => (if a1_1 = true then some (Sum.inl (a1_0, a1_2)) else (Option.bind (Bx K a1_2) (fun a2 => (if a2.Kind = 1 then (Option.bind (Au K a1_2) (fun a3 => match a3 with | (Sum.inl a3) => some (Sum.inr a3) | (Sum.inr (a3_0, a3_1)) => (Option.bind (Ec K a3_1 ([40] : List UInt8)) (fun a4 => (if a4 = true then (Option.bind (R.Bz 10 a3_0 a3_1) (fun a5 => match a5 with | (Sum.inl (a5_0, a5_1)) => some (Sum.inl (a5_0, a5_1)) | (Sum.inr a5) => some (Sum.inr a5))) else some (Sum.inl ((⟨6, a3_0, 0, [], ([] : List Aa)⟩ : Aa), a3_1))))))) else (Option.bind (Ao K ([91] : List UInt8) a1_2) (fun (a6_0, a6_1) => (if a6_0 = true then (Option.bind (R.Bk ([93] : List UInt8) a6_1) (fun a7 => match a7 with | (Sum.inl (a7_0, a7_1)) => some (Sum.inl ((⟨7, [], 0, [], a7_0⟩ : Aa), a7_1)) | (Sum.inr a7) => some (Sum.inr a7))) else (Option.bind (Ao K ([123] : List UInt8) a6_1) (fun (a8_0, a8_1) => (if a8_0 = true then (Option.bind (R.Bu ([125] : List UInt8) a8_1) (fun a9 => match a9 with | (Sum.inl (a9_0, a9_1)) => some (Sum.inl ((⟨8, [], 0, [], a9_0⟩ : Aa), a9_1)) | (Sum.inr a9) => some (Sum.inr a9))) else (Option.bind (Aq K ([40] : List UInt8) a8_1) (fun a10 => match a10 with | (Sum.inl a10) => (Option.bind (R.Aw a10) (fun a11 => match a11 with | (Sum.inl a11) => some (Sum.inr a11) | (Sum.inr (a11_0, a11_1)) => (Option.bind (Aq K ([41] : List UInt8) a11_1) (fun a12 => match a12 with | (Sum.inl a12) => some (Sum.inl (a11_0, a12)) | (Sum.inr a12) => some (Sum.inr a12))))) | (Sum.inr a10) => some (Sum.inr a10)))))))))))))))
theorem B5.body {Γ : Ent} {K : Nat} {R : Ah} (hR : R.Ok) {p0 : Ab} {r : (Aa × Ab) ⊕ Int} (h : B5.F K R p0 = some r) : AWp V P 51 100 Γ (Tryz.f163.body.getD .skip) (EndsX P V Tryz.f163 (B5.rep p0 r) (B5.post p0 r)) ⟨args0 0 [.P 0], [(0, .raw (Af p0))]⟩ := by
 unfold B5.F at h
 refine sg0 L 200 <| awp_seq <| awp_seq ?_
 obtain ⟨⟨a1_0, a1_1, a1_2⟩, h1, h⟩ := bind_some h
 dsimp only at h
 refine rg L 202 [] [] [(1, (ef0 (.tup [.agg (Ag a1_0), .B a1_1]) [(0, .raw (Af a1_2))]))] (pl1 (D8.okE h1)) ?_
 refine sg0 L 211 ?_
 rcases ite_some h with ⟨c1, h⟩ | ⟨c1, h⟩
 ·refine tt c1 <| sg0 L 213 <| awp_turn (Turns.trans (Turns.kk [2] [0, 200]) (Turns.rr [(0, 0), (200, 100)])) ?_
  refine awp_ret ?_
  cases h
  exact xr0
 refine fN c1 <| awp_skip' <| awp_seq <| awp_block <| awp_seq ?_
 obtain ⟨a2, h2, h⟩ := bind_some h
 refine rg L 216 [] [(1, .agg (Ea a2))] [] (plt (Bx.ok h2)) ?_
 rcases ite_some h with ⟨c2, h⟩ | ⟨c2, h⟩
 ·refine tT c2 <| awp_seq ?_
  obtain ⟨a3, h3, h⟩ := bind_some h
  rcases a3 with a3 | a3
  ·dsimp only at h
   refine qn L 222 [] [] [] 1 (ef0 (.tup []) []) (ofi 49 a3) (pl1 (Au.okE h3)) ?_
   cases h
   exact rfl
  ·obtain ⟨a3_0, a3_1⟩ := a3
   dsimp only at h
   refine rg L 222 [] [] [(1, (ef0 (.cv (.str a3_0)) [(0, .raw (Af a3_1))]))] (pl1 (Au.okE h3)) ?_
   refine awp_seq <| awp_seq ?_
   obtain ⟨a4, h4, h⟩ := bind_some h
   refine rg L 226 [] [(1, .B a4)] [] (plt (Ec.ok h4)) ?_
   rcases ite_some h with ⟨c3, h⟩ | ⟨c3, h⟩
   ·refine tt c3 <| awp_seq ?_
    obtain ⟨a5, h5, h⟩ := bind_some h
    rcases a5 with ⟨a5_0, a5_1⟩ | a5
    ·dsimp only at h
     refine rg L 229 [] [] [(2, (ef0 (.agg (Ag a5_0)) [(0, .raw (Af a5_1))]))] (pl1 (hR.Bz h5)) ?_
     refine awp_turn (Turns.trans (Turns.kk [2] [0, 200]) (Turns.rr [(0, 0), (200, 100)])) ?_
     refine awp_ret ?_
     cases h
     exact xr0
    ·obtain ⟨a5, rfl⟩ : ∃ z, z = a5 := ⟨_, rfl⟩
     dsimp only at h
     refine qn L 229 [] [] [] 2 (ef0 (.tup []) []) (ofi 49 a5) (pl1 (hR.Bz h5)) ?_
     cases h
     exact rfl
   refine fN c3 <| awp_skip' <| sg0 L 234 <| awp_turn (Turns.trans (Turns.kk [2] [0, 200]) (Turns.rr [(0, 0), (200, 100)])) ?_
   refine awp_ret ?_
   cases h
   exact xr0
 refine fF c2 <| awp_seq ?_
 obtain ⟨⟨a6_0, a6_1⟩, h6, h⟩ := bind_some h
 dsimp only at h
 refine rg L 238 [] [] [(1, (ef0 (.B a6_0) [(0, .raw (Af a6_1))]))] (pl1 (Ao.okE h6)) ?_
 rcases ite_some h with ⟨c4, h⟩ | ⟨c4, h⟩
 ·refine tt c4 <| awp_seq ?_
  obtain ⟨a7, h7, h⟩ := bind_some h
  rcases a7 with ⟨a7_0, a7_1⟩ | a7
  ·dsimp only at h
   refine rg L 242 [] [] [(3, (ef0 (.cv (.ro .Ae a7_0)) [(0, .raw (Af a7_1))]))] (pl1 (hR.Bk h7)) ?_
   refine awp_turn (Turns.trans (Turns.kk [2] [0, 200]) (Turns.rr [(0, 0), (200, 100)])) ?_
   refine awp_ret ?_
   cases h
   exact xr0
  ·obtain ⟨a7, rfl⟩ : ∃ z, z = a7 := ⟨_, rfl⟩
   dsimp only at h
   refine qn L 242 [] [] [] 3 (ef0 (.tup []) []) (ofi 49 a7) (pl1 (hR.Bk h7)) ?_
   cases h
   exact rfl
 refine fN c4 <| awp_seq ?_
 obtain ⟨⟨a8_0, a8_1⟩, h8, h⟩ := bind_some h
 dsimp only at h
 refine rg L 249 [] [] [(1, (ef0 (.B a8_0) [(0, .raw (Af a8_1))]))] (pl1 (Ao.okE h8)) ?_
 rcases ite_some h with ⟨c5, h⟩ | ⟨c5, h⟩
 ·refine tt c5 <| awp_seq ?_
  obtain ⟨a9, h9, h⟩ := bind_some h
  rcases a9 with ⟨a9_0, a9_1⟩ | a9
  ·dsimp only at h
   refine rg L 253 [] [] [(3, (ef0 (.cv (.ro .Ae a9_0)) [(0, .raw (Af a9_1))]))] (pl1 (hR.Bu h9)) ?_
   refine awp_turn (Turns.trans (Turns.kk [2] [0, 200]) (Turns.rr [(0, 0), (200, 100)])) ?_
   refine awp_ret ?_
   cases h
   exact xr0
  ·obtain ⟨a9, rfl⟩ : ∃ z, z = a9 := ⟨_, rfl⟩
   dsimp only at h
   refine qn L 253 [] [] [] 3 (ef0 (.tup []) []) (ofi 49 a9) (pl1 (hR.Bu h9)) ?_
   cases h
   exact rfl
 refine fN c5 <| awp_skip' <| awp_seq ?_
 obtain ⟨a10, h10, h⟩ := bind_some h
 rcases a10 with a10 | a10
 ·dsimp only at h
  refine rg L 260 [] [] [(1, (ef0 (.tup []) [(0, .raw (Af a10))]))] (pl1 (Aq.okE h10)) ?_
  refine awp_seq ?_
  obtain ⟨a11, h11, h⟩ := bind_some h
  rcases a11 with a11 | a11
  ·dsimp only at h
   refine qn L 263 [] [] [] 1 (ef0 (.tup []) []) (ofi 49 a11) (pl1 (hR.Aw h11)) ?_
   cases h
   exact rfl
  ·obtain ⟨a11_0, a11_1⟩ := a11
   dsimp only at h
   refine rg L 263 [] [] [(1, (ef0 (.agg (Ag a11_0)) [(0, .raw (Af a11_1))]))] (pl1 (hR.Aw h11)) ?_
   refine awp_seq ?_
   obtain ⟨a12, h12, h⟩ := bind_some h
   rcases a12 with a12 | a12
   ·dsimp only at h
    refine rg L 268 [] [] [(1, (ef0 (.tup []) [(0, .raw (Af a12))]))] (pl1 (Aq.okE h12)) ?_
    refine sg0 L 271 <| awp_turn (Turns.trans (Turns.kk [2] [0, 200]) (Turns.rr [(0, 0), (200, 100)])) ?_
    refine awp_ret ?_
    cases h
    exact xr0
   ·obtain ⟨a12, rfl⟩ : ∃ z, z = a12 := ⟨_, rfl⟩
    dsimp only at h
    refine qn L 268 [] [] [] 1 (ef0 (.tup []) []) (ofi 49 a12) (pl1 (Aq.okE h12)) ?_
    cases h
    exact rfl
 ·obtain ⟨a10, rfl⟩ : ∃ z, z = a10 := ⟨_, rfl⟩
  dsimp only at h
  refine qn L 260 [] [] [] 1 (ef0 (.tup []) []) (ofi 49 a10) (pl1 (Aq.okE h10)) ?_
  cases h
  exact rfl
def Bi.l6 (K : Nat) (R : Ah) : Nat → (List As) → Int → Int → (List UInt8) → Int → (List UInt8) → (List Aa) → Option (Out (Int ⊕ (Aa × Ab)) Unit)
 | 0, _, _, _, _, _, _, _ => none
 | k + 1, xh0_0_6h, xh0_1_6h, x21301_0, x21301_1, x21301_2, x21301_3, x21301_4 => (Option.bind (Ao K ([46] : List UInt8) (⟨xh0_0_6h, xh0_1_6h⟩ : Ab)) (fun (a2_0, a2_1) => (if a2_0 = true then (Option.bind (Au K a2_1) (fun a3 => match a3 with | (Sum.inl a3) => some (Out.done (Sum.inl a3)) | (Sum.inr (a3_0, a3_1)) => Bi.l6 K R k a3_1.l a3_1.i 29 a3_0 0 [] ([(⟨x21301_0, x21301_1, x21301_2, x21301_3, x21301_4⟩ : Aa)] : List Aa))) else (Option.bind (Ao K ([91] : List UInt8) a2_1) (fun (a4_0, a4_1) => (if a4_0 = true then (Option.bind (R.Aw a4_1) (fun a5 => match a5 with | (Sum.inl a5) => some (Out.done (Sum.inl a5)) | (Sum.inr (a5_0, a5_1)) => (Option.bind (C3 K 28 ([(⟨x21301_0, x21301_1, x21301_2, x21301_3, x21301_4⟩ : Aa), (⟨a5_0.Op, a5_0.Name, a5_0.Int, a5_0.Text, a5_0.Kids⟩ : Aa)] : List Aa)) (fun a6 => (Option.bind (Aq K ([93] : List UInt8) a5_1) (fun a7 => match a7 with | (Sum.inl a7) => Bi.l6 K R k a7.l a7.i a6.Op a6.Name a6.Int a6.Text a6.Kids | (Sum.inr a7) => some (Out.done (Sum.inl a7)))))))) else some (Out.done (Sum.inr ((⟨x21301_0, x21301_1, x21301_2, x21301_3, x21301_4⟩ : Aa), a4_1)))))))))
def Bi.F (K : Nat) (R : Ah) (p0 : Ab) : Option (Int ⊕ (Aa × Ab)) := (Option.bind (R.B5 p0) (fun a1 => match a1 with | (Sum.inl (a1_0, a1_1)) => (obind (Bi.l6 K R K a1_1.l a1_1.i a1_0.Op a1_0.Name a1_0.Int a1_0.Text a1_0.Kids : Option (Out (Int ⊕ (Aa × Ab)) Unit)) (fun r => r) (fun _ => none)) | (Sum.inr a1) => some (Sum.inl a1)))
theorem Bi.body {Γ : Ent} {K : Nat} {R : Ah} (hR : R.Ok) {p0 : Ab} {r : Int ⊕ (Aa × Ab)} (h : Bi.F K R p0 = some r) : AWp V P 25 100 Γ (Tryz.f156.body.getD .skip) (EndsX P V Tryz.f156 (Bi.rep p0 r) (Bi.post p0 r)) ⟨args0 0 [.P 0], [(0, .raw (Af p0))]⟩ := by
 unfold Bi.F at h
 refine sg0 L 200 <| awp_seq ?_
 obtain ⟨a1, h1, h⟩ := bind_some h
 rcases a1 with ⟨a1_0, a1_1⟩ | a1
 ·dsimp only at h
  refine rg L 202 [] [] [(1, (ef0 (.agg (Ag a1_0)) [(0, .raw (Af a1_1))]))] (pl1 (hR.B5 h1)) ?_
  refine awp_block <| awp_turn (Turns.trans (Turns.kk [0, 2, 3] [0, 200, 204]) (Turns.rr [(0, 0), (200, 21300), (204, 21301)])) ?_
  refine kp (S' := ⟨[(0, .P 0), (2, .P 21300), (3, .P 21301)], [(0, .raw (Af a1_1)), (21300, .raw [.I 0, .str [], .I 0, .str [], .N]), (21301, .raw (Ag a1_0))]⟩) ?_
  obtain ⟨o1, hp1, h⟩ := obind_some h
  refine awp_conseq (Q' := fun e S => False ∨ ((e = .ret ∨ ∃ ch, e = .panic ch) ∧ ∃ a, Out.done a = o1 ∧ EndsX P V Tryz.f156 (Bi.rep p0 a) (Bi.post p0 a) e S)) (awp_loop (fun k S => ∃ xh0_0_6h : List As, ∃ xh0_1_6h : Int, ∃ x21301_0 : Int, ∃ x21301_1 : List UInt8, ∃ x21301_2 : Int, ∃ x21301_3 : List UInt8, ∃ x21301_4 : List Aa, S = ⟨[(0, .P 0), (2, .P 21300), (3, .P 21301)], [(0, .raw [.ro .Am xh0_0_6h, .I xh0_1_6h]), (21300, .raw [.I 0, .str [], .I 0, .str [], .N]), (21301, .raw [.I x21301_0, .str x21301_1, .I x21301_2, .str x21301_3, .ro .Ae x21301_4])]⟩ ∧ Bi.l6 K R k xh0_0_6h xh0_1_6h x21301_0 x21301_1 x21301_2 x21301_3 x21301_4 = some o1) ?_ ⟨_, _, _, _, _, _, _, rfl, hp1⟩) ?_
  ·clear h hp1
   intro k S hS
   obtain ⟨xh0_0_6h, xh0_1_6h, x21301_0, x21301_1, x21301_2, x21301_3, x21301_4, rfl, h⟩ := hS
   cases k with
   | zero => cases h
   | succ k =>
   unfold Bi.l6 at h
   refine awp_block <| awp_block <| awp_seq ?_
   obtain ⟨⟨a2_0, a2_1⟩, h2, h⟩ := bind_some h
   dsimp only at h
   refine rg L 207 [] [] [(1, (ef0 (.B a2_0) [(0, .raw (Af a2_1))]))] (pl1 (Ao.okE h2)) ?_
   rcases ite_some h with ⟨c1, h⟩ | ⟨c1, h⟩
   ·refine tt c1 ?_
    obtain ⟨a3, h3, h⟩ := bind_some h
    rcases a3 with a3 | a3
    ·dsimp only at h
     refine qP L mixed 211 [] [] [] [0] 1 (ef0 (.tup []) []) (ofi 49 a3) (plc (Au.okE h3) (plc (Au.okE h3) (pl1 (Au.okE h3)))) ?_
     cases h
     exact .inr ⟨.inr ⟨_, rfl⟩, _, rfl, rfl⟩
    ·obtain ⟨a3_0, a3_1⟩ := a3
     dsimp only at h
     refine hB L mixed 211 [] [] [(1, (ef0 (.cv (.str a3_0)) [(0, .raw (Af a3_1))]))] [0] 3 (plc (Au.okE h3) (plc (Au.okE h3) (pl1 (Au.okE h3)))) (S' := ⟨[(0, .P 0), (2, .P 21300), (3, .P 21301)], [(0, .raw (Af a3_1)), (21300, .raw [.I 0, .str [], .I 0, .str [], .N]), (21301, .raw [.I 29, .str a3_0, .I 0, .str [], .ro .Ae ([(⟨x21301_0, x21301_1, x21301_2, x21301_3, x21301_4⟩ : Aa)] : List Aa)])]⟩) ?_
     exact ⟨k, Nat.lt_succ_self k, _, _, _, _, _, _, _, rfl, h⟩
   refine fN c1 <| awp_seq ?_
   obtain ⟨⟨a4_0, a4_1⟩, h4, h⟩ := bind_some h
   dsimp only at h
   refine rg L 218 [] [] [(1, (ef0 (.B a4_0) [(0, .raw (Af a4_1))]))] (pl1 (Ao.okE h4)) ?_
   rcases ite_some h with ⟨c2, h⟩ | ⟨c2, h⟩
   ·refine tt c2 <| awp_seq ?_
    obtain ⟨a5, h5, h⟩ := bind_some h
    rcases a5 with a5 | a5
    ·dsimp only at h
     refine qP L mixed 222 [] [] [] [1] 2 (ef0 (.tup []) []) (ofi 49 a5) (pl2 (hR.Aw h5) (hR.Aw h5)) ?_
     cases h
     exact .inr ⟨.inr ⟨_, rfl⟩, _, rfl, rfl⟩
    ·obtain ⟨a5_0, a5_1⟩ := a5
     dsimp only at h
     obtain ⟨a6, h6, h⟩ := bind_some h
     refine hB L mixed 222 [] [(4, .agg (Ag a6))] [(2, (ef0 (.agg (Ag a5_0)) [(0, .raw (Af a5_1))]))] [1] 2 (plc (hR.Aw h5) (plc (C3.ok h6) (plc trivial (plc (hR.Aw h5) (plc (C3.ok h6) (pl1 trivial)))))) (S' := ⟨[(0, .P 0), (2, .P 21300), (3, .P 21301)], [(0, .raw (Af a5_1)), (21300, .raw [.I 0, .str [], .I 0, .str [], .N]), (21301, .raw (Ag a6))]⟩) ?_
     obtain ⟨a7, h7, h⟩ := bind_some h
     rcases a7 with a7 | a7
     ·dsimp only at h
      refine ar L 229 [] [] [(1, (ef0 (.tup []) [(0, .raw (Af a7))]))] (cs := [ECall V P 46 [.P 0, .cv (.str ([93] : List UInt8))] [(0, .raw (Af a5_1))] [0] (.tup []) [(0, .raw (Af a7))]]) (S' := ⟨[(0, .P 0), (2, .P 21300), (3, .P 21301)], [(0, .raw (Af a7)), (21300, .raw [.I 0, .str [], .I 0, .str [], .N]), (21301, .raw (Ag a6))]⟩) (Aq.okE h7) ?_
      exact ⟨k, Nat.lt_succ_self k, _, _, _, _, _, _, _, rfl, h⟩
     ·obtain ⟨a7, rfl⟩ : ∃ z, z = a7 := ⟨_, rfl⟩
      dsimp only at h
      refine qn L 229 [] [] [] 1 (ef0 (.tup []) []) (ofi 49 a7) (pl1 (Aq.okE h7)) ?_
      cases h
      exact .inr ⟨.inr ⟨_, rfl⟩, _, rfl, rfl⟩
   refine fN c2 <| sg0 L 232 <| awp_turn (Turns.trans (Turns.kk [2] [0, 21300]) (Turns.rr [(0, 0), (21300, 100)])) ?_
   refine awp_ret ?_
   cases h
   exact .inr ⟨.inl rfl, _, rfl, xr0⟩
  ·rintro e S (hf | ⟨he, a, rfl, hr⟩)
   ·exact hf.elim
   ·rcases h with ⟨_, e1, h⟩ | ⟨_, e1, h⟩
    ·have e2 := Out.done.inj e1
     subst e2
     subst h
     rcases he with rfl | ⟨ch, rfl⟩
     ·exact ⟨_, Turns.refl, hr⟩
     ·exact ⟨_, Turns.refl, hr⟩
    ·cases e1
 ·obtain ⟨a1, rfl⟩ : ∃ z, z = a1 := ⟨_, rfl⟩
  dsimp only at h
  refine qn L 202 [] [] [] 1 (ef0 (.tup []) []) (ofi 49 a1) (pl1 (hR.B5 h1)) ?_
  cases h
  exact rfl
def Bj.F (K : Nat) (R : Ah) (p0 : Ab) : Option (Int ⊕ (Aa × Ab)) := (Option.bind (Ao K ([45] : List UInt8) p0) (fun (a1_0, a1_1) => (if a1_0 = true then (Option.bind (R.Bj a1_1) (fun a2 => match a2 with | (Sum.inl a2) => some (Sum.inl a2) | (Sum.inr (a2_0, a2_1)) => (Option.bind (C3 K 14 ([(⟨a2_0.Op, a2_0.Name, a2_0.Int, a2_0.Text, a2_0.Kids⟩ : Aa)] : List Aa)) (fun a3 => some (Sum.inr (a3, a2_1)))))) else (Option.bind (Ao K ([97, 119, 97, 105, 116] : List UInt8) a1_1) (fun (a4_0, a4_1) => (if a4_0 = true then (Option.bind (R.Bj a4_1) (fun a5 => match a5 with | (Sum.inl a5) => some (Sum.inl a5) | (Sum.inr (a5_0, a5_1)) => (Option.bind (C3 K 12 ([(⟨a5_0.Op, a5_0.Name, a5_0.Int, a5_0.Text, a5_0.Kids⟩ : Aa)] : List Aa)) (fun a6 => some (Sum.inr (a6, a5_1)))))) else (Option.bind (Ao K ([103, 111] : List UInt8) a4_1) (fun (a7_0, a7_1) => (if a7_0 = true then (Option.bind (Au K a7_1) (fun a8 => match a8 with | (Sum.inl a8) => some (Sum.inl a8) | (Sum.inr (a8_0, a8_1)) => (Option.bind (R.Bz 11 a8_0 a8_1) (fun a9 => match a9 with | (Sum.inl (a9_0, a9_1)) => some (Sum.inr (a9_0, a9_1)) | (Sum.inr a9) => some (Sum.inl a9))))) else (Option.bind (R.Bi a7_1) (fun a10 => match a10 with | (Sum.inl a10) => some (Sum.inl a10) | (Sum.inr (a10_0, a10_1)) => some (Sum.inr (a10_0, a10_1)))))))))))))
theorem Bj.body {Γ : Ent} {K : Nat} {R : Ah} (hR : R.Ok) {p0 : Ab} {r : Int ⊕ (Aa × Ab)} (h : Bj.F K R p0 = some r) : AWp V P 26 100 Γ (Tryz.f146.body.getD .skip) (EndsX P V Tryz.f146 (Bj.rep p0 r) (Bj.post p0 r)) ⟨args0 0 [.P 0], [(0, .raw (Af p0))]⟩ := by
 unfold Bj.F at h
 refine sg0 L 200 <| awp_seq <| awp_block <| awp_seq ?_
 obtain ⟨⟨a1_0, a1_1⟩, h1, h⟩ := bind_some h
 dsimp only at h
 refine rg L 202 [] [] [(1, (ef0 (.B a1_0) [(0, .raw (Af a1_1))]))] (pl1 (Ao.okE h1)) ?_
 rcases ite_some h with ⟨c1, h⟩ | ⟨c1, h⟩
 ·refine tt c1 <| awp_seq ?_
  obtain ⟨a2, h2, h⟩ := bind_some h
  rcases a2 with a2 | a2
  ·dsimp only at h
   refine qn L 206 [] [] [] 1 (ef0 (.tup []) []) (ofi 49 a2) (pl1 (hR.Bj h2)) ?_
   cases h
   exact rfl
  ·obtain ⟨a2_0, a2_1⟩ := a2
   dsimp only at h
   obtain ⟨a3, h3, h⟩ := bind_some h
   refine rg L 206 [] [(3, .agg (Ag a3))] [(1, (ef0 (.agg (Ag a2_0)) [(0, .raw (Af a2_1))]))] (plc (hR.Bj h2) (plc (C3.ok h3) (pl1 trivial))) ?_
   refine awp_turn (Turns.trans (Turns.kk [2] [0, 200]) (Turns.rr [(0, 0), (200, 100)])) ?_
   refine awp_ret ?_
   cases h
   exact xr0
 refine fN c1 <| awp_seq ?_
 obtain ⟨⟨a4_0, a4_1⟩, h4, h⟩ := bind_some h
 dsimp only at h
 refine rg L 212 [] [] [(1, (ef0 (.B a4_0) [(0, .raw (Af a4_1))]))] (pl1 (Ao.okE h4)) ?_
 rcases ite_some h with ⟨c2, h⟩ | ⟨c2, h⟩
 ·refine tt c2 <| awp_seq ?_
  obtain ⟨a5, h5, h⟩ := bind_some h
  rcases a5 with a5 | a5
  ·dsimp only at h
   refine qn L 216 [] [] [] 1 (ef0 (.tup []) []) (ofi 49 a5) (pl1 (hR.Bj h5)) ?_
   cases h
   exact rfl
  ·obtain ⟨a5_0, a5_1⟩ := a5
   dsimp only at h
   obtain ⟨a6, h6, h⟩ := bind_some h
   refine rg L 216 [] [(3, .agg (Ag a6))] [(1, (ef0 (.agg (Ag a5_0)) [(0, .raw (Af a5_1))]))] (plc (hR.Bj h5) (plc (C3.ok h6) (pl1 trivial))) ?_
   refine awp_turn (Turns.trans (Turns.kk [2] [0, 200]) (Turns.rr [(0, 0), (200, 100)])) ?_
   refine awp_ret ?_
   cases h
   exact xr0
 refine fN c2 <| awp_seq ?_
 obtain ⟨⟨a7_0, a7_1⟩, h7, h⟩ := bind_some h
 dsimp only at h
 refine rg L 222 [] [] [(1, (ef0 (.B a7_0) [(0, .raw (Af a7_1))]))] (pl1 (Ao.okE h7)) ?_
 rcases ite_some h with ⟨c3, h⟩ | ⟨c3, h⟩
 ·refine tt c3 <| awp_seq ?_
  obtain ⟨a8, h8, h⟩ := bind_some h
  rcases a8 with a8 | a8
  ·dsimp only at h
   refine qn L 226 [] [] [] 2 (ef0 (.tup []) []) (ofi 49 a8) (pl1 (Au.okE h8)) ?_
   cases h
   exact rfl
  ·obtain ⟨a8_0, a8_1⟩ := a8
   dsimp only at h
   obtain ⟨a9, h9, h⟩ := bind_some h
   rcases a9 with ⟨a9_0, a9_1⟩ | a9
   ·dsimp only at h
    refine rg L 226 [] [] [(2, (ef0 (.cv (.str a8_0)) [(0, .raw (Af a8_1))])), (3, (ef0 (.agg (Ag a9_0)) [(0, .raw (Af a9_1))]))] (pl2 (Au.okE h8) (hR.Bz h9)) ?_
    refine awp_turn (Turns.trans (Turns.kk [2] [0, 200]) (Turns.rr [(0, 0), (200, 100)])) ?_
    refine awp_ret ?_
    cases h
    exact xr0
   ·obtain ⟨a9, rfl⟩ : ∃ z, z = a9 := ⟨_, rfl⟩
    dsimp only at h
    refine qn L 226 [] [] [(2, (ef0 (.cv (.str a8_0)) [(0, .raw (Af a8_1))]))] 3 (ef0 (.tup []) []) (ofi 49 a9) (pl2 (Au.okE h8) (hR.Bz h9)) ?_
    cases h
    exact rfl
 refine fN c3 <| awp_skip' <| awp_seq ?_
 obtain ⟨a10, h10, h⟩ := bind_some h
 rcases a10 with a10 | a10
 ·dsimp only at h
  refine qn L 232 [] [] [] 1 (ef0 (.tup []) []) (ofi 49 a10) (pl1 (hR.Bi h10)) ?_
  cases h
  exact rfl
 ·obtain ⟨a10_0, a10_1⟩ := a10
  dsimp only at h
  refine rg L 232 [] [] [(1, (ef0 (.agg (Ag a10_0)) [(0, .raw (Af a10_1))]))] (pl1 (hR.Bi h10)) ?_
  refine awp_turn (Turns.trans (Turns.kk [2] [0, 200]) (Turns.rr [(0, 0), (200, 100)])) ?_
  refine awp_ret ?_
  cases h
  exact xr0
def Bp.l6 (K : Nat) (R : Ah) (p0 : List (List UInt8)) (p1 : List Int) : Nat → (List As) → Int → Int → (List UInt8) → Int → (List UInt8) → (List Aa) → Option (Out (Int ⊕ (Aa × Ab)) Unit)
 | 0, _, _, _, _, _, _, _ => none
 | k + 1, xh0_0_6h, xh0_1_6h, x21301_0, x21301_1, x21301_2, x21301_3, x21301_4 => (Option.bind (Cy K p0 p1 (⟨xh0_0_6h, xh0_1_6h⟩ : Ab)) (fun (a2_0, a2_1, a2_2) => (if a2_1 = true then (Option.bind (R.Bj a2_2) (fun a3 => match a3 with | (Sum.inl a3) => some (Out.done (Sum.inl a3)) | (Sum.inr (a3_0, a3_1)) => (Option.bind (C3 K a2_0 ([(⟨x21301_0, x21301_1, x21301_2, x21301_3, x21301_4⟩ : Aa), (⟨a3_0.Op, a3_0.Name, a3_0.Int, a3_0.Text, a3_0.Kids⟩ : Aa)] : List Aa)) (fun a4 => Bp.l6 K R p0 p1 k a3_1.l a3_1.i a4.Op a4.Name a4.Int a4.Text a4.Kids)))) else some (Out.done (Sum.inr ((⟨x21301_0, x21301_1, x21301_2, x21301_3, x21301_4⟩ : Aa), a2_2))))))
def Bp.F (K : Nat) (R : Ah) (p0 : List (List UInt8)) (p1 : List Int) (p2 : Ab) : Option (Int ⊕ (Aa × Ab)) := (Option.bind (R.Bj p2) (fun a1 => match a1 with | (Sum.inl a1) => some (Sum.inl a1) | (Sum.inr (a1_0, a1_1)) => (obind (Bp.l6 K R p0 p1 K a1_1.l a1_1.i a1_0.Op a1_0.Name a1_0.Int a1_0.Text a1_0.Kids : Option (Out (Int ⊕ (Aa × Ab)) Unit)) (fun r => r) (fun _ => none))))
theorem Bp.body {Γ : Ent} {K : Nat} {R : Ah} (hR : R.Ok) {p0 : List (List UInt8)} {p1 : List Int} {p2 : Ab} {r : Int ⊕ (Aa × Ab)} (h : Bp.F K R p0 p1 p2 = some r) : AWp V P 30 100 Γ (Tryz.f62.body.getD .skip) (EndsX P V Tryz.f62 (Bp.rep p0 p1 p2 r) (Bp.post p0 p1 p2 r)) ⟨args0 0 [.P 0, .cv (.fn (.func 146) [.P 0] []), .cv (.ro .Dg p0), .cv (.ro .E7 p1)], [(0, .raw (Af p2))]⟩ := by
 unfold Bp.F at h
 refine sg0 L 200 <| awp_seq ?_
 obtain ⟨a1, h1, h⟩ := bind_some h
 rcases a1 with a1 | a1
 ·dsimp only at h
  refine qn L 202 [] [] [] 1 (ef0 (.tup []) []) (ofi 49 a1) (pl1 (hR.Bj h1)) ?_
  cases h
  exact rfl
 ·obtain ⟨a1_0, a1_1⟩ := a1
  dsimp only at h
  refine rg L 202 [] [] [(1, (ef0 (.agg (Ag a1_0)) [(0, .raw (Af a1_1))]))] (pl1 (hR.Bj h1)) ?_
  refine awp_block <| awp_turn (Turns.trans (Turns.kk [0, 1, 2, 3, 8, 9] [0, 200, 204]) (Turns.rr [(0, 0), (200, 21300), (204, 21301)])) ?_
  refine kp (S' := ⟨[(0, .P 0), (1, .cv (.fn (.func 146) [.P 0] [])), (2, .cv (.ro .Dg p0)), (3, .cv (.ro .E7 p1)), (8, .P 21300), (9, .P 21301)], [(0, .raw (Af a1_1)), (21300, .raw [.I 0, .str [], .I 0, .str [], .N]), (21301, .raw (Ag a1_0))]⟩) ?_
  obtain ⟨o1, hp1, h⟩ := obind_some h
  refine awp_conseq (Q' := fun e S => False ∨ ((e = .ret ∨ ∃ ch, e = .panic ch) ∧ ∃ a, Out.done a = o1 ∧ EndsX P V Tryz.f62 (Bp.rep p0 p1 p2 a) (Bp.post p0 p1 p2 a) e S)) (awp_loop (fun k S => ∃ xh0_0_6h : List As, ∃ xh0_1_6h : Int, ∃ x21301_0 : Int, ∃ x21301_1 : List UInt8, ∃ x21301_2 : Int, ∃ x21301_3 : List UInt8, ∃ x21301_4 : List Aa, S = ⟨[(0, .P 0), (1, .cv (.fn (.func 146) [.P 0] [])), (2, .cv (.ro .Dg p0)), (3, .cv (.ro .E7 p1)), (8, .P 21300), (9, .P 21301)], [(0, .raw [.ro .Am xh0_0_6h, .I xh0_1_6h]), (21300, .raw [.I 0, .str [], .I 0, .str [], .N]), (21301, .raw [.I x21301_0, .str x21301_1, .I x21301_2, .str x21301_3, .ro .Ae x21301_4])]⟩ ∧ Bp.l6 K R p0 p1 k xh0_0_6h xh0_1_6h x21301_0 x21301_1 x21301_2 x21301_3 x21301_4 = some o1) ?_ ⟨_, _, _, _, _, _, _, rfl, hp1⟩) ?_
  ·clear h hp1
   intro k S hS
   obtain ⟨xh0_0_6h, xh0_1_6h, x21301_0, x21301_1, x21301_2, x21301_3, x21301_4, rfl, h⟩ := hS
   cases k with
   | zero => cases h
   | succ k =>
   unfold Bp.l6 at h
   refine awp_block <| awp_seq ?_
   obtain ⟨⟨a2_0, a2_1, a2_2⟩, h2, h⟩ := bind_some h
   dsimp only at h
   refine rg L 207 [] [] [(3, (ef0 (.tup [.I a2_0, .B a2_1]) [(0, .raw (Af a2_2))]))] (pl1 (Cy.okE h2)) ?_
   refine awp_seq <| sg0 L 217 ?_
   rcases ite_some h with ⟨c1, h⟩ | ⟨c1, h⟩
   ·refine ff (b := (!a2_1)) (congrArg Bool.not (c1)) ?_
    refine awp_skip' ?_
    obtain ⟨a3, h3, h⟩ := bind_some h
    rcases a3 with a3 | a3
    ·dsimp only at h
     refine qP L mixed 223 [] [] [] [0, 2] 3 (ef0 (.tup []) []) (ofi 49 a3) (pl2 (hR.Bj h3) (hR.Bj h3)) ?_
     cases h
     exact .inr ⟨.inr ⟨_, rfl⟩, _, rfl, rfl⟩
    ·obtain ⟨a3_0, a3_1⟩ := a3
     dsimp only at h
     obtain ⟨a4, h4, h⟩ := bind_some h
     refine hB L mixed 223 [] [(5, .agg (Ag a4))] [(3, (ef0 (.agg (Ag a3_0)) [(0, .raw (Af a3_1))]))] [0, 2] 2 (plc (hR.Bj h3) (plc (C3.ok h4) (plc trivial (plc (hR.Bj h3) (plc (C3.ok h4) (pl1 trivial)))))) (S' := ⟨[(0, .P 0), (1, .cv (.fn (.func 146) [.P 0] [])), (2, .cv (.ro .Dg p0)), (3, .cv (.ro .E7 p1)), (8, .P 21300), (9, .P 21301)], [(0, .raw (Af a3_1)), (21300, .raw [.I 0, .str [], .I 0, .str [], .N]), (21301, .raw (Ag a4))]⟩) ?_
     exact ⟨k, Nat.lt_succ_self k, _, _, _, _, _, _, _, rfl, h⟩
   refine tt (b := (!a2_1)) (congrArg Bool.not (eq_false_of_ne_true c1)) ?_
   refine sg0 L 220 <| awp_turn (Turns.trans (Turns.kk [8] [0, 21300]) (Turns.rr [(0, 0), (21300, 100)])) ?_
   refine awp_ret ?_
   cases h
   exact .inr ⟨.inl rfl, _, rfl, xr0⟩
  ·rintro e S (hf | ⟨he, a, rfl, hr⟩)
   ·exact hf.elim
   ·rcases h with ⟨_, e1, h⟩ | ⟨_, e1, h⟩
    ·have e2 := Out.done.inj e1
     subst e2
     subst h
     rcases he with rfl | ⟨ch, rfl⟩
     ·exact ⟨_, Turns.refl, hr⟩
     ·exact ⟨_, Turns.refl, hr⟩
    ·cases e1
def Bl.F (K : Nat) (R : Ah) (p0 : Ab) : Option (Int ⊕ (Aa × Ab)) := (Option.bind (R.Bp ([([42] : List UInt8), ([47] : List UInt8), ([37] : List UInt8)] : List (List UInt8)) ([15, 16, 17] : List Int) p0) (fun a1 => match a1 with | (Sum.inl a1) => some (Sum.inl a1) | (Sum.inr (a1_0, a1_1)) => some (Sum.inr (a1_0, a1_1))))
theorem Bl.body {Γ : Ent} {K : Nat} {R : Ah} (hR : R.Ok) {p0 : Ab} {r : Int ⊕ (Aa × Ab)} (h : Bl.F K R p0 = some r) : AWp V P 9 100 Γ (Tryz.f137.body.getD .skip) (EndsX P V Tryz.f137 (Bl.rep p0 r) (Bl.post p0 r)) ⟨args0 0 [.P 0], [(0, .raw (Af p0))]⟩ := by
 unfold Bl.F at h
 refine sg0 L 200 <| awp_seq ?_
 obtain ⟨a1, h1, h⟩ := bind_some h
 rcases a1 with a1 | a1
 ·dsimp only at h
  refine qn L 202 [] [] [] 5 (ef0 (.tup []) []) (ofi 49 a1) (pl1 (hR.Bp h1)) ?_
  cases h
  exact rfl
 ·obtain ⟨a1_0, a1_1⟩ := a1
  dsimp only at h
  refine rg L 202 [] [] [(5, (ef0 (.agg (Ag a1_0)) [(0, .raw (Af a1_1))]))] (pl1 (hR.Bp h1)) ?_
  refine awp_turn (Turns.trans (Turns.kk [2] [0, 200]) (Turns.rr [(0, 0), (200, 100)])) ?_
  refine awp_ret ?_
  cases h
  exact xr0
def Br.l6 (K : Nat) (R : Ah) (p0 : List (List UInt8)) (p1 : List Int) : Nat → (List As) → Int → Int → (List UInt8) → Int → (List UInt8) → (List Aa) → Option (Out (Int ⊕ (Aa × Ab)) Unit)
 | 0, _, _, _, _, _, _, _ => none
 | k + 1, xh0_0_6h, xh0_1_6h, x21301_0, x21301_1, x21301_2, x21301_3, x21301_4 => (Option.bind (Cy K p0 p1 (⟨xh0_0_6h, xh0_1_6h⟩ : Ab)) (fun (a2_0, a2_1, a2_2) => (if a2_1 = true then (Option.bind (R.Bl a2_2) (fun a3 => match a3 with | (Sum.inl a3) => some (Out.done (Sum.inl a3)) | (Sum.inr (a3_0, a3_1)) => (Option.bind (C3 K a2_0 ([(⟨x21301_0, x21301_1, x21301_2, x21301_3, x21301_4⟩ : Aa), (⟨a3_0.Op, a3_0.Name, a3_0.Int, a3_0.Text, a3_0.Kids⟩ : Aa)] : List Aa)) (fun a4 => Br.l6 K R p0 p1 k a3_1.l a3_1.i a4.Op a4.Name a4.Int a4.Text a4.Kids)))) else some (Out.done (Sum.inr ((⟨x21301_0, x21301_1, x21301_2, x21301_3, x21301_4⟩ : Aa), a2_2))))))
def Br.F (K : Nat) (R : Ah) (p0 : List (List UInt8)) (p1 : List Int) (p2 : Ab) : Option (Int ⊕ (Aa × Ab)) := (Option.bind (R.Bl p2) (fun a1 => match a1 with | (Sum.inl a1) => some (Sum.inl a1) | (Sum.inr (a1_0, a1_1)) => (obind (Br.l6 K R p0 p1 K a1_1.l a1_1.i a1_0.Op a1_0.Name a1_0.Int a1_0.Text a1_0.Kids : Option (Out (Int ⊕ (Aa × Ab)) Unit)) (fun r => r) (fun _ => none))))
theorem Br.body {Γ : Ent} {K : Nat} {R : Ah} (hR : R.Ok) {p0 : List (List UInt8)} {p1 : List Int} {p2 : Ab} {r : Int ⊕ (Aa × Ab)} (h : Br.F K R p0 p1 p2 = some r) : AWp V P 30 100 Γ (Tryz.f62.body.getD .skip) (EndsX P V Tryz.f62 (Br.rep p0 p1 p2 r) (Br.post p0 p1 p2 r)) ⟨args0 0 [.P 0, .cv (.fn (.func 137) [.P 0] []), .cv (.ro .Dg p0), .cv (.ro .E7 p1)], [(0, .raw (Af p2))]⟩ := by
 unfold Br.F at h
 refine sg0 L 200 <| awp_seq ?_
 obtain ⟨a1, h1, h⟩ := bind_some h
 rcases a1 with a1 | a1
 ·dsimp only at h
  refine qn L 202 [] [] [] 1 (ef0 (.tup []) []) (ofi 49 a1) (pl1 (hR.Bl h1)) ?_
  cases h
  exact rfl
 ·obtain ⟨a1_0, a1_1⟩ := a1
  dsimp only at h
  refine rg L 202 [] [] [(1, (ef0 (.agg (Ag a1_0)) [(0, .raw (Af a1_1))]))] (pl1 (hR.Bl h1)) ?_
  refine awp_block <| awp_turn (Turns.trans (Turns.kk [0, 1, 2, 3, 8, 9] [0, 200, 204]) (Turns.rr [(0, 0), (200, 21300), (204, 21301)])) ?_
  refine kp (S' := ⟨[(0, .P 0), (1, .cv (.fn (.func 137) [.P 0] [])), (2, .cv (.ro .Dg p0)), (3, .cv (.ro .E7 p1)), (8, .P 21300), (9, .P 21301)], [(0, .raw (Af a1_1)), (21300, .raw [.I 0, .str [], .I 0, .str [], .N]), (21301, .raw (Ag a1_0))]⟩) ?_
  obtain ⟨o1, hp1, h⟩ := obind_some h
  refine awp_conseq (Q' := fun e S => False ∨ ((e = .ret ∨ ∃ ch, e = .panic ch) ∧ ∃ a, Out.done a = o1 ∧ EndsX P V Tryz.f62 (Br.rep p0 p1 p2 a) (Br.post p0 p1 p2 a) e S)) (awp_loop (fun k S => ∃ xh0_0_6h : List As, ∃ xh0_1_6h : Int, ∃ x21301_0 : Int, ∃ x21301_1 : List UInt8, ∃ x21301_2 : Int, ∃ x21301_3 : List UInt8, ∃ x21301_4 : List Aa, S = ⟨[(0, .P 0), (1, .cv (.fn (.func 137) [.P 0] [])), (2, .cv (.ro .Dg p0)), (3, .cv (.ro .E7 p1)), (8, .P 21300), (9, .P 21301)], [(0, .raw [.ro .Am xh0_0_6h, .I xh0_1_6h]), (21300, .raw [.I 0, .str [], .I 0, .str [], .N]), (21301, .raw [.I x21301_0, .str x21301_1, .I x21301_2, .str x21301_3, .ro .Ae x21301_4])]⟩ ∧ Br.l6 K R p0 p1 k xh0_0_6h xh0_1_6h x21301_0 x21301_1 x21301_2 x21301_3 x21301_4 = some o1) ?_ ⟨_, _, _, _, _, _, _, rfl, hp1⟩) ?_
  ·clear h hp1
   intro k S hS
   obtain ⟨xh0_0_6h, xh0_1_6h, x21301_0, x21301_1, x21301_2, x21301_3, x21301_4, rfl, h⟩ := hS
   cases k with
   | zero => cases h
   | succ k =>
   unfold Br.l6 at h
   refine awp_block <| awp_seq ?_
   obtain ⟨⟨a2_0, a2_1, a2_2⟩, h2, h⟩ := bind_some h
   dsimp only at h
   refine rg L 207 [] [] [(3, (ef0 (.tup [.I a2_0, .B a2_1]) [(0, .raw (Af a2_2))]))] (pl1 (Cy.okE h2)) ?_
   refine awp_seq <| sg0 L 217 ?_
   rcases ite_some h with ⟨c1, h⟩ | ⟨c1, h⟩
   ·refine ff (b := (!a2_1)) (congrArg Bool.not (c1)) ?_
    refine awp_skip' ?_
    obtain ⟨a3, h3, h⟩ := bind_some h
    rcases a3 with a3 | a3
    ·dsimp only at h
     refine qP L mixed 223 [] [] [] [0, 2] 3 (ef0 (.tup []) []) (ofi 49 a3) (pl2 (hR.Bl h3) (hR.Bl h3)) ?_
     cases h
     exact .inr ⟨.inr ⟨_, rfl⟩, _, rfl, rfl⟩
    ·obtain ⟨a3_0, a3_1⟩ := a3
     dsimp only at h
     obtain ⟨a4, h4, h⟩ := bind_some h
     refine hB L mixed 223 [] [(5, .agg (Ag a4))] [(3, (ef0 (.agg (Ag a3_0)) [(0, .raw (Af a3_1))]))] [0, 2] 2 (plc (hR.Bl h3) (plc (C3.ok h4) (plc trivial (plc (hR.Bl h3) (plc (C3.ok h4) (pl1 trivial)))))) (S' := ⟨[(0, .P 0), (1, .cv (.fn (.func 137) [.P 0] [])), (2, .cv (.ro .Dg p0)), (3, .cv (.ro .E7 p1)), (8, .P 21300), (9, .P 21301)], [(0, .raw (Af a3_1)), (21300, .raw [.I 0, .str [], .I 0, .str [], .N]), (21301, .raw (Ag a4))]⟩) ?_
     exact ⟨k, Nat.lt_succ_self k, _, _, _, _, _, _, _, rfl, h⟩
   refine tt (b := (!a2_1)) (congrArg Bool.not (eq_false_of_ne_true c1)) ?_
   refine sg0 L 220 <| awp_turn (Turns.trans (Turns.kk [8] [0, 21300]) (Turns.rr [(0, 0), (21300, 100)])) ?_
   refine awp_ret ?_
   cases h
   exact .inr ⟨.inl rfl, _, rfl, xr0⟩
  ·rintro e S (hf | ⟨he, a, rfl, hr⟩)
   ·exact hf.elim
   ·rcases h with ⟨_, e1, h⟩ | ⟨_, e1, h⟩
    ·have e2 := Out.done.inj e1
     subst e2
     subst h
     rcases he with rfl | ⟨ch, rfl⟩
     ·exact ⟨_, Turns.refl, hr⟩
     ·exact ⟨_, Turns.refl, hr⟩
    ·cases e1
def Cc.F (K : Nat) (R : Ah) (p0 : Ab) : Option (Int ⊕ (Aa × Ab)) := (Option.bind (R.Br ([([43] : List UInt8), ([45] : List UInt8)] : List (List UInt8)) ([18, 19] : List Int) p0) (fun a1 => match a1 with | (Sum.inl a1) => some (Sum.inl a1) | (Sum.inr (a1_0, a1_1)) => some (Sum.inr (a1_0, a1_1))))
theorem Cc.body {Γ : Ent} {K : Nat} {R : Ah} (hR : R.Ok) {p0 : Ab} {r : Int ⊕ (Aa × Ab)} (h : Cc.F K R p0 = some r) : AWp V P 9 100 Γ (Tryz.f122.body.getD .skip) (EndsX P V Tryz.f122 (Cc.rep p0 r) (Cc.post p0 r)) ⟨args0 0 [.P 0], [(0, .raw (Af p0))]⟩ := by
 unfold Cc.F at h
 refine sg0 L 200 <| awp_seq ?_
 obtain ⟨a1, h1, h⟩ := bind_some h
 rcases a1 with a1 | a1
 ·dsimp only at h
  refine qn L 202 [] [] [] 5 (ef0 (.tup []) []) (ofi 49 a1) (pl1 (hR.Br h1)) ?_
  cases h
  exact rfl
 ·obtain ⟨a1_0, a1_1⟩ := a1
  dsimp only at h
  refine rg L 202 [] [] [(5, (ef0 (.agg (Ag a1_0)) [(0, .raw (Af a1_1))]))] (pl1 (hR.Br h1)) ?_
  refine awp_turn (Turns.trans (Turns.kk [2] [0, 200]) (Turns.rr [(0, 0), (200, 100)])) ?_
  refine awp_ret ?_
  cases h
  exact xr0
def Bw.F (K : Nat) (R : Ah) (p0 : Ab) : Option (Int ⊕ (Aa × Ab)) := (Option.bind (Ao K ([110, 111, 116] : List UInt8) p0) (fun (a1_0, a1_1) => (if a1_0 = true then (Option.bind (R.Bw a1_1) (fun a2 => match a2 with | (Sum.inl a2) => some (Sum.inl a2) | (Sum.inr (a2_0, a2_1)) => (Option.bind (C3 K 13 ([(⟨a2_0.Op, a2_0.Name, a2_0.Int, a2_0.Text, a2_0.Kids⟩ : Aa)] : List Aa)) (fun a3 => some (Sum.inr (a3, a2_1)))))) else (Option.bind (R.Cc a1_1) (fun a4 => match a4 with | (Sum.inl a4) => some (Sum.inl a4) | (Sum.inr (a4_0, a4_1)) => (Option.bind (Cy K ([([60] : List UInt8), ([60, 61] : List UInt8), ([62] : List UInt8), ([62, 61] : List UInt8), ([61, 61] : List UInt8), ([33, 61] : List UInt8)] : List (List UInt8)) ([20, 21, 22, 23, 24, 25] : List Int) a4_1) (fun (a5_0, a5_1, a5_2) => (if a5_1 = true then (Option.bind (R.Cc a5_2) (fun a6 => match a6 with | (Sum.inl a6) => some (Sum.inl a6) | (Sum.inr (a6_0, a6_1)) => (Option.bind (C3 K a5_0 ([(⟨a4_0.Op, a4_0.Name, a4_0.Int, a4_0.Text, a4_0.Kids⟩ : Aa), (⟨a6_0.Op, a6_0.Name, a6_0.Int, a6_0.Text, a6_0.Kids⟩ : Aa)] : List Aa)) (fun a7 => some (Sum.inr (a7, a6_1)))))) else some (Sum.inr (a4_0, a5_2))))))))))
theorem Bw.body {Γ : Ent} {K : Nat} {R : Ah} (hR : R.Ok) {p0 : Ab} {r : Int ⊕ (Aa × Ab)} (h : Bw.F K R p0 = some r) : AWp V P 29 100 Γ (Tryz.f93.body.getD .skip) (EndsX P V Tryz.f93 (Bw.rep p0 r) (Bw.post p0 r)) ⟨args0 0 [.P 0], [(0, .raw (Af p0))]⟩ := by
 unfold Bw.F at h
 refine sg0 L 200 <| awp_seq <| awp_seq ?_
 obtain ⟨⟨a1_0, a1_1⟩, h1, h⟩ := bind_some h
 dsimp only at h
 refine rg L 202 [] [] [(1, (ef0 (.B a1_0) [(0, .raw (Af a1_1))]))] (pl1 (Ao.okE h1)) ?_
 rcases ite_some h with ⟨c1, h⟩ | ⟨c1, h⟩
 ·refine tt c1 <| awp_seq ?_
  obtain ⟨a2, h2, h⟩ := bind_some h
  rcases a2 with a2 | a2
  ·dsimp only at h
   refine qn L 205 [] [] [] 1 (ef0 (.tup []) []) (ofi 49 a2) (pl1 (hR.Bw h2)) ?_
   cases h
   exact rfl
  ·obtain ⟨a2_0, a2_1⟩ := a2
   dsimp only at h
   obtain ⟨a3, h3, h⟩ := bind_some h
   refine rg L 205 [] [(3, .agg (Ag a3))] [(1, (ef0 (.agg (Ag a2_0)) [(0, .raw (Af a2_1))]))] (plc (hR.Bw h2) (plc (C3.ok h3) (pl1 trivial))) ?_
   refine awp_turn (Turns.trans (Turns.kk [2] [0, 200]) (Turns.rr [(0, 0), (200, 100)])) ?_
   refine awp_ret ?_
   cases h
   exact xr0
 refine fN c1 <| awp_skip' <| awp_seq ?_
 obtain ⟨a4, h4, h⟩ := bind_some h
 rcases a4 with a4 | a4
 ·dsimp only at h
  refine qn L 211 [] [] [] 1 (ef0 (.tup []) []) (ofi 49 a4) (pl1 (hR.Cc h4)) ?_
  cases h
  exact rfl
 ·obtain ⟨a4_0, a4_1⟩ := a4
  dsimp only at h
  refine rg L 211 [] [] [(1, (ef0 (.agg (Ag a4_0)) [(0, .raw (Af a4_1))]))] (pl1 (hR.Cc h4)) ?_
  refine awp_seq <| awp_seq ?_
  obtain ⟨⟨a5_0, a5_1, a5_2⟩, h5, h⟩ := bind_some h
  dsimp only at h
  refine rg L 216 [] [] [(3, (ef0 (.tup [.I a5_0, .B a5_1]) [(0, .raw (Af a5_2))]))] (pl1 (Cy.okE h5)) ?_
  refine sg0 L 226 ?_
  rcases ite_some h with ⟨c2, h⟩ | ⟨c2, h⟩
  ·refine tt c2 <| awp_seq ?_
   obtain ⟨a6, h6, h⟩ := bind_some h
   rcases a6 with a6 | a6
   ·dsimp only at h
    refine qP L mixed 228 [] [] [] [0, 2] 3 (ef0 (.tup []) []) (ofi 49 a6) (pl2 (hR.Cc h6) (hR.Cc h6)) ?_
    cases h
    exact rfl
   ·obtain ⟨a6_0, a6_1⟩ := a6
    dsimp only at h
    obtain ⟨a7, h7, h⟩ := bind_some h
    refine hB L mixed 228 [] [(5, .agg (Ag a7))] [(3, (ef0 (.agg (Ag a6_0)) [(0, .raw (Af a6_1))]))] [0, 2] 2 (plc (hR.Cc h6) (plc (C3.ok h7) (plc trivial (plc (hR.Cc h6) (plc (C3.ok h7) (pl1 trivial)))))) (S' := ⟨[(2, .P 200)], [(0, .raw (Af a6_1)), (200, .raw (Ag a7))]⟩) ?_
    refine awp_turn (Turns.trans (Turns.kk [2] [0, 200]) (Turns.rr [(0, 0), (200, 100)])) ?_
    refine awp_ret ?_
    cases h
    exact xr0
  refine fN c2 <| awp_skip' <| sg0 L 236 <| awp_turn (Turns.trans (Turns.kk [2] [0, 200]) (Turns.rr [(0, 0), (200, 100)])) ?_
  refine awp_ret ?_
  cases h
  exact xr0
def Bo.l6 (K : Nat) (R : Ah) (p0 : List (List UInt8)) (p1 : List Int) : Nat → (List As) → Int → Int → (List UInt8) → Int → (List UInt8) → (List Aa) → Option (Out (Int ⊕ (Aa × Ab)) Unit)
 | 0, _, _, _, _, _, _, _ => none
 | k + 1, xh0_0_6h, xh0_1_6h, x21301_0, x21301_1, x21301_2, x21301_3, x21301_4 => (Option.bind (Cy K p0 p1 (⟨xh0_0_6h, xh0_1_6h⟩ : Ab)) (fun (a2_0, a2_1, a2_2) => (if a2_1 = true then (Option.bind (R.Bw a2_2) (fun a3 => match a3 with | (Sum.inl a3) => some (Out.done (Sum.inl a3)) | (Sum.inr (a3_0, a3_1)) => (Option.bind (C3 K a2_0 ([(⟨x21301_0, x21301_1, x21301_2, x21301_3, x21301_4⟩ : Aa), (⟨a3_0.Op, a3_0.Name, a3_0.Int, a3_0.Text, a3_0.Kids⟩ : Aa)] : List Aa)) (fun a4 => Bo.l6 K R p0 p1 k a3_1.l a3_1.i a4.Op a4.Name a4.Int a4.Text a4.Kids)))) else some (Out.done (Sum.inr ((⟨x21301_0, x21301_1, x21301_2, x21301_3, x21301_4⟩ : Aa), a2_2))))))
def Bo.F (K : Nat) (R : Ah) (p0 : List (List UInt8)) (p1 : List Int) (p2 : Ab) : Option (Int ⊕ (Aa × Ab)) := (Option.bind (R.Bw p2) (fun a1 => match a1 with | (Sum.inl a1) => some (Sum.inl a1) | (Sum.inr (a1_0, a1_1)) => (obind (Bo.l6 K R p0 p1 K a1_1.l a1_1.i a1_0.Op a1_0.Name a1_0.Int a1_0.Text a1_0.Kids : Option (Out (Int ⊕ (Aa × Ab)) Unit)) (fun r => r) (fun _ => none))))
theorem Bo.body {Γ : Ent} {K : Nat} {R : Ah} (hR : R.Ok) {p0 : List (List UInt8)} {p1 : List Int} {p2 : Ab} {r : Int ⊕ (Aa × Ab)} (h : Bo.F K R p0 p1 p2 = some r) : AWp V P 30 100 Γ (Tryz.f62.body.getD .skip) (EndsX P V Tryz.f62 (Bo.rep p0 p1 p2 r) (Bo.post p0 p1 p2 r)) ⟨args0 0 [.P 0, .cv (.fn (.func 93) [.P 0] []), .cv (.ro .Dg p0), .cv (.ro .E7 p1)], [(0, .raw (Af p2))]⟩ := by
 unfold Bo.F at h
 refine sg0 L 200 <| awp_seq ?_
 obtain ⟨a1, h1, h⟩ := bind_some h
 rcases a1 with a1 | a1
 ·dsimp only at h
  refine qn L 202 [] [] [] 1 (ef0 (.tup []) []) (ofi 49 a1) (pl1 (hR.Bw h1)) ?_
  cases h
  exact rfl
 ·obtain ⟨a1_0, a1_1⟩ := a1
  dsimp only at h
  refine rg L 202 [] [] [(1, (ef0 (.agg (Ag a1_0)) [(0, .raw (Af a1_1))]))] (pl1 (hR.Bw h1)) ?_
  refine awp_block <| awp_turn (Turns.trans (Turns.kk [0, 1, 2, 3, 8, 9] [0, 200, 204]) (Turns.rr [(0, 0), (200, 21300), (204, 21301)])) ?_
  refine kp (S' := ⟨[(0, .P 0), (1, .cv (.fn (.func 93) [.P 0] [])), (2, .cv (.ro .Dg p0)), (3, .cv (.ro .E7 p1)), (8, .P 21300), (9, .P 21301)], [(0, .raw (Af a1_1)), (21300, .raw [.I 0, .str [], .I 0, .str [], .N]), (21301, .raw (Ag a1_0))]⟩) ?_
  obtain ⟨o1, hp1, h⟩ := obind_some h
  refine awp_conseq (Q' := fun e S => False ∨ ((e = .ret ∨ ∃ ch, e = .panic ch) ∧ ∃ a, Out.done a = o1 ∧ EndsX P V Tryz.f62 (Bo.rep p0 p1 p2 a) (Bo.post p0 p1 p2 a) e S)) (awp_loop (fun k S => ∃ xh0_0_6h : List As, ∃ xh0_1_6h : Int, ∃ x21301_0 : Int, ∃ x21301_1 : List UInt8, ∃ x21301_2 : Int, ∃ x21301_3 : List UInt8, ∃ x21301_4 : List Aa, S = ⟨[(0, .P 0), (1, .cv (.fn (.func 93) [.P 0] [])), (2, .cv (.ro .Dg p0)), (3, .cv (.ro .E7 p1)), (8, .P 21300), (9, .P 21301)], [(0, .raw [.ro .Am xh0_0_6h, .I xh0_1_6h]), (21300, .raw [.I 0, .str [], .I 0, .str [], .N]), (21301, .raw [.I x21301_0, .str x21301_1, .I x21301_2, .str x21301_3, .ro .Ae x21301_4])]⟩ ∧ Bo.l6 K R p0 p1 k xh0_0_6h xh0_1_6h x21301_0 x21301_1 x21301_2 x21301_3 x21301_4 = some o1) ?_ ⟨_, _, _, _, _, _, _, rfl, hp1⟩) ?_
  ·clear h hp1
   intro k S hS
   obtain ⟨xh0_0_6h, xh0_1_6h, x21301_0, x21301_1, x21301_2, x21301_3, x21301_4, rfl, h⟩ := hS
   cases k with
   | zero => cases h
   | succ k =>
   unfold Bo.l6 at h
   refine awp_block <| awp_seq ?_
   obtain ⟨⟨a2_0, a2_1, a2_2⟩, h2, h⟩ := bind_some h
   dsimp only at h
   refine rg L 207 [] [] [(3, (ef0 (.tup [.I a2_0, .B a2_1]) [(0, .raw (Af a2_2))]))] (pl1 (Cy.okE h2)) ?_
   refine awp_seq <| sg0 L 217 ?_
   rcases ite_some h with ⟨c1, h⟩ | ⟨c1, h⟩
   ·refine ff (b := (!a2_1)) (congrArg Bool.not (c1)) ?_
    refine awp_skip' ?_
    obtain ⟨a3, h3, h⟩ := bind_some h
    rcases a3 with a3 | a3
    ·dsimp only at h
     refine qP L mixed 223 [] [] [] [0, 2] 3 (ef0 (.tup []) []) (ofi 49 a3) (pl2 (hR.Bw h3) (hR.Bw h3)) ?_
     cases h
     exact .inr ⟨.inr ⟨_, rfl⟩, _, rfl, rfl⟩
    ·obtain ⟨a3_0, a3_1⟩ := a3
     dsimp only at h
     obtain ⟨a4, h4, h⟩ := bind_some h
     refine hB L mixed 223 [] [(5, .agg (Ag a4))] [(3, (ef0 (.agg (Ag a3_0)) [(0, .raw (Af a3_1))]))] [0, 2] 2 (plc (hR.Bw h3) (plc (C3.ok h4) (plc trivial (plc (hR.Bw h3) (plc (C3.ok h4) (pl1 trivial)))))) (S' := ⟨[(0, .P 0), (1, .cv (.fn (.func 93) [.P 0] [])), (2, .cv (.ro .Dg p0)), (3, .cv (.ro .E7 p1)), (8, .P 21300), (9, .P 21301)], [(0, .raw (Af a3_1)), (21300, .raw [.I 0, .str [], .I 0, .str [], .N]), (21301, .raw (Ag a4))]⟩) ?_
     exact ⟨k, Nat.lt_succ_self k, _, _, _, _, _, _, _, rfl, h⟩
   refine tt (b := (!a2_1)) (congrArg Bool.not (eq_false_of_ne_true c1)) ?_
   refine sg0 L 220 <| awp_turn (Turns.trans (Turns.kk [8] [0, 21300]) (Turns.rr [(0, 0), (21300, 100)])) ?_
   refine awp_ret ?_
   cases h
   exact .inr ⟨.inl rfl, _, rfl, xr0⟩
  ·rintro e S (hf | ⟨he, a, rfl, hr⟩)
   ·exact hf.elim
   ·rcases h with ⟨_, e1, h⟩ | ⟨_, e1, h⟩
    ·have e2 := Out.done.inj e1
     subst e2
     subst h
     rcases he with rfl | ⟨ch, rfl⟩
     ·exact ⟨_, Turns.refl, hr⟩
     ·exact ⟨_, Turns.refl, hr⟩
    ·cases e1
def Cf.F (K : Nat) (R : Ah) (p0 : Ab) : Option (Int ⊕ (Aa × Ab)) := (Option.bind (R.Bo ([([97, 110, 100] : List UInt8)] : List (List UInt8)) ([26] : List Int) p0) (fun a1 => match a1 with | (Sum.inl a1) => some (Sum.inl a1) | (Sum.inr (a1_0, a1_1)) => some (Sum.inr (a1_0, a1_1))))
theorem Cf.body {Γ : Ent} {K : Nat} {R : Ah} (hR : R.Ok) {p0 : Ab} {r : Int ⊕ (Aa × Ab)} (h : Cf.F K R p0 = some r) : AWp V P 9 100 Γ (Tryz.f63.body.getD .skip) (EndsX P V Tryz.f63 (Cf.rep p0 r) (Cf.post p0 r)) ⟨args0 0 [.P 0], [(0, .raw (Af p0))]⟩ := by
 unfold Cf.F at h
 refine sg0 L 200 <| awp_seq ?_
 obtain ⟨a1, h1, h⟩ := bind_some h
 rcases a1 with a1 | a1
 ·dsimp only at h
  refine qn L 202 [] [] [] 5 (ef0 (.tup []) []) (ofi 49 a1) (pl1 (hR.Bo h1)) ?_
  cases h
  exact rfl
 ·obtain ⟨a1_0, a1_1⟩ := a1
  dsimp only at h
  refine rg L 202 [] [] [(5, (ef0 (.agg (Ag a1_0)) [(0, .raw (Af a1_1))]))] (pl1 (hR.Bo h1)) ?_
  refine awp_turn (Turns.trans (Turns.kk [2] [0, 200]) (Turns.rr [(0, 0), (200, 100)])) ?_
  refine awp_ret ?_
  cases h
  exact xr0
def Bq.l6 (K : Nat) (R : Ah) (p0 : List (List UInt8)) (p1 : List Int) : Nat → (List As) → Int → Int → (List UInt8) → Int → (List UInt8) → (List Aa) → Option (Out (Int ⊕ (Aa × Ab)) Unit)
 | 0, _, _, _, _, _, _, _ => none
 | k + 1, xh0_0_6h, xh0_1_6h, x21301_0, x21301_1, x21301_2, x21301_3, x21301_4 => (Option.bind (Cy K p0 p1 (⟨xh0_0_6h, xh0_1_6h⟩ : Ab)) (fun (a2_0, a2_1, a2_2) => (if a2_1 = true then (Option.bind (R.Cf a2_2) (fun a3 => match a3 with | (Sum.inl a3) => some (Out.done (Sum.inl a3)) | (Sum.inr (a3_0, a3_1)) => (Option.bind (C3 K a2_0 ([(⟨x21301_0, x21301_1, x21301_2, x21301_3, x21301_4⟩ : Aa), (⟨a3_0.Op, a3_0.Name, a3_0.Int, a3_0.Text, a3_0.Kids⟩ : Aa)] : List Aa)) (fun a4 => Bq.l6 K R p0 p1 k a3_1.l a3_1.i a4.Op a4.Name a4.Int a4.Text a4.Kids)))) else some (Out.done (Sum.inr ((⟨x21301_0, x21301_1, x21301_2, x21301_3, x21301_4⟩ : Aa), a2_2))))))
def Bq.F (K : Nat) (R : Ah) (p0 : List (List UInt8)) (p1 : List Int) (p2 : Ab) : Option (Int ⊕ (Aa × Ab)) := (Option.bind (R.Cf p2) (fun a1 => match a1 with | (Sum.inl a1) => some (Sum.inl a1) | (Sum.inr (a1_0, a1_1)) => (obind (Bq.l6 K R p0 p1 K a1_1.l a1_1.i a1_0.Op a1_0.Name a1_0.Int a1_0.Text a1_0.Kids : Option (Out (Int ⊕ (Aa × Ab)) Unit)) (fun r => r) (fun _ => none))))
theorem Bq.body {Γ : Ent} {K : Nat} {R : Ah} (hR : R.Ok) {p0 : List (List UInt8)} {p1 : List Int} {p2 : Ab} {r : Int ⊕ (Aa × Ab)} (h : Bq.F K R p0 p1 p2 = some r) : AWp V P 30 100 Γ (Tryz.f62.body.getD .skip) (EndsX P V Tryz.f62 (Bq.rep p0 p1 p2 r) (Bq.post p0 p1 p2 r)) ⟨args0 0 [.P 0, .cv (.fn (.func 63) [.P 0] []), .cv (.ro .Dg p0), .cv (.ro .E7 p1)], [(0, .raw (Af p2))]⟩ := by
 unfold Bq.F at h
 refine sg0 L 200 <| awp_seq ?_
 obtain ⟨a1, h1, h⟩ := bind_some h
 rcases a1 with a1 | a1
 ·dsimp only at h
  refine qn L 202 [] [] [] 1 (ef0 (.tup []) []) (ofi 49 a1) (pl1 (hR.Cf h1)) ?_
  cases h
  exact rfl
 ·obtain ⟨a1_0, a1_1⟩ := a1
  dsimp only at h
  refine rg L 202 [] [] [(1, (ef0 (.agg (Ag a1_0)) [(0, .raw (Af a1_1))]))] (pl1 (hR.Cf h1)) ?_
  refine awp_block <| awp_turn (Turns.trans (Turns.kk [0, 1, 2, 3, 8, 9] [0, 200, 204]) (Turns.rr [(0, 0), (200, 21300), (204, 21301)])) ?_
  refine kp (S' := ⟨[(0, .P 0), (1, .cv (.fn (.func 63) [.P 0] [])), (2, .cv (.ro .Dg p0)), (3, .cv (.ro .E7 p1)), (8, .P 21300), (9, .P 21301)], [(0, .raw (Af a1_1)), (21300, .raw [.I 0, .str [], .I 0, .str [], .N]), (21301, .raw (Ag a1_0))]⟩) ?_
  obtain ⟨o1, hp1, h⟩ := obind_some h
  refine awp_conseq (Q' := fun e S => False ∨ ((e = .ret ∨ ∃ ch, e = .panic ch) ∧ ∃ a, Out.done a = o1 ∧ EndsX P V Tryz.f62 (Bq.rep p0 p1 p2 a) (Bq.post p0 p1 p2 a) e S)) (awp_loop (fun k S => ∃ xh0_0_6h : List As, ∃ xh0_1_6h : Int, ∃ x21301_0 : Int, ∃ x21301_1 : List UInt8, ∃ x21301_2 : Int, ∃ x21301_3 : List UInt8, ∃ x21301_4 : List Aa, S = ⟨[(0, .P 0), (1, .cv (.fn (.func 63) [.P 0] [])), (2, .cv (.ro .Dg p0)), (3, .cv (.ro .E7 p1)), (8, .P 21300), (9, .P 21301)], [(0, .raw [.ro .Am xh0_0_6h, .I xh0_1_6h]), (21300, .raw [.I 0, .str [], .I 0, .str [], .N]), (21301, .raw [.I x21301_0, .str x21301_1, .I x21301_2, .str x21301_3, .ro .Ae x21301_4])]⟩ ∧ Bq.l6 K R p0 p1 k xh0_0_6h xh0_1_6h x21301_0 x21301_1 x21301_2 x21301_3 x21301_4 = some o1) ?_ ⟨_, _, _, _, _, _, _, rfl, hp1⟩) ?_
  ·clear h hp1
   intro k S hS
   obtain ⟨xh0_0_6h, xh0_1_6h, x21301_0, x21301_1, x21301_2, x21301_3, x21301_4, rfl, h⟩ := hS
   cases k with
   | zero => cases h
   | succ k =>
   unfold Bq.l6 at h
   refine awp_block <| awp_seq ?_
   obtain ⟨⟨a2_0, a2_1, a2_2⟩, h2, h⟩ := bind_some h
   dsimp only at h
   refine rg L 207 [] [] [(3, (ef0 (.tup [.I a2_0, .B a2_1]) [(0, .raw (Af a2_2))]))] (pl1 (Cy.okE h2)) ?_
   refine awp_seq <| sg0 L 217 ?_
   rcases ite_some h with ⟨c1, h⟩ | ⟨c1, h⟩
   ·refine ff (b := (!a2_1)) (congrArg Bool.not (c1)) ?_
    refine awp_skip' ?_
    obtain ⟨a3, h3, h⟩ := bind_some h
    rcases a3 with a3 | a3
    ·dsimp only at h
     refine qP L mixed 223 [] [] [] [0, 2] 3 (ef0 (.tup []) []) (ofi 49 a3) (pl2 (hR.Cf h3) (hR.Cf h3)) ?_
     cases h
     exact .inr ⟨.inr ⟨_, rfl⟩, _, rfl, rfl⟩
    ·obtain ⟨a3_0, a3_1⟩ := a3
     dsimp only at h
     obtain ⟨a4, h4, h⟩ := bind_some h
     refine hB L mixed 223 [] [(5, .agg (Ag a4))] [(3, (ef0 (.agg (Ag a3_0)) [(0, .raw (Af a3_1))]))] [0, 2] 2 (plc (hR.Cf h3) (plc (C3.ok h4) (plc trivial (plc (hR.Cf h3) (plc (C3.ok h4) (pl1 trivial)))))) (S' := ⟨[(0, .P 0), (1, .cv (.fn (.func 63) [.P 0] [])), (2, .cv (.ro .Dg p0)), (3, .cv (.ro .E7 p1)), (8, .P 21300), (9, .P 21301)], [(0, .raw (Af a3_1)), (21300, .raw [.I 0, .str [], .I 0, .str [], .N]), (21301, .raw (Ag a4))]⟩) ?_
     exact ⟨k, Nat.lt_succ_self k, _, _, _, _, _, _, _, rfl, h⟩
   refine tt (b := (!a2_1)) (congrArg Bool.not (eq_false_of_ne_true c1)) ?_
   refine sg0 L 220 <| awp_turn (Turns.trans (Turns.kk [8] [0, 21300]) (Turns.rr [(0, 0), (21300, 100)])) ?_
   refine awp_ret ?_
   cases h
   exact .inr ⟨.inl rfl, _, rfl, xr0⟩
  ·rintro e S (hf | ⟨he, a, rfl, hr⟩)
   ·exact hf.elim
   ·rcases h with ⟨_, e1, h⟩ | ⟨_, e1, h⟩
    ·have e2 := Out.done.inj e1
     subst e2
     subst h
     rcases he with rfl | ⟨ch, rfl⟩
     ·exact ⟨_, Turns.refl, hr⟩
     ·exact ⟨_, Turns.refl, hr⟩
    ·cases e1
def Aw.F (K : Nat) (R : Ah) (p0 : Ab) : Option (Int ⊕ (Aa × Ab)) := (Option.bind (R.Bq ([([111, 114] : List UInt8)] : List (List UInt8)) ([27] : List Int) p0) (fun a1 => match a1 with | (Sum.inl a1) => some (Sum.inl a1) | (Sum.inr (a1_0, a1_1)) => some (Sum.inr (a1_0, a1_1))))
theorem Aw.body {Γ : Ent} {K : Nat} {R : Ah} (hR : R.Ok) {p0 : Ab} {r : Int ⊕ (Aa × Ab)} (h : Aw.F K R p0 = some r) : AWp V P 9 100 Γ (Tryz.f32.body.getD .skip) (EndsX P V Tryz.f32 (Aw.rep p0 r) (Aw.post p0 r)) ⟨args0 0 [.P 0], [(0, .raw (Af p0))]⟩ := by
 unfold Aw.F at h
 refine sg0 L 200 <| awp_seq ?_
 obtain ⟨a1, h1, h⟩ := bind_some h
 rcases a1 with a1 | a1
 ·dsimp only at h
  refine qn L 202 [] [] [] 5 (ef0 (.tup []) []) (ofi 49 a1) (pl1 (hR.Bq h1)) ?_
  cases h
  exact rfl
 ·obtain ⟨a1_0, a1_1⟩ := a1
  dsimp only at h
  refine rg L 202 [] [] [(5, (ef0 (.agg (Ag a1_0)) [(0, .raw (Af a1_1))]))] (pl1 (hR.Bq h1)) ?_
  refine awp_turn (Turns.trans (Turns.kk [2] [0, 200]) (Turns.rr [(0, 0), (200, 100)])) ?_
  refine awp_ret ?_
  cases h
  exact xr0
def Ah.upto (K : Nat) : Nat → Ah
 | 0 => ⟨fun _ _ => none, fun _ _ _ => none, fun _ => none, fun _ _ => none, fun _ => none, fun _ => none, fun _ => none, fun _ _ _ => none, fun _ => none, fun _ _ _ => none, fun _ => none, fun _ => none, fun _ _ _ => none, fun _ => none, fun _ _ _ => none, fun _ => none⟩
 | k + 1 => ⟨Bk.F K (Ah.upto K k), Bz.F K (Ah.upto K k), Cg.F K (Ah.upto K k), Bu.F K (Ah.upto K k), B5.F K (Ah.upto K k), Bi.F K (Ah.upto K k), Bj.F K (Ah.upto K k), Bp.F K (Ah.upto K k), Bl.F K (Ah.upto K k), Br.F K (Ah.upto K k), Cc.F K (Ah.upto K k), Bw.F K (Ah.upto K k), Bo.F K (Ah.upto K k), Cf.F K (Ah.upto K k), Bq.F K (Ah.upto K k), Aw.F K (Ah.upto K k)⟩
theorem Ah.upto_ok (K : Nat) : ∀ k, (Ah.upto K k).Ok
 | 0 => ⟨fun h => (by cases h), fun h => (by cases h), fun h => (by cases h), fun h => (by cases h), fun h => (by cases h), fun h => (by cases h), fun h => (by cases h), fun h => (by cases h), fun h => (by cases h), fun h => (by cases h), fun h => (by cases h), fun h => (by cases h), fun h => (by cases h), fun h => (by cases h), fun h => (by cases h), fun h => (by cases h)⟩
 | k + 1 => ⟨fun {p0 p1 r} h => xo (fn := Tryz.f48) (n := 25) (m := 100) fun Γ => Bk.body (K := K) (Ah.upto_ok K k) h, fun {p0 p1 p2 r} h => xo (fn := Tryz.f106) (n := 16) (m := 100) fun Γ => Bz.body (K := K) (Ah.upto_ok K k) h, fun {p0 r} h => xo (fn := Tryz.f166) (n := 21) (m := 100) fun Γ => Cg.body (K := K) (Ah.upto_ok K k) h, fun {p0 p1 r} h => xo (fn := Tryz.f48) (n := 25) (m := 100) fun Γ => Bu.body (K := K) (Ah.upto_ok K k) h, fun {p0 r} h => xo (fn := Tryz.f163) (n := 51) (m := 100) fun Γ => B5.body (K := K) (Ah.upto_ok K k) h, fun {p0 r} h => xo (fn := Tryz.f156) (n := 25) (m := 100) fun Γ => Bi.body (K := K) (Ah.upto_ok K k) h, fun {p0 r} h => xo (fn := Tryz.f146) (n := 26) (m := 100) fun Γ => Bj.body (K := K) (Ah.upto_ok K k) h, fun {p0 p1 p2 r} h => xo (fn := Tryz.f62) (n := 30) (m := 100) fun Γ => Bp.body (K := K) (Ah.upto_ok K k) h, fun {p0 r} h => xo (fn := Tryz.f137) (n := 9) (m := 100) fun Γ => Bl.body (K := K) (Ah.upto_ok K k) h, fun {p0 p1 p2 r} h => xo (fn := Tryz.f62) (n := 30) (m := 100) fun Γ => Br.body (K := K) (Ah.upto_ok K k) h, fun {p0 r} h => xo (fn := Tryz.f122) (n := 9) (m := 100) fun Γ => Cc.body (K := K) (Ah.upto_ok K k) h, fun {p0 r} h => xo (fn := Tryz.f93) (n := 29) (m := 100) fun Γ => Bw.body (K := K) (Ah.upto_ok K k) h, fun {p0 p1 p2 r} h => xo (fn := Tryz.f62) (n := 30) (m := 100) fun Γ => Bo.body (K := K) (Ah.upto_ok K k) h, fun {p0 r} h => xo (fn := Tryz.f63) (n := 9) (m := 100) fun Γ => Cf.body (K := K) (Ah.upto_ok K k) h, fun {p0 p1 p2 r} h => xo (fn := Tryz.f62) (n := 30) (m := 100) fun Γ => Bq.body (K := K) (Ah.upto_ok K k) h, fun {p0 r} h => xo (fn := Tryz.f32) (n := 9) (m := 100) fun Γ => Aw.body (K := K) (Ah.upto_ok K k) h⟩
def Bk (K : Nat) (p0 : List UInt8) (p1 : Ab) : Option (((List Aa) × Ab) ⊕ Int) := (Ah.upto K K).Bk p0 p1
theorem Bk.okE {K : Nat} {p0 : List UInt8} {p1 : Ab} {r : ((List Aa) × Ab) ⊕ Int} (h : Bk K p0 p1 = some r) : XCall V P 48 [.P 0, .cv (.str p0), .cv (.fn (.func 32) [.P 0] [])] [(0, .raw (Af p1))] [0] (Bk.post p0 p1 r) (Bk.rep p0 p1 r) := (Ah.upto_ok K K).Bk h
def Bz (K : Nat) (p0 : Int) (p1 : List UInt8) (p2 : Ab) : Option ((Aa × Ab) ⊕ Int) := (Ah.upto K K).Bz p0 p1 p2
theorem Bz.okE {K : Nat} {p0 : Int} {p1 : List UInt8} {p2 : Ab} {r : (Aa × Ab) ⊕ Int} (h : Bz K p0 p1 p2 = some r) : XCall V P 106 [.P 0, .I p0, .cv (.str p1)] [(0, .raw (Af p2))] [0] (Bz.post p0 p1 p2 r) (Bz.rep p0 p1 p2 r) := (Ah.upto_ok K K).Bz h
def Cg (K : Nat) (p0 : Ab) : Option (Int ⊕ (Aa × Ab)) := (Ah.upto K K).Cg p0
theorem Cg.okE {K : Nat} {p0 : Ab} {r : Int ⊕ (Aa × Ab)} (h : Cg K p0 = some r) : XCall V P 166 [.P 0] [(0, .raw (Af p0))] [0] (Cg.post p0 r) (Cg.rep p0 r) := (Ah.upto_ok K K).Cg h
def Bu (K : Nat) (p0 : List UInt8) (p1 : Ab) : Option (((List Aa) × Ab) ⊕ Int) := (Ah.upto K K).Bu p0 p1
theorem Bu.okE {K : Nat} {p0 : List UInt8} {p1 : Ab} {r : ((List Aa) × Ab) ⊕ Int} (h : Bu K p0 p1 = some r) : XCall V P 48 [.P 0, .cv (.str p0), .cv (.fn (.func 166) [.P 0] [])] [(0, .raw (Af p1))] [0] (Bu.post p0 p1 r) (Bu.rep p0 p1 r) := (Ah.upto_ok K K).Bu h
def B5 (K : Nat) (p0 : Ab) : Option ((Aa × Ab) ⊕ Int) := (Ah.upto K K).B5 p0
theorem B5.okE {K : Nat} {p0 : Ab} {r : (Aa × Ab) ⊕ Int} (h : B5 K p0 = some r) : XCall V P 163 [.P 0] [(0, .raw (Af p0))] [0] (B5.post p0 r) (B5.rep p0 r) := (Ah.upto_ok K K).B5 h
def Bi (K : Nat) (p0 : Ab) : Option (Int ⊕ (Aa × Ab)) := (Ah.upto K K).Bi p0
theorem Bi.okE {K : Nat} {p0 : Ab} {r : Int ⊕ (Aa × Ab)} (h : Bi K p0 = some r) : XCall V P 156 [.P 0] [(0, .raw (Af p0))] [0] (Bi.post p0 r) (Bi.rep p0 r) := (Ah.upto_ok K K).Bi h
def Bj (K : Nat) (p0 : Ab) : Option (Int ⊕ (Aa × Ab)) := (Ah.upto K K).Bj p0
theorem Bj.okE {K : Nat} {p0 : Ab} {r : Int ⊕ (Aa × Ab)} (h : Bj K p0 = some r) : XCall V P 146 [.P 0] [(0, .raw (Af p0))] [0] (Bj.post p0 r) (Bj.rep p0 r) := (Ah.upto_ok K K).Bj h
def Bp (K : Nat) (p0 : List (List UInt8)) (p1 : List Int) (p2 : Ab) : Option (Int ⊕ (Aa × Ab)) := (Ah.upto K K).Bp p0 p1 p2
theorem Bp.okE {K : Nat} {p0 : List (List UInt8)} {p1 : List Int} {p2 : Ab} {r : Int ⊕ (Aa × Ab)} (h : Bp K p0 p1 p2 = some r) : XCall V P 62 [.P 0, .cv (.fn (.func 146) [.P 0] []), .cv (.ro .Dg p0), .cv (.ro .E7 p1)] [(0, .raw (Af p2))] [0] (Bp.post p0 p1 p2 r) (Bp.rep p0 p1 p2 r) := (Ah.upto_ok K K).Bp h
def Bl (K : Nat) (p0 : Ab) : Option (Int ⊕ (Aa × Ab)) := (Ah.upto K K).Bl p0
theorem Bl.okE {K : Nat} {p0 : Ab} {r : Int ⊕ (Aa × Ab)} (h : Bl K p0 = some r) : XCall V P 137 [.P 0] [(0, .raw (Af p0))] [0] (Bl.post p0 r) (Bl.rep p0 r) := (Ah.upto_ok K K).Bl h
def Br (K : Nat) (p0 : List (List UInt8)) (p1 : List Int) (p2 : Ab) : Option (Int ⊕ (Aa × Ab)) := (Ah.upto K K).Br p0 p1 p2
theorem Br.okE {K : Nat} {p0 : List (List UInt8)} {p1 : List Int} {p2 : Ab} {r : Int ⊕ (Aa × Ab)} (h : Br K p0 p1 p2 = some r) : XCall V P 62 [.P 0, .cv (.fn (.func 137) [.P 0] []), .cv (.ro .Dg p0), .cv (.ro .E7 p1)] [(0, .raw (Af p2))] [0] (Br.post p0 p1 p2 r) (Br.rep p0 p1 p2 r) := (Ah.upto_ok K K).Br h
def Cc (K : Nat) (p0 : Ab) : Option (Int ⊕ (Aa × Ab)) := (Ah.upto K K).Cc p0
theorem Cc.okE {K : Nat} {p0 : Ab} {r : Int ⊕ (Aa × Ab)} (h : Cc K p0 = some r) : XCall V P 122 [.P 0] [(0, .raw (Af p0))] [0] (Cc.post p0 r) (Cc.rep p0 r) := (Ah.upto_ok K K).Cc h
def Bw (K : Nat) (p0 : Ab) : Option (Int ⊕ (Aa × Ab)) := (Ah.upto K K).Bw p0
theorem Bw.okE {K : Nat} {p0 : Ab} {r : Int ⊕ (Aa × Ab)} (h : Bw K p0 = some r) : XCall V P 93 [.P 0] [(0, .raw (Af p0))] [0] (Bw.post p0 r) (Bw.rep p0 r) := (Ah.upto_ok K K).Bw h
def Bo (K : Nat) (p0 : List (List UInt8)) (p1 : List Int) (p2 : Ab) : Option (Int ⊕ (Aa × Ab)) := (Ah.upto K K).Bo p0 p1 p2
theorem Bo.okE {K : Nat} {p0 : List (List UInt8)} {p1 : List Int} {p2 : Ab} {r : Int ⊕ (Aa × Ab)} (h : Bo K p0 p1 p2 = some r) : XCall V P 62 [.P 0, .cv (.fn (.func 93) [.P 0] []), .cv (.ro .Dg p0), .cv (.ro .E7 p1)] [(0, .raw (Af p2))] [0] (Bo.post p0 p1 p2 r) (Bo.rep p0 p1 p2 r) := (Ah.upto_ok K K).Bo h
def Cf (K : Nat) (p0 : Ab) : Option (Int ⊕ (Aa × Ab)) := (Ah.upto K K).Cf p0
theorem Cf.okE {K : Nat} {p0 : Ab} {r : Int ⊕ (Aa × Ab)} (h : Cf K p0 = some r) : XCall V P 63 [.P 0] [(0, .raw (Af p0))] [0] (Cf.post p0 r) (Cf.rep p0 r) := (Ah.upto_ok K K).Cf h
def Bq (K : Nat) (p0 : List (List UInt8)) (p1 : List Int) (p2 : Ab) : Option (Int ⊕ (Aa × Ab)) := (Ah.upto K K).Bq p0 p1 p2
theorem Bq.okE {K : Nat} {p0 : List (List UInt8)} {p1 : List Int} {p2 : Ab} {r : Int ⊕ (Aa × Ab)} (h : Bq K p0 p1 p2 = some r) : XCall V P 62 [.P 0, .cv (.fn (.func 63) [.P 0] []), .cv (.ro .Dg p0), .cv (.ro .E7 p1)] [(0, .raw (Af p2))] [0] (Bq.post p0 p1 p2 r) (Bq.rep p0 p1 p2 r) := (Ah.upto_ok K K).Bq h
def Aw (K : Nat) (p0 : Ab) : Option (Int ⊕ (Aa × Ab)) := (Ah.upto K K).Aw p0
theorem Aw.okE {K : Nat} {p0 : Ab} {r : Int ⊕ (Aa × Ab)} (h : Aw K p0 = some r) : XCall V P 32 [.P 0] [(0, .raw (Af p0))] [0] (Aw.post p0 r) (Aw.rep p0 r) := (Ah.upto_ok K K).Aw h
structure Eu where
 Di : Aa → Option Int
structure Eu.Ok (R : Eu) : Prop where
 Di : ∀ {p0 : Aa} {r : Int}, R.Di p0 = some r → ECall V P 21 [.agg (Ag p0)] [] [] (.I r) []
theorem Di.okR {R : Eu} (hR : R.Ok) {p0 : Aa} {r : Int} (h : R.Di p0 = some r) : PCall V P 21 [.agg (Ag p0)] (.I r) := (hR.Di h).pcall (by kernel_rfl)
def Di.l9 (K : Nat) (R : Eu) (p0 : Aa) : Nat → Int → Int → Option Int
 | 0, _, _ => none
 | k + 1, xt3_9h, xt9_9h => (if xt9_9h < (p0.Kids.length : Int) then (if (0 : Int) ≤ xt9_9h ∧ (xt9_9h : Int) < (p0.Kids.length : Int) then (Option.bind (R.Di (p0.Kids.getD (Int.toNat xt9_9h) Ay)) (fun a1 => Di.l9 K R p0 k (IntKind.i64.wrap (xt3_9h + a1)) (IntKind.i64.wrap (xt9_9h + 1)))) else none) else some xt3_9h)
def Di.F (K : Nat) (R : Eu) (p0 : Aa) : Option Int := (Option.bind (Di.l9 K R p0 K 1 0 : Option Int) (fun xt3_9 => some xt3_9))
theorem Di.body {Γ : Ent} {K : Nat} {R : Eu} (hR : R.Ok) {p0 : Aa} {r : Int} (h : Di.F K R p0 = some r) : AWp V P 19 100 Γ (Tryz.f21.body.getD .skip) (EndsE P V Tryz.f21 (.I r) []) ⟨args0 0 [.agg (Ag p0)], []⟩ := by
 unfold Di.F at h
 refine sg0 L 200 <| sg0 L 203 <| awp_seq <| sg0 L 205 <| awp_block <| kp (S' := ⟨[(3, .I 1), (7, .cv (.ro .Ae p0.Kids)), (8, .I (p0.Kids.length : Int)), (9, .I 0)], []⟩) ?_
 obtain ⟨o1, hp1, h⟩ := bind_some h
 refine awp_conseq (Q' := fun e S => (e = .exit 0 ∧ ∃ xt3_9 : Int, S = ⟨[(3, .I xt3_9)], []⟩ ∧ xt3_9 = o1)) (awp_loop (fun k S => ∃ xt3_9h : Int, ∃ xt9_9h : Int, S = ⟨[(3, .I xt3_9h), (7, .cv (.ro .Ae p0.Kids)), (8, .I (p0.Kids.length : Int)), (9, .I xt9_9h)], []⟩ ∧ Di.l9 K R p0 k xt3_9h xt9_9h = some o1) ?_ ⟨_, _, rfl, hp1⟩) ?_
 ·clear h hp1
  intro k S hS
  obtain ⟨xt3_9h, xt9_9h, rfl, h⟩ := hS
  cases k with
  | zero => cases h
  | succ k =>
  unfold Di.l9 at h
  refine sg0 L 210 <| awp_seq ?_
  rcases ite_some h with ⟨c1, h⟩ | ⟨c1, h⟩
  ·refine tT c1 <| awp_skip' <| awp_seq <| awp_block <| awp_seq ?_
   obtain ⟨g1, h⟩ := guard_some h
   refine rg L 212 [] [] [] (pl2 g1.1 g1.2) ?_
   obtain ⟨a1, h1, h⟩ := bind_some h
   refine rg L 217 [] [(2, .I a1)] [] (plt (Di.okR hR h1)) ?_
   refine ar0 L 223 [] [] [] (S' := ⟨[(3, .I (IntKind.i64.wrap (xt3_9h + a1))), (7, .cv (.ro .Ae p0.Kids)), (8, .I (p0.Kids.length : Int)), (9, .I (IntKind.i64.wrap (xt9_9h + 1)))], []⟩) ?_
   exact ⟨k, Nat.lt_succ_self k, _, _, rfl, h⟩
  refine fF c1 <| ex (S' := ⟨[(3, .I xt3_9h)], []⟩) ?_
  cases h
  exact ⟨rfl, _, rfl, rfl⟩
 ·rintro e S ⟨rfl, xt3_9, rfl, rfl⟩
  refine ⟨_, Turns.refl, ?_⟩
  refine sg0 L 226 <| awp_ret ?_
  cases h
  exact er0
def Eu.upto (K : Nat) : Nat → Eu
 | 0 => ⟨fun _ => none⟩
 | k + 1 => ⟨Di.F K (Eu.upto K k)⟩
theorem Eu.upto_ok (K : Nat) : ∀ k, (Eu.upto K k).Ok
 | 0 => ⟨fun h => (by cases h)⟩
 | k + 1 => ⟨fun {p0 r} h => eo (fn := Tryz.f21) (n := 19) (m := 100) fun Γ => Di.body (K := K) (Eu.upto_ok K k) h⟩
def Di (K : Nat) (p0 : Aa) : Option Int := (Eu.upto K K).Di p0
theorem Di.okE {K : Nat} {p0 : Aa} {r : Int} (h : Di K p0 = some r) : ECall V P 21 [.agg (Ag p0)] [] [] (.I r) [] := (Eu.upto_ok K K).Di h
theorem Di.ok {K : Nat} {p0 : Aa} {r : Int} (h : Di K p0 = some r) : PCall V P 21 [.agg (Ag p0)] (.I r) := (Di.okE h).pcall (by kernel_rfl)
structure Eo where
 Dh : Aa → Option Int
structure Eo.Ok (R : Eo) : Prop where
 Dh : ∀ {p0 : Aa} {r : Int}, R.Dh p0 = some r → ECall V P 22 [.agg (Ag p0)] [] [] (.I r) []
theorem Dh.okR {R : Eo} (hR : R.Ok) {p0 : Aa} {r : Int} (h : R.Dh p0 = some r) : PCall V P 22 [.agg (Ag p0)] (.I r) := (hR.Dh h).pcall (by kernel_rfl)
def Dh.l9 (K : Nat) (R : Eo) (p0 : Aa) : Nat → Int → Int → Option Int
 | 0, _, _ => none
 | k + 1, xt3_9h, xt9_9h => (if xt9_9h < (p0.Kids.length : Int) then (if (0 : Int) ≤ xt9_9h ∧ (xt9_9h : Int) < (p0.Kids.length : Int) then (Option.bind (R.Dh (p0.Kids.getD (Int.toNat xt9_9h) Ay)) (fun a1 => Dh.l9 K R p0 k (if a1 > xt3_9h then a1 else xt3_9h) (IntKind.i64.wrap (xt9_9h + 1)))) else none) else some xt3_9h)
def Dh.F (K : Nat) (R : Eo) (p0 : Aa) : Option Int := (Option.bind (Dh.l9 K R p0 K 0 0 : Option Int) (fun xt3_9 => some (IntKind.i64.wrap (xt3_9 + 1))))
theorem Dh.body {Γ : Ent} {K : Nat} {R : Eo} (hR : R.Ok) {p0 : Aa} {r : Int} (h : Dh.F K R p0 = some r) : AWp V P 20 100 Γ (Tryz.f22.body.getD .skip) (EndsE P V Tryz.f22 (.I r) []) ⟨args0 0 [.agg (Ag p0)], []⟩ := by
 unfold Dh.F at h
 refine sg0 L 200 <| sg0 L 203 <| awp_seq <| sg0 L 205 <| awp_block <| kp (S' := ⟨[(3, .I 0), (7, .cv (.ro .Ae p0.Kids)), (8, .I (p0.Kids.length : Int)), (9, .I 0)], []⟩) ?_
 obtain ⟨o1, hp1, h⟩ := bind_some h
 refine awp_conseq (Q' := fun e S => (e = .exit 0 ∧ ∃ xt3_9 : Int, S = ⟨[(3, .I xt3_9)], []⟩ ∧ xt3_9 = o1)) (awp_loop (fun k S => ∃ xt3_9h : Int, ∃ xt9_9h : Int, S = ⟨[(3, .I xt3_9h), (7, .cv (.ro .Ae p0.Kids)), (8, .I (p0.Kids.length : Int)), (9, .I xt9_9h)], []⟩ ∧ Dh.l9 K R p0 k xt3_9h xt9_9h = some o1) ?_ ⟨_, _, rfl, hp1⟩) ?_
 ·clear h hp1
  intro k S hS
  obtain ⟨xt3_9h, xt9_9h, rfl, h⟩ := hS
  cases k with
  | zero => cases h
  | succ k =>
  unfold Dh.l9 at h
  refine sg0 L 210 <| awp_seq ?_
  rcases ite_some h with ⟨c1, h⟩ | ⟨c1, h⟩
  ·refine tT c1 <| awp_skip' <| awp_seq <| awp_block <| awp_seq ?_
   obtain ⟨g1, h⟩ := guard_some h
   refine rg L 212 [] [] [] (pl2 g1.1 g1.2) ?_
   obtain ⟨a1, h1, h⟩ := bind_some h
   refine rg L 217 [] [(2, .I a1)] [] (plt (Dh.okR hR h1)) ?_
   refine ar0 L 223 [] [] [] (S' := ⟨[(3, .I (if a1 > xt3_9h then a1 else xt3_9h)), (7, .cv (.ro .Ae p0.Kids)), (8, .I (p0.Kids.length : Int)), (9, .I (IntKind.i64.wrap (xt9_9h + 1)))], []⟩) ?_
   exact ⟨k, Nat.lt_succ_self k, _, _, rfl, h⟩
  refine fF c1 <| ex (S' := ⟨[(3, .I xt3_9h)], []⟩) ?_
  cases h
  exact ⟨rfl, _, rfl, rfl⟩
 ·rintro e S ⟨rfl, xt3_9, rfl, rfl⟩
  refine ⟨_, Turns.refl, ?_⟩
  refine sg0 L 226 <| awp_ret ?_
  cases h
  exact er0
def Eo.upto (K : Nat) : Nat → Eo
 | 0 => ⟨fun _ => none⟩
 | k + 1 => ⟨Dh.F K (Eo.upto K k)⟩
theorem Eo.upto_ok (K : Nat) : ∀ k, (Eo.upto K k).Ok
 | 0 => ⟨fun h => (by cases h)⟩
 | k + 1 => ⟨fun {p0 r} h => eo (fn := Tryz.f22) (n := 20) (m := 100) fun Γ => Dh.body (K := K) (Eo.upto_ok K k) h⟩
def Dh (K : Nat) (p0 : Aa) : Option Int := (Eo.upto K K).Dh p0
theorem Dh.okE {K : Nat} {p0 : Aa} {r : Int} (h : Dh K p0 = some r) : ECall V P 22 [.agg (Ag p0)] [] [] (.I r) [] := (Eo.upto_ok K K).Dh h
theorem Dh.ok {K : Nat} {p0 : Aa} {r : Int} (h : Dh K p0 = some r) : PCall V P 22 [.agg (Ag p0)] (.I r) := (Dh.okE h).pcall (by kernel_rfl)
def Et (K : Nat) (p0 : List As) (p1 : Int) : Option (Int ⊕ (Aa × Int × Int)) := (Option.bind (Aw K (⟨p0, 0⟩ : Ab)) (fun a1 => match a1 with | (Sum.inl a1) => some (Sum.inl a1) | (Sum.inr (a1_0, a1_1)) => (Option.bind (Bx K a1_1) (fun a2 => (if a2.Kind ≠ 0 then (Option.bind (Bs K a1_1) (fun a3 => some (Sum.inl a3))) else (Option.bind (Di K a1_0) (fun a4 => (if a4 > 4000 then some (Sum.inr ((⟨0, [], 0, [], ([] : List Aa)⟩ : Aa), 0, 6)) else (Option.bind (Dh K a1_0) (fun a5 => (if a5 > 40 then some (Sum.inr ((⟨0, [], 0, [], ([] : List Aa)⟩ : Aa), 0, 7)) else some (Sum.inr (a1_0, 0, 0)))))))))))))
def Et.rep (p0 : List As) (p1 : Int) : Int ⊕ (Aa × Int × Int) → Outc T
 | (Sum.inl v0) => .pan (ofi 49 v0)
 | (Sum.inr (v0, v1, v2)) => .ret (.tup [.agg [.I v0.Op, .str v0.Name, .I v0.Int, .str v0.Text, .ro .Ae v0.Kids], .I v1, .I v2])
theorem Et.body {Γ : Ent} {K : Nat} {p0 : List As} {p1 : Int} {r : Int ⊕ (Aa × Int × Int)} (h : Et K p0 p1 = some r) : AWp V P 44 93 Γ (codeY (codeY (codeY (codeY (Tryz.f25.body.getD .skip))))) (EndsR P V Tryz.f25 (Et.rep p0 p1 r)) ⟨[(1, .cv (.fn (.func 32) [] [])), (4, .P 90), (5, .P 91), (6, .P 92), (7, .cv (.ro .Am p0))], [(90, .raw [.I 0, .str [], .I 0, .str [], .N]), (91, .raw [.I p1]), (92, .raw [.I 0])]⟩ := by
 unfold Et at h
 refine sg0 L 200 <| awp_seq ?_
 obtain ⟨a1, h1, h⟩ := bind_some h
 rcases a1 with a1 | a1
 ·dsimp only at h
  refine pn L 205 [] [] [] 2 [4, 5, 6] [90, 91, 92] (ef [0] [0] (.tup []) [] [(0, 202)]) (ofi 49 a1) (cs := [XPan V P 32 [.P 0] [(0, .raw [.ro .Am p0, .I 0])] (ofi 49 a1)]) (S' := ⟨[(4, .P 90), (5, .P 91), (6, .P 92)], [(90, .raw [.I 0, .str [], .I 0, .str [], .N]), (91, .raw [.I p1]), (92, .raw [.I 0])]⟩) (Aw.okE h1) ?_
  cases h
  exact (rp : EndsR P V Tryz.f25 (Et.rep p0 p1 (Sum.inl a1)) _ _)
 ·obtain ⟨a1_0, a1_1⟩ := a1
  dsimp only at h
  refine rg L 205 [] [] [(2, (ef [0] [0] (.agg (Ag a1_0)) [(0, .raw (Af a1_1))] [(0, 202)]))] (pl1 (Aw.okE h1)) ?_
  refine awp_seq <| awp_seq ?_
  obtain ⟨a2, h2, h⟩ := bind_some h
  refine rg L 210 [] [(1, .agg (Ea a2))] [] (plt (Bx.ok h2)) ?_
  rcases ite_some h with ⟨c1, h⟩ | ⟨c1, h⟩
  ·refine tT c1 ?_
   obtain ⟨a3, h3, h⟩ := bind_some h
   refine pn L 215 [] [] [] 1 [4, 5, 6] [90, 91, 92] (ef [0] [0] (.tup []) [] [(0, 202)]) (ofi 49 a3) (cs := [XPan V P 43 [.P 0] [(0, .raw (Af a1_1))] (ofi 49 a3)]) (S' := ⟨[(4, .P 90), (5, .P 91), (6, .P 92)], [(90, .raw (Ag a1_0)), (91, .raw [.I p1]), (92, .raw [.I 0])]⟩) (Bs.okE h3) ?_
   cases h
   exact (rp : EndsR P V Tryz.f25 (Et.rep p0 p1 (Sum.inl a3)) _ _)
  refine fF c1 <| awp_skip' <| awp_seq <| awp_block <| awp_seq ?_
  obtain ⟨a4, h4, h⟩ := bind_some h
  refine rg L 218 [] [(1, .I a4)] [] (plt (Di.ok h4)) ?_
  rcases ite_some h with ⟨c2, h⟩ | ⟨c2, h⟩
  ·refine tT c2 <| sg0 L 223 <| awp_ret ?_
   cases h
   exact rr0
  refine fF c2 <| awp_seq ?_
  obtain ⟨a5, h5, h⟩ := bind_some h
  refine rg L 228 [] [(1, .I a5)] [] (plt (Dh.ok h5)) ?_
  rcases ite_some h with ⟨c3, h⟩ | ⟨c3, h⟩
  ·refine tT c3 <| sg0 L 233 <| awp_ret ?_
   cases h
   exact rr0
  refine fF c3 <| awp_skip' <| sg0 L 238 <| awp_ret ?_
  cases h
  exact rr0
def F8 : Int ⊕ (Aa × Int × Int) → Aa × Int × Int
 | (Sum.inl v0) => (Ay, v0, 29)
 | (Sum.inr (v0, v1, v2)) => (v0, v1, v2)
def Fq (K : Nat) (p0 : List UInt8) : Option (Aa × Int × Int) := Option.bind (E1 K p0) (fun (a1_0, a1_1, a1_2) => if a1_2 ≠ 0 then some (Ay, a1_1, a1_2) else Option.bind (Et K a1_0 a1_1) (fun x => some (F8 x)))
theorem Fq.ok {K : Nat} {p0 : List UInt8} {r : Aa × Int × Int} (h : Fq K p0 = some r) : PCall V P 25 [.cv (.str p0), .cv (.fn (.func 32) [] [])] (.tup [.agg (Ag r.1), .I r.2.1, .I r.2.2]) := by
 unfold Fq at h
 obtain ⟨⟨l, at0, e0⟩, h1, h⟩ := bind_some h
 dsimp only at h
 by_cases he : e0 ≠ 0
 ·rw [if_pos he] at h
  obtain rfl := Option.some.inj h
  exact Gj (E1.ok h1) he
 ·rw [if_neg he] at h
  obtain ⟨x, h2, h⟩ := bind_some h
  obtain rfl := Option.some.inj h
  have he0 : e0 = 0 := Decidable.not_not.1 he
  subst he0
  refine Gh (o := Et.rep l at0 x) (E1.ok h1) (fun Γ => Et.body h2) ?_
  rcases x with v0 | ⟨v0, v1, v2⟩
  ·exact .inr ⟨v0, rfl, rfl⟩
  ·exact .inl rfl
def Fh (K : Nat) (p0 : List UInt8) : Option (Aa × Int × Int) := (Option.bind (Fq K p0) (fun (a1_0, a1_1, a1_2) => some (a1_0, a1_1, a1_2)))
theorem Fh.body {Γ : Ent} {K : Nat} {p0 : List UInt8} {r : Aa × Int × Int} (h : Fh K p0 = some r) : AWp V P 10 100 Γ (Tryz.f15.body.getD .skip) (EndsE P V Tryz.f15 (.tup [.agg [.I r.1.Op, .str r.1.Name, .I r.1.Int, .str r.1.Text, .ro .Ae r.1.Kids], .I r.2.1, .I r.2.2]) []) ⟨args0 0 [.cv (.str p0)], []⟩ := by
 unfold Fh at h
 refine sg0 L 200 <| awp_seq ?_
 obtain ⟨⟨a1_0, a1_1, a1_2⟩, h1, h⟩ := bind_some h
 dsimp only at h
 refine rg L 204 [] [(1, .tup [.agg (Ag a1_0), .I a1_1, .I a1_2])] [] (plt (Fq.ok h1)) ?_
 refine awp_turn (Turns.trans (Turns.kk [2, 3, 4] [200]) (Turns.rr [(200, 100)])) ?_
 refine awp_ret ?_
 cases h
 exact er0
theorem Fh.ok {K : Nat} {p0 : List UInt8} {r : Aa × Int × Int} (h : Fh K p0 = some r) : PCall V P 15 [.cv (.str p0)] (.tup [.agg [.I r.1.Op, .str r.1.Name, .I r.1.Int, .str r.1.Text, .ro .Ae r.1.Kids], .I r.2.1, .I r.2.2]) := ECall.pcall (eo (fn := Tryz.f15) (n := 10) (m := 100) fun Γ => Fh.body h) (by kernel_rfl)
def C4 (K : Nat) (p0 : Ab) : Option (Int ⊕ (Aa × Ab)) := (Option.bind (Ao K ([45] : List UInt8) p0) (fun (a1_0, a1_1) => (if a1_0 = true then (Option.bind (Bx K a1_1) (fun a2 => (if a2.Kind ≠ 3 then (Option.bind (Bs K a1_1) (fun a3 => some (Sum.inl a3))) else (Option.bind (D5 K a1_1) (fun (a4_0, a4_1) => (Option.bind (C3 K 14 ([(⟨4, [], a4_0.Int, [], ([] : List Aa)⟩ : Aa)] : List Aa)) (fun a5 => some (Sum.inr (a5, a4_1))))))))) else (Option.bind (D8 K a1_1) (fun (a6_0, a6_1, a6_2) => (if a6_1 = true then some (Sum.inr (a6_0, a6_2)) else (Option.bind (Bs K a6_2) (fun a7 => some (Sum.inl a7)))))))))
def C4.rep (p0 : Ab) : Int ⊕ (Aa × Ab) → Outc T
 | (Sum.inl v0) => .pan (ofi 49 v0)
 | (Sum.inr (v0, v1)) => .ret (.agg [.I v0.Op, .str v0.Name, .I v0.Int, .str v0.Text, .ro .Ae v0.Kids])
def C4.post (p0 : Ab) : Int ⊕ (Aa × Ab) → List (Nat × Blk T)
 | (Sum.inl v0) => []
 | (Sum.inr (v0, v1)) => [(0, .raw [.ro .Am v1.l, .I v1.i])]
theorem C4.body {Γ : Ent} {K : Nat} {p0 : Ab} {r : Int ⊕ (Aa × Ab)} (h : C4 K p0 = some r) : AWp V P 29 100 Γ (Tryz.f47.body.getD .skip) (EndsX P V Tryz.f47 (C4.rep p0 r) (C4.post p0 r)) ⟨args0 0 [.P 0], [(0, .raw (Af p0))]⟩ := by
 unfold C4 at h
 refine sg0 L 200 <| awp_seq <| awp_seq ?_
 obtain ⟨⟨a1_0, a1_1⟩, h1, h⟩ := bind_some h
 dsimp only at h
 refine rg L 202 [] [] [(1, (ef0 (.B a1_0) [(0, .raw (Af a1_1))]))] (pl1 (Ao.okE h1)) ?_
 rcases ite_some h with ⟨c1, h⟩ | ⟨c1, h⟩
 ·refine tt c1 <| awp_seq <| awp_seq ?_
  obtain ⟨a2, h2, h⟩ := bind_some h
  refine rg L 205 [] [(1, .agg (Ea a2))] [] (plt (Bx.ok h2)) ?_
  rcases ite_some h with ⟨c2, h⟩ | ⟨c2, h⟩
  ·refine tT c2 ?_
   obtain ⟨a3, h3, h⟩ := bind_some h
   refine qn L 210 [] [] [] 1 (ef0 (.tup []) []) (ofi 49 a3) (pl1 (Bs.okE h3)) ?_
   cases h
   exact rfl
  refine fF c2 <| awp_skip' <| awp_seq ?_
  obtain ⟨⟨a4_0, a4_1⟩, h4, h⟩ := bind_some h
  dsimp only at h
  obtain ⟨a5, h5, h⟩ := bind_some h
  refine rg L 213 [] [(5, .agg (Ag a5))] [(1, (ef0 (.agg (Ea a4_0)) [(0, .raw (Af a4_1))]))] (plc (D5.okE h4) (plc (C3.ok h5) (pl1 trivial))) ?_
  refine awp_turn (Turns.trans (Turns.kk [2] [0, 200]) (Turns.rr [(0, 0), (200, 100)])) ?_
  refine awp_ret ?_
  cases h
  exact xr0
 refine fN c1 <| awp_skip' <| awp_seq ?_
 obtain ⟨⟨a6_0, a6_1, a6_2⟩, h6, h⟩ := bind_some h
 dsimp only at h
 refine rg L 221 [] [] [(1, (ef0 (.tup [.agg (Ag a6_0), .B a6_1]) [(0, .raw (Af a6_2))]))] (pl1 (D8.okE h6)) ?_
 refine awp_seq <| sg0 L 230 ?_
 rcases ite_some h with ⟨c3, h⟩ | ⟨c3, h⟩
 ·refine ff (b := (!a6_1)) (congrArg Bool.not (c3)) ?_
  refine awp_skip' <| sg0 L 236 <| awp_turn (Turns.trans (Turns.kk [2] [0, 200]) (Turns.rr [(0, 0), (200, 100)])) ?_
  refine awp_ret ?_
  cases h
  exact xr0
 refine tt (b := (!a6_1)) (congrArg Bool.not (eq_false_of_ne_true c3)) ?_
 obtain ⟨a7, h7, h⟩ := bind_some h
 refine qn L 233 [] [] [] 1 (ef0 (.tup []) []) (ofi 49 a7) (pl1 (Bs.okE h7)) ?_
 cases h
 exact rfl
theorem C4.okE {K : Nat} {p0 : Ab} {r : Int ⊕ (Aa × Ab)} (h : C4 K p0 = some r) : XCall V P 47 [.P 0] [(0, .raw (Af p0))] [0] (C4.post p0 r) (C4.rep p0 r) :=
 xo (fn := Tryz.f47) (n := 29) (m := 100) fun Γ => C4.body h
def Cw (K : Nat) (p0 : Ab) : Option (Int ⊕ (Aa × Ab)) := (Option.bind (Au K p0) (fun a1 => match a1 with | (Sum.inl a1) => some (Sum.inl a1) | (Sum.inr (a1_0, a1_1)) => some (Sum.inr ((⟨6, a1_0, 0, [], ([] : List Aa)⟩ : Aa), a1_1))))
def Cw.rep (p0 : Ab) : Int ⊕ (Aa × Ab) → Outc T
 | (Sum.inl v0) => .pan (ofi 49 v0)
 | (Sum.inr (v0, v1)) => .ret (.agg [.I v0.Op, .str v0.Name, .I v0.Int, .str v0.Text, .ro .Ae v0.Kids])
def Cw.post (p0 : Ab) : Int ⊕ (Aa × Ab) → List (Nat × Blk T)
 | (Sum.inl v0) => []
 | (Sum.inr (v0, v1)) => [(0, .raw [.ro .Am v1.l, .I v1.i])]
theorem Cw.body {Γ : Ent} {K : Nat} {p0 : Ab} {r : Int ⊕ (Aa × Ab)} (h : Cw K p0 = some r) : AWp V P 6 100 Γ (Tryz.f49.body.getD .skip) (EndsX P V Tryz.f49 (Cw.rep p0 r) (Cw.post p0 r)) ⟨args0 0 [.P 0], [(0, .raw (Af p0))]⟩ := by
 unfold Cw at h
 refine sg0 L 200 <| awp_seq ?_
 obtain ⟨a1, h1, h⟩ := bind_some h
 rcases a1 with a1 | a1
 ·dsimp only at h
  refine qn L 202 [] [] [] 1 (ef0 (.tup []) []) (ofi 49 a1) (pl1 (Au.okE h1)) ?_
  cases h
  exact rfl
 ·obtain ⟨a1_0, a1_1⟩ := a1
  dsimp only at h
  refine rg L 202 [] [] [(1, (ef0 (.cv (.str a1_0)) [(0, .raw (Af a1_1))]))] (pl1 (Au.okE h1)) ?_
  refine awp_turn (Turns.trans (Turns.kk [2] [0, 200]) (Turns.rr [(0, 0), (200, 100)])) ?_
  refine awp_ret ?_
  cases h
  exact xr0
theorem Cw.okE {K : Nat} {p0 : Ab} {r : Int ⊕ (Aa × Ab)} (h : Cw K p0 = some r) : XCall V P 49 [.P 0] [(0, .raw (Af p0))] [0] (Cw.post p0 r) (Cw.rep p0 r) :=
 xo (fn := Tryz.f49) (n := 6) (m := 100) fun Γ => Cw.body h
end Go.Proofs.YtifjagfmfkemmaaGreatDoor
