/- What functions of the program compute, as Lean functions, and that they compute it. -/
import Derived.Test.YtifjagfmfkemmaaGreatDoorFn4
set_option linter.unusedVariables false
set_option maxHeartbeats 0
namespace Go.Proofs.YtifjagfmfkemmaaGreatDoor
open Eng
def Bd.l7 (K : Nat) (R : Ar) (p0 : List Aa) : Nat → Int → Option (Out Bool Unit)
 | 0, _ => none
 | k + 1, xt3_7h => (if xt3_7h < (p0.length : Int) then (if (0 : Int) ≤ xt3_7h ∧ (xt3_7h : Int) < (p0.length : Int) then (if (p0.getD (Int.toNat xt3_7h) Ai).Op = 51 then (if xt3_7h = (IntKind.i64.wrap ((p0.length : Int) - 1)) then (Option.bind (Ah K (p0.getD (Int.toNat xt3_7h) Ai) false false) (fun a1 => (if a1 = true then (if (((p0.getD (Int.toNat xt3_7h) Ai).Kids).length : Int) = 1 then (if (0 : Int) < (((p0.getD (Int.toNat xt3_7h) Ai).Kids).length : Int) then (Option.bind (R.Ao (((p0.getD (Int.toNat xt3_7h) Ai).Kids).getD (Int.toNat 0) Ai)) (fun a2 => (if a2 = true then Bd.l7 K R p0 k (IntKind.i64.wrap (xt3_7h + 1)) else (if (p0.getD (Int.toNat xt3_7h) Ai).Op ≠ 50 then some (Out.done false) else (if xt3_7h ≥ 16 then some (Out.done false) else (Option.bind (Ah K (p0.getD (Int.toNat xt3_7h) Ai) (decide ((p0.getD (Int.toNat xt3_7h) Ai).Name ≠ ([] : List UInt8))) false) (fun a3 => (if a3 = true then (if (((p0.getD (Int.toNat xt3_7h) Ai).Kids).length : Int) ≠ 2 then some (Out.done false) else (Option.bind (Am K (((p0.getD (Int.toNat xt3_7h) Ai).Kids).getD (Int.toNat 0) Ai)) (fun a4 => (if a4 = true then (if (1 : Int) < (((p0.getD (Int.toNat xt3_7h) Ai).Kids).length : Int) then (Option.bind (R.Ao (((p0.getD (Int.toNat xt3_7h) Ai).Kids).getD (Int.toNat 1) Ai)) (fun a5 => (if a5 = true then Bd.l7 K R p0 k (IntKind.i64.wrap (xt3_7h + 1)) else some (Out.done false)))) else none) else some (Out.done false))))) else some (Out.done false))))))))) else none) else (if (p0.getD (Int.toNat xt3_7h) Ai).Op ≠ 50 then some (Out.done false) else (if xt3_7h ≥ 16 then some (Out.done false) else (Option.bind (Ah K (p0.getD (Int.toNat xt3_7h) Ai) (decide ((p0.getD (Int.toNat xt3_7h) Ai).Name ≠ ([] : List UInt8))) false) (fun a6 => (if a6 = true then (if (((p0.getD (Int.toNat xt3_7h) Ai).Kids).length : Int) ≠ 2 then some (Out.done false) else (if (0 : Int) < (((p0.getD (Int.toNat xt3_7h) Ai).Kids).length : Int) then (Option.bind (Am K (((p0.getD (Int.toNat xt3_7h) Ai).Kids).getD (Int.toNat 0) Ai)) (fun a7 => (if a7 = true then (if (1 : Int) < (((p0.getD (Int.toNat xt3_7h) Ai).Kids).length : Int) then (Option.bind (R.Ao (((p0.getD (Int.toNat xt3_7h) Ai).Kids).getD (Int.toNat 1) Ai)) (fun a8 => (if a8 = true then Bd.l7 K R p0 k (IntKind.i64.wrap (xt3_7h + 1)) else some (Out.done false)))) else none) else some (Out.done false)))) else none)) else some (Out.done false))))))) else (if (p0.getD (Int.toNat xt3_7h) Ai).Op ≠ 50 then some (Out.done false) else (if xt3_7h ≥ 16 then some (Out.done false) else (Option.bind (Ah K (p0.getD (Int.toNat xt3_7h) Ai) (decide ((p0.getD (Int.toNat xt3_7h) Ai).Name ≠ ([] : List UInt8))) false) (fun a9 => (if a9 = true then (if (((p0.getD (Int.toNat xt3_7h) Ai).Kids).length : Int) ≠ 2 then some (Out.done false) else (if (0 : Int) < (((p0.getD (Int.toNat xt3_7h) Ai).Kids).length : Int) then (Option.bind (Am K (((p0.getD (Int.toNat xt3_7h) Ai).Kids).getD (Int.toNat 0) Ai)) (fun a10 => (if a10 = true then (if (1 : Int) < (((p0.getD (Int.toNat xt3_7h) Ai).Kids).length : Int) then (Option.bind (R.Ao (((p0.getD (Int.toNat xt3_7h) Ai).Kids).getD (Int.toNat 1) Ai)) (fun a11 => (if a11 = true then Bd.l7 K R p0 k (IntKind.i64.wrap (xt3_7h + 1)) else some (Out.done false)))) else none) else some (Out.done false)))) else none)) else some (Out.done false))))))))) else (if (p0.getD (Int.toNat xt3_7h) Ai).Op ≠ 50 then some (Out.done false) else (if xt3_7h ≥ 16 then some (Out.done false) else (Option.bind (Ah K (p0.getD (Int.toNat xt3_7h) Ai) (decide ((p0.getD (Int.toNat xt3_7h) Ai).Name ≠ ([] : List UInt8))) false) (fun a12 => (if a12 = true then (if (((p0.getD (Int.toNat xt3_7h) Ai).Kids).length : Int) ≠ 2 then some (Out.done false) else (if (0 : Int) < (((p0.getD (Int.toNat xt3_7h) Ai).Kids).length : Int) then (Option.bind (Am K (((p0.getD (Int.toNat xt3_7h) Ai).Kids).getD (Int.toNat 0) Ai)) (fun a13 => (if a13 = true then (if (1 : Int) < (((p0.getD (Int.toNat xt3_7h) Ai).Kids).length : Int) then (Option.bind (R.Ao (((p0.getD (Int.toNat xt3_7h) Ai).Kids).getD (Int.toNat 1) Ai)) (fun a14 => (if a14 = true then Bd.l7 K R p0 k (IntKind.i64.wrap (xt3_7h + 1)) else some (Out.done false)))) else none) else some (Out.done false)))) else none)) else some (Out.done false))))))) else (if (p0.getD (Int.toNat xt3_7h) Ai).Op ≠ 50 then some (Out.done false) else (if xt3_7h ≥ 16 then some (Out.done false) else (Option.bind (Ah K (p0.getD (Int.toNat xt3_7h) Ai) (decide ((p0.getD (Int.toNat xt3_7h) Ai).Name ≠ ([] : List UInt8))) false) (fun a15 => (if a15 = true then (if (((p0.getD (Int.toNat xt3_7h) Ai).Kids).length : Int) ≠ 2 then some (Out.done false) else (if (0 : Int) < (((p0.getD (Int.toNat xt3_7h) Ai).Kids).length : Int) then (Option.bind (Am K (((p0.getD (Int.toNat xt3_7h) Ai).Kids).getD (Int.toNat 0) Ai)) (fun a16 => (if a16 = true then (if (1 : Int) < (((p0.getD (Int.toNat xt3_7h) Ai).Kids).length : Int) then (Option.bind (R.Ao (((p0.getD (Int.toNat xt3_7h) Ai).Kids).getD (Int.toNat 1) Ai)) (fun a17 => (if a17 = true then Bd.l7 K R p0 k (IntKind.i64.wrap (xt3_7h + 1)) else some (Out.done false)))) else none) else some (Out.done false)))) else none)) else some (Out.done false))))))) else none) else some (Out.go ()))
def Bd.F (K : Nat) (R : Ar) (p0 : List Aa) : Option Bool := (obind (Bd.l7 K R p0 K 0 : Option (Out Bool Unit)) (fun r => r) (fun _ => some true))
theorem Bd.body {Γ : Ent} {K : Nat} {R : Ar} (hR : R.Ok) {p0 : List Aa} {r : Bool} (h : Bd.F K R p0 = some r) : AWp V P 79 100 Γ (Tryz.f124.body.getD .skip) (EndsE P V Tryz.f124 (.B r) []) ⟨args0 0 [.cv (.ro .Ad p0)], []⟩ := by
 unfold Bd.F at h
 refine sg0 L 200 <| awp_seq <| sg0 L 202 <| awp_block <| kp (S' := ⟨[(0, .cv (.ro .Ad p0)), (3, .I 0)], []⟩) ?_
 obtain ⟨o1, hp1, h⟩ := obind_some h
 refine awp_conseq (Q' := fun e S => (e = .exit 0 ∧ S = ⟨[], []⟩ ∧ Out.go () = o1) ∨ (e = .ret ∧ ∃ a, Out.done a = o1 ∧ EndsE P V Tryz.f124 (.B a) [] .ret S)) (awp_loop (fun k S => ∃ xt3_7h : Int, S = ⟨[(0, .cv (.ro .Ad p0)), (3, .I xt3_7h)], []⟩ ∧ Bd.l7 K R p0 k xt3_7h = some o1) ?_ ⟨_, rfl, hp1⟩) ?_
 ·clear h hp1
  intro k S hS
  obtain ⟨xt3_7h, rfl, h⟩ := hS
  cases k with
  | zero => cases h
  | succ k =>
  unfold Bd.l7 at h
  refine awp_seq <| sg0 L 204 ?_
  rcases ite_some h with ⟨c1, h⟩ | ⟨c1, h⟩
  ·refine tT c1 <| awp_skip' <| awp_seq <| awp_block <| awp_seq ?_
   obtain ⟨g1, h⟩ := guard_some h
   refine rg L 209 [] [] [] (pl2 g1.1 g1.2) ?_
   refine awp_seq <| awp_seq ?_
   rcases ite_some h with ⟨c2, h⟩ | ⟨c2, h⟩
   ·rcases ite_some h with ⟨c3, h⟩ | ⟨c3, h⟩
    ·obtain ⟨a1, h1, h⟩ := bind_some h
     rcases ite_some h with ⟨c4, h⟩ | ⟨c4, h⟩
     ·rcases ite_some h with ⟨c5, h⟩ | ⟨c5, h⟩
      ·obtain ⟨g2, h⟩ := guard_some h
       obtain ⟨a2, h2, h⟩ := bind_some h
       refine rg L 216 [(3, true), (10, true), (14, true), (20, true)] [(12, .B a1), (25, .B a2)] [] (plc (decide_eq_true c2) (plc (decide_eq_true c3) (plc (Ah.ok h1) (plc trivial (plc c4 (plc (decide_eq_true c5) (plc (show (0 : Int) ≤ 0 from by decide) (plc g2 (plc (Ao.okR hR h2) (pl1 trivial)))))))))) ?_
       rcases ite_some h with ⟨c6, h⟩ | ⟨c6, h⟩
       ·refine tt c6 <| awp_exit' ?_
        refine ar0 L 284 [] [] [] (S' := ⟨[(0, .cv (.ro .Ad p0)), (3, .I (IntKind.i64.wrap (xt3_7h + 1)))], []⟩) ?_
        exact ⟨k, Nat.lt_succ_self k, _, rfl, h⟩
       refine fN c6 <| awp_skip' <| awp_seq ?_
       rcases ite_some h with ⟨c7, h⟩ | ⟨c7, h⟩
       ·refine rg L 244 [(3, true)] [] [] (pl1 (decide_eq_true c7)) ?_
        refine tt (b := true) (rfl) ?_
        refine sg0 L 282 <| awp_ret ?_
        cases h
        exact .inr ⟨rfl, _, rfl, er0⟩
       rcases ite_some h with ⟨c8, h⟩ | ⟨c8, h⟩
       ·refine rg L 244 [(3, false), (7, true)] [] [] (pl2 (decide_eq_false c7) (decide_eq_true c8)) ?_
        refine tt (b := true) (rfl) ?_
        refine sg0 L 282 <| awp_ret ?_
        cases h
        exact .inr ⟨rfl, _, rfl, er0⟩
       obtain ⟨a3, h3, h⟩ := bind_some h
       rcases ite_some h with ⟨c9, h⟩ | ⟨c9, h⟩
       ·rcases ite_some h with ⟨c10, h⟩ | ⟨c10, h⟩
        ·refine rg L 244 [(3, false), (7, false), (15, false), (21, true)] [(12, .B a3)] [] (plc (decide_eq_false c7) (plc (decide_eq_false c8) (plc (Ah.ok h3) (plc trivial (plc (show (!a3) = false from congrArg Bool.not (c9)) (pl1 (decide_eq_true c10))))))) ?_
         refine tt (b := true) (rfl) ?_
         refine sg0 L 282 <| awp_ret ?_
         cases h
         exact .inr ⟨rfl, _, rfl, er0⟩
        obtain ⟨a4, h4, h⟩ := bind_some h
        rcases ite_some h with ⟨c11, h⟩ | ⟨c11, h⟩
        ·obtain ⟨g3, h⟩ := guard_some h
         obtain ⟨a5, h5, h⟩ := bind_some h
         refine rg L 244 [(3, false), (7, false), (15, false), (21, false), (29, false)] [(12, .B a3), (26, .B a4), (34, .B a5)] [] (plc (decide_eq_false c7) (plc (decide_eq_false c8) (plc (Ah.ok h3) (plc trivial (plc (show (!a3) = false from congrArg Bool.not (c9)) (plc (decide_eq_false c10) (plc (show (0 : Int) ≤ 0 from by decide) (plc g2 (plc (Am.ok h4) (plc trivial (plc (show (!a4) = false from congrArg Bool.not (c11)) (plc (show (0 : Int) ≤ 1 from by decide) (plc g3 (plc (Ao.okR hR h5) (pl1 trivial))))))))))))))) ?_
         rcases ite_some h with ⟨c12, h⟩ | ⟨c12, h⟩
         ·refine ff (b := (!a5)) (congrArg Bool.not (c12)) ?_
          refine awp_skip' <| ar0 L 284 [] [] [] (S' := ⟨[(0, .cv (.ro .Ad p0)), (3, .I (IntKind.i64.wrap (xt3_7h + 1)))], []⟩) ?_
          exact ⟨k, Nat.lt_succ_self k, _, rfl, h⟩
         refine tt (b := (!a5)) (congrArg Bool.not (eq_false_of_ne_true c12)) ?_
         refine sg0 L 282 <| awp_ret ?_
         cases h
         exact .inr ⟨rfl, _, rfl, er0⟩
        refine rg L 244 [(3, false), (7, false), (15, false), (21, false), (29, true)] [(12, .B a3), (26, .B a4)] [] (plc (decide_eq_false c7) (plc (decide_eq_false c8) (plc (Ah.ok h3) (plc trivial (plc (show (!a3) = false from congrArg Bool.not (c9)) (plc (decide_eq_false c10) (plc (show (0 : Int) ≤ 0 from by decide) (plc g2 (plc (Am.ok h4) (plc trivial (pl1 (show (!a4) = true from congrArg Bool.not (eq_false_of_ne_true c11))))))))))))) ?_
        refine tt (b := true) (rfl) ?_
        refine sg0 L 282 <| awp_ret ?_
        cases h
        exact .inr ⟨rfl, _, rfl, er0⟩
       refine rg L 244 [(3, false), (7, false), (15, true)] [(12, .B a3)] [] (plc (decide_eq_false c7) (plc (decide_eq_false c8) (plc (Ah.ok h3) (plc trivial (pl1 (show (!a3) = true from congrArg Bool.not (eq_false_of_ne_true c9))))))) ?_
       refine tt (b := true) (rfl) ?_
       refine sg0 L 282 <| awp_ret ?_
       cases h
       exact .inr ⟨rfl, _, rfl, er0⟩
      refine rg L 216 [(3, true), (10, true), (14, true), (20, false)] [(12, .B a1)] [] (plc (decide_eq_true c2) (plc (decide_eq_true c3) (plc (Ah.ok h1) (plc trivial (plc c4 (pl1 (decide_eq_false c5))))))) ?_
      refine ff (b := false) (rfl) ?_
      refine awp_skip' <| awp_seq ?_
      rcases ite_some h with ⟨c13, h⟩ | ⟨c13, h⟩
      ·refine rg L 244 [(3, true)] [] [] (pl1 (decide_eq_true c13)) ?_
       refine tt (b := true) (rfl) ?_
       refine sg0 L 282 <| awp_ret ?_
       cases h
       exact .inr ⟨rfl, _, rfl, er0⟩
      rcases ite_some h with ⟨c14, h⟩ | ⟨c14, h⟩
      ·refine rg L 244 [(3, false), (7, true)] [] [] (pl2 (decide_eq_false c13) (decide_eq_true c14)) ?_
       refine tt (b := true) (rfl) ?_
       refine sg0 L 282 <| awp_ret ?_
       cases h
       exact .inr ⟨rfl, _, rfl, er0⟩
      obtain ⟨a6, h6, h⟩ := bind_some h
      rcases ite_some h with ⟨c15, h⟩ | ⟨c15, h⟩
      ·rcases ite_some h with ⟨c16, h⟩ | ⟨c16, h⟩
       ·refine rg L 244 [(3, false), (7, false), (15, false), (21, true)] [(12, .B a6)] [] (plc (decide_eq_false c13) (plc (decide_eq_false c14) (plc (Ah.ok h6) (plc trivial (plc (show (!a6) = false from congrArg Bool.not (c15)) (pl1 (decide_eq_true c16))))))) ?_
        refine tt (b := true) (rfl) ?_
        refine sg0 L 282 <| awp_ret ?_
        cases h
        exact .inr ⟨rfl, _, rfl, er0⟩
       obtain ⟨g4, h⟩ := guard_some h
       obtain ⟨a7, h7, h⟩ := bind_some h
       rcases ite_some h with ⟨c17, h⟩ | ⟨c17, h⟩
       ·obtain ⟨g5, h⟩ := guard_some h
        obtain ⟨a8, h8, h⟩ := bind_some h
        refine rg L 244 [(3, false), (7, false), (15, false), (21, false), (29, false)] [(12, .B a6), (26, .B a7), (34, .B a8)] [] (plc (decide_eq_false c13) (plc (decide_eq_false c14) (plc (Ah.ok h6) (plc trivial (plc (show (!a6) = false from congrArg Bool.not (c15)) (plc (decide_eq_false c16) (plc (show (0 : Int) ≤ 0 from by decide) (plc g4 (plc (Am.ok h7) (plc trivial (plc (show (!a7) = false from congrArg Bool.not (c17)) (plc (show (0 : Int) ≤ 1 from by decide) (plc g5 (plc (Ao.okR hR h8) (pl1 trivial))))))))))))))) ?_
        rcases ite_some h with ⟨c18, h⟩ | ⟨c18, h⟩
        ·refine ff (b := (!a8)) (congrArg Bool.not (c18)) ?_
         refine awp_skip' <| ar0 L 284 [] [] [] (S' := ⟨[(0, .cv (.ro .Ad p0)), (3, .I (IntKind.i64.wrap (xt3_7h + 1)))], []⟩) ?_
         exact ⟨k, Nat.lt_succ_self k, _, rfl, h⟩
        refine tt (b := (!a8)) (congrArg Bool.not (eq_false_of_ne_true c18)) ?_
        refine sg0 L 282 <| awp_ret ?_
        cases h
        exact .inr ⟨rfl, _, rfl, er0⟩
       refine rg L 244 [(3, false), (7, false), (15, false), (21, false), (29, true)] [(12, .B a6), (26, .B a7)] [] (plc (decide_eq_false c13) (plc (decide_eq_false c14) (plc (Ah.ok h6) (plc trivial (plc (show (!a6) = false from congrArg Bool.not (c15)) (plc (decide_eq_false c16) (plc (show (0 : Int) ≤ 0 from by decide) (plc g4 (plc (Am.ok h7) (plc trivial (pl1 (show (!a7) = true from congrArg Bool.not (eq_false_of_ne_true c17))))))))))))) ?_
       refine tt (b := true) (rfl) ?_
       refine sg0 L 282 <| awp_ret ?_
       cases h
       exact .inr ⟨rfl, _, rfl, er0⟩
      refine rg L 244 [(3, false), (7, false), (15, true)] [(12, .B a6)] [] (plc (decide_eq_false c13) (plc (decide_eq_false c14) (plc (Ah.ok h6) (plc trivial (pl1 (show (!a6) = true from congrArg Bool.not (eq_false_of_ne_true c15))))))) ?_
      refine tt (b := true) (rfl) ?_
      refine sg0 L 282 <| awp_ret ?_
      cases h
      exact .inr ⟨rfl, _, rfl, er0⟩
     refine rg L 216 [(3, true), (10, true), (14, false)] [(12, .B a1)] [] (plc (decide_eq_true c2) (plc (decide_eq_true c3) (plc (Ah.ok h1) (plc trivial (pl1 (eq_false_of_ne_true c4)))))) ?_
     refine ff (b := false) (rfl) ?_
     refine awp_skip' <| awp_seq ?_
     rcases ite_some h with ⟨c19, h⟩ | ⟨c19, h⟩
     ·refine rg L 244 [(3, true)] [] [] (pl1 (decide_eq_true c19)) ?_
      refine tt (b := true) (rfl) ?_
      refine sg0 L 282 <| awp_ret ?_
      cases h
      exact .inr ⟨rfl, _, rfl, er0⟩
     rcases ite_some h with ⟨c20, h⟩ | ⟨c20, h⟩
     ·refine rg L 244 [(3, false), (7, true)] [] [] (pl2 (decide_eq_false c19) (decide_eq_true c20)) ?_
      refine tt (b := true) (rfl) ?_
      refine sg0 L 282 <| awp_ret ?_
      cases h
      exact .inr ⟨rfl, _, rfl, er0⟩
     obtain ⟨a9, h9, h⟩ := bind_some h
     rcases ite_some h with ⟨c21, h⟩ | ⟨c21, h⟩
     ·rcases ite_some h with ⟨c22, h⟩ | ⟨c22, h⟩
      ·refine rg L 244 [(3, false), (7, false), (15, false), (21, true)] [(12, .B a9)] [] (plc (decide_eq_false c19) (plc (decide_eq_false c20) (plc (Ah.ok h9) (plc trivial (plc (show (!a9) = false from congrArg Bool.not (c21)) (pl1 (decide_eq_true c22))))))) ?_
       refine tt (b := true) (rfl) ?_
       refine sg0 L 282 <| awp_ret ?_
       cases h
       exact .inr ⟨rfl, _, rfl, er0⟩
      obtain ⟨g6, h⟩ := guard_some h
      obtain ⟨a10, h10, h⟩ := bind_some h
      rcases ite_some h with ⟨c23, h⟩ | ⟨c23, h⟩
      ·obtain ⟨g7, h⟩ := guard_some h
       obtain ⟨a11, h11, h⟩ := bind_some h
       refine rg L 244 [(3, false), (7, false), (15, false), (21, false), (29, false)] [(12, .B a9), (26, .B a10), (34, .B a11)] [] (plc (decide_eq_false c19) (plc (decide_eq_false c20) (plc (Ah.ok h9) (plc trivial (plc (show (!a9) = false from congrArg Bool.not (c21)) (plc (decide_eq_false c22) (plc (show (0 : Int) ≤ 0 from by decide) (plc g6 (plc (Am.ok h10) (plc trivial (plc (show (!a10) = false from congrArg Bool.not (c23)) (plc (show (0 : Int) ≤ 1 from by decide) (plc g7 (plc (Ao.okR hR h11) (pl1 trivial))))))))))))))) ?_
       rcases ite_some h with ⟨c24, h⟩ | ⟨c24, h⟩
       ·refine ff (b := (!a11)) (congrArg Bool.not (c24)) ?_
        refine awp_skip' <| ar0 L 284 [] [] [] (S' := ⟨[(0, .cv (.ro .Ad p0)), (3, .I (IntKind.i64.wrap (xt3_7h + 1)))], []⟩) ?_
        exact ⟨k, Nat.lt_succ_self k, _, rfl, h⟩
       refine tt (b := (!a11)) (congrArg Bool.not (eq_false_of_ne_true c24)) ?_
       refine sg0 L 282 <| awp_ret ?_
       cases h
       exact .inr ⟨rfl, _, rfl, er0⟩
      refine rg L 244 [(3, false), (7, false), (15, false), (21, false), (29, true)] [(12, .B a9), (26, .B a10)] [] (plc (decide_eq_false c19) (plc (decide_eq_false c20) (plc (Ah.ok h9) (plc trivial (plc (show (!a9) = false from congrArg Bool.not (c21)) (plc (decide_eq_false c22) (plc (show (0 : Int) ≤ 0 from by decide) (plc g6 (plc (Am.ok h10) (plc trivial (pl1 (show (!a10) = true from congrArg Bool.not (eq_false_of_ne_true c23))))))))))))) ?_
      refine tt (b := true) (rfl) ?_
      refine sg0 L 282 <| awp_ret ?_
      cases h
      exact .inr ⟨rfl, _, rfl, er0⟩
     refine rg L 244 [(3, false), (7, false), (15, true)] [(12, .B a9)] [] (plc (decide_eq_false c19) (plc (decide_eq_false c20) (plc (Ah.ok h9) (plc trivial (pl1 (show (!a9) = true from congrArg Bool.not (eq_false_of_ne_true c21))))))) ?_
     refine tt (b := true) (rfl) ?_
     refine sg0 L 282 <| awp_ret ?_
     cases h
     exact .inr ⟨rfl, _, rfl, er0⟩
    refine rg L 216 [(3, true), (10, false)] [] [] (pl2 (decide_eq_true c2) (decide_eq_false c3)) ?_
    refine ff (b := false) (rfl) ?_
    refine awp_skip' <| awp_seq ?_
    rcases ite_some h with ⟨c25, h⟩ | ⟨c25, h⟩
    ·refine rg L 244 [(3, true)] [] [] (pl1 (decide_eq_true c25)) ?_
     refine tt (b := true) (rfl) ?_
     refine sg0 L 282 <| awp_ret ?_
     cases h
     exact .inr ⟨rfl, _, rfl, er0⟩
    rcases ite_some h with ⟨c26, h⟩ | ⟨c26, h⟩
    ·refine rg L 244 [(3, false), (7, true)] [] [] (pl2 (decide_eq_false c25) (decide_eq_true c26)) ?_
     refine tt (b := true) (rfl) ?_
     refine sg0 L 282 <| awp_ret ?_
     cases h
     exact .inr ⟨rfl, _, rfl, er0⟩
    obtain ⟨a12, h12, h⟩ := bind_some h
    rcases ite_some h with ⟨c27, h⟩ | ⟨c27, h⟩
    ·rcases ite_some h with ⟨c28, h⟩ | ⟨c28, h⟩
     ·refine rg L 244 [(3, false), (7, false), (15, false), (21, true)] [(12, .B a12)] [] (plc (decide_eq_false c25) (plc (decide_eq_false c26) (plc (Ah.ok h12) (plc trivial (plc (show (!a12) = false from congrArg Bool.not (c27)) (pl1 (decide_eq_true c28))))))) ?_
      refine tt (b := true) (rfl) ?_
      refine sg0 L 282 <| awp_ret ?_
      cases h
      exact .inr ⟨rfl, _, rfl, er0⟩
     obtain ⟨g8, h⟩ := guard_some h
     obtain ⟨a13, h13, h⟩ := bind_some h
     rcases ite_some h with ⟨c29, h⟩ | ⟨c29, h⟩
     ·obtain ⟨g9, h⟩ := guard_some h
      obtain ⟨a14, h14, h⟩ := bind_some h
      refine rg L 244 [(3, false), (7, false), (15, false), (21, false), (29, false)] [(12, .B a12), (26, .B a13), (34, .B a14)] [] (plc (decide_eq_false c25) (plc (decide_eq_false c26) (plc (Ah.ok h12) (plc trivial (plc (show (!a12) = false from congrArg Bool.not (c27)) (plc (decide_eq_false c28) (plc (show (0 : Int) ≤ 0 from by decide) (plc g8 (plc (Am.ok h13) (plc trivial (plc (show (!a13) = false from congrArg Bool.not (c29)) (plc (show (0 : Int) ≤ 1 from by decide) (plc g9 (plc (Ao.okR hR h14) (pl1 trivial))))))))))))))) ?_
      rcases ite_some h with ⟨c30, h⟩ | ⟨c30, h⟩
      ·refine ff (b := (!a14)) (congrArg Bool.not (c30)) ?_
       refine awp_skip' <| ar0 L 284 [] [] [] (S' := ⟨[(0, .cv (.ro .Ad p0)), (3, .I (IntKind.i64.wrap (xt3_7h + 1)))], []⟩) ?_
       exact ⟨k, Nat.lt_succ_self k, _, rfl, h⟩
      refine tt (b := (!a14)) (congrArg Bool.not (eq_false_of_ne_true c30)) ?_
      refine sg0 L 282 <| awp_ret ?_
      cases h
      exact .inr ⟨rfl, _, rfl, er0⟩
     refine rg L 244 [(3, false), (7, false), (15, false), (21, false), (29, true)] [(12, .B a12), (26, .B a13)] [] (plc (decide_eq_false c25) (plc (decide_eq_false c26) (plc (Ah.ok h12) (plc trivial (plc (show (!a12) = false from congrArg Bool.not (c27)) (plc (decide_eq_false c28) (plc (show (0 : Int) ≤ 0 from by decide) (plc g8 (plc (Am.ok h13) (plc trivial (pl1 (show (!a13) = true from congrArg Bool.not (eq_false_of_ne_true c29))))))))))))) ?_
     refine tt (b := true) (rfl) ?_
     refine sg0 L 282 <| awp_ret ?_
     cases h
     exact .inr ⟨rfl, _, rfl, er0⟩
    refine rg L 244 [(3, false), (7, false), (15, true)] [(12, .B a12)] [] (plc (decide_eq_false c25) (plc (decide_eq_false c26) (plc (Ah.ok h12) (plc trivial (pl1 (show (!a12) = true from congrArg Bool.not (eq_false_of_ne_true c27))))))) ?_
    refine tt (b := true) (rfl) ?_
    refine sg0 L 282 <| awp_ret ?_
    cases h
    exact .inr ⟨rfl, _, rfl, er0⟩
   refine rg L 216 [(3, false)] [] [] (pl1 (decide_eq_false c2)) ?_
   refine ff (b := false) (rfl) ?_
   refine awp_skip' <| awp_seq ?_
   rcases ite_some h with ⟨c31, h⟩ | ⟨c31, h⟩
   ·refine rg L 244 [(3, true)] [] [] (pl1 (decide_eq_true c31)) ?_
    refine tt (b := true) (rfl) ?_
    refine sg0 L 282 <| awp_ret ?_
    cases h
    exact .inr ⟨rfl, _, rfl, er0⟩
   rcases ite_some h with ⟨c32, h⟩ | ⟨c32, h⟩
   ·refine rg L 244 [(3, false), (7, true)] [] [] (pl2 (decide_eq_false c31) (decide_eq_true c32)) ?_
    refine tt (b := true) (rfl) ?_
    refine sg0 L 282 <| awp_ret ?_
    cases h
    exact .inr ⟨rfl, _, rfl, er0⟩
   obtain ⟨a15, h15, h⟩ := bind_some h
   rcases ite_some h with ⟨c33, h⟩ | ⟨c33, h⟩
   ·rcases ite_some h with ⟨c34, h⟩ | ⟨c34, h⟩
    ·refine rg L 244 [(3, false), (7, false), (15, false), (21, true)] [(12, .B a15)] [] (plc (decide_eq_false c31) (plc (decide_eq_false c32) (plc (Ah.ok h15) (plc trivial (plc (show (!a15) = false from congrArg Bool.not (c33)) (pl1 (decide_eq_true c34))))))) ?_
     refine tt (b := true) (rfl) ?_
     refine sg0 L 282 <| awp_ret ?_
     cases h
     exact .inr ⟨rfl, _, rfl, er0⟩
    obtain ⟨g10, h⟩ := guard_some h
    obtain ⟨a16, h16, h⟩ := bind_some h
    rcases ite_some h with ⟨c35, h⟩ | ⟨c35, h⟩
    ·obtain ⟨g11, h⟩ := guard_some h
     obtain ⟨a17, h17, h⟩ := bind_some h
     refine rg L 244 [(3, false), (7, false), (15, false), (21, false), (29, false)] [(12, .B a15), (26, .B a16), (34, .B a17)] [] (plc (decide_eq_false c31) (plc (decide_eq_false c32) (plc (Ah.ok h15) (plc trivial (plc (show (!a15) = false from congrArg Bool.not (c33)) (plc (decide_eq_false c34) (plc (show (0 : Int) ≤ 0 from by decide) (plc g10 (plc (Am.ok h16) (plc trivial (plc (show (!a16) = false from congrArg Bool.not (c35)) (plc (show (0 : Int) ≤ 1 from by decide) (plc g11 (plc (Ao.okR hR h17) (pl1 trivial))))))))))))))) ?_
     rcases ite_some h with ⟨c36, h⟩ | ⟨c36, h⟩
     ·refine ff (b := (!a17)) (congrArg Bool.not (c36)) ?_
      refine awp_skip' <| ar0 L 284 [] [] [] (S' := ⟨[(0, .cv (.ro .Ad p0)), (3, .I (IntKind.i64.wrap (xt3_7h + 1)))], []⟩) ?_
      exact ⟨k, Nat.lt_succ_self k, _, rfl, h⟩
     refine tt (b := (!a17)) (congrArg Bool.not (eq_false_of_ne_true c36)) ?_
     refine sg0 L 282 <| awp_ret ?_
     cases h
     exact .inr ⟨rfl, _, rfl, er0⟩
    refine rg L 244 [(3, false), (7, false), (15, false), (21, false), (29, true)] [(12, .B a15), (26, .B a16)] [] (plc (decide_eq_false c31) (plc (decide_eq_false c32) (plc (Ah.ok h15) (plc trivial (plc (show (!a15) = false from congrArg Bool.not (c33)) (plc (decide_eq_false c34) (plc (show (0 : Int) ≤ 0 from by decide) (plc g10 (plc (Am.ok h16) (plc trivial (pl1 (show (!a16) = true from congrArg Bool.not (eq_false_of_ne_true c35))))))))))))) ?_
    refine tt (b := true) (rfl) ?_
    refine sg0 L 282 <| awp_ret ?_
    cases h
    exact .inr ⟨rfl, _, rfl, er0⟩
   refine rg L 244 [(3, false), (7, false), (15, true)] [(12, .B a15)] [] (plc (decide_eq_false c31) (plc (decide_eq_false c32) (plc (Ah.ok h15) (plc trivial (pl1 (show (!a15) = true from congrArg Bool.not (eq_false_of_ne_true c33))))))) ?_
   refine tt (b := true) (rfl) ?_
   refine sg0 L 282 <| awp_ret ?_
   cases h
   exact .inr ⟨rfl, _, rfl, er0⟩
  refine fF c1 <| ex (S' := ⟨[], []⟩) ?_
  cases h
  exact .inl ⟨rfl, rfl, rfl⟩
 ·rintro e S (⟨rfl, rfl, rfl⟩ | ⟨rfl, a, rfl, hr⟩)
  ·rcases h with ⟨_, e1, h⟩ | ⟨_, e1, h⟩
   ·cases e1
   ·have e2 := Out.go.inj e1
    subst e2
    refine ⟨_, Turns.refl, ?_⟩
    refine sg0 L 288 <| awp_ret ?_
    cases h
    exact er0
  ·rcases h with ⟨_, e1, h⟩ | ⟨_, e1, h⟩
   ·have e2 := Out.done.inj e1
    subst e2
    subst h
    exact ⟨_, Turns.refl, hr⟩
   ·cases e1
def Bq.F (K : Nat) (R : Ar) (p0 : Aa) : Option Bool := (Option.bind ((if p0.Op = 40 then some (decide (p0.Op = 40)) else some (decide (p0.Op = 41))) : Option Bool) (fun xt9_9 => (if xt9_9 = true then (Option.bind (Ah K p0 true false) (fun a1 => (if a1 = true then (if (p0.Kids.length : Int) = 1 then (Option.bind (Ay K p0.Kids) (fun a2 => some a2)) else some false) else some false))) else (if p0.Op = 42 then (Option.bind (Ah K p0 false false) (fun a3 => (if a3 = true then (if (p0.Kids.length : Int) < 2 then some false else (if (p0.Kids.length : Int) > 3 then some false else (if (0 : Int) < (p0.Kids.length : Int) then (Option.bind (Am K (p0.Kids.getD (Int.toNat 0) Ai)) (fun a4 => (if a4 = true then (if (1 : Int) < (p0.Kids.length : Int) then (Option.bind (R.Ao (p0.Kids.getD (Int.toNat 1) Ai)) (fun a5 => (if a5 = true then (if (p0.Kids.length : Int) = 2 then some true else (if (2 : Int) < (p0.Kids.length : Int) then (Option.bind (R.Ao (p0.Kids.getD (Int.toNat 2) Ai)) (fun a6 => (if a6 = true then some true else (if (p0.Kids.getD (Int.toNat 2) Ai).Op = 42 then (Option.bind (R.Bq (p0.Kids.getD (Int.toNat 2) Ai)) (fun a7 => some a7)) else some false)))) else none)) else some false))) else none) else some false))) else none))) else some false))) else (if p0.Op = 43 then (Option.bind (Ah K p0 false false) (fun a8 => (if a8 = true then (if (p0.Kids.length : Int) = 2 then (if (0 : Int) < (p0.Kids.length : Int) then (Option.bind (Am K (p0.Kids.getD (Int.toNat 0) Ai)) (fun a9 => (if a9 = true then (if (1 : Int) < (p0.Kids.length : Int) then (Option.bind (R.Ao (p0.Kids.getD (Int.toNat 1) Ai)) (fun a10 => some a10)) else none) else some false))) else none) else some false) else some false))) else (if p0.Op = 44 then (Option.bind (Ah K p0 false false) (fun a11 => (if a11 = true then (if (p0.Kids.length : Int) ≤ 1 then (Option.bind (Ay K p0.Kids) (fun a12 => some a12)) else some false) else some false))) else (Option.bind ((if p0.Op = 45 then some (decide (p0.Op = 45)) else some (decide (p0.Op = 52))) : Option Bool) (fun xt111_45 => (if xt111_45 = true then (Option.bind (Ah K p0 false false) (fun a13 => (if a13 = true then (if (p0.Kids.length : Int) = 1 then (Option.bind (Ay K p0.Kids) (fun a14 => some a14)) else some false) else some false))) else (if p0.Op = 46 then (Option.bind (Ah K p0 true false) (fun a15 => (if a15 = true then (if (p0.Kids.length : Int) = 2 then (Option.bind (R.A7 p0.Kids) (fun a16 => some a16)) else some false) else some false))) else (if p0.Op = 47 then (Option.bind (Ah K p0 false false) (fun a17 => (if a17 = true then (if (p0.Kids.length : Int) = 1 then (Option.bind (R.A7 p0.Kids) (fun a18 => some a18)) else some false) else some false))) else (if p0.Op = 48 then (Option.bind (Ah K p0 true false) (fun a19 => (if a19 = true then (Option.bind (Ay K p0.Kids) (fun a20 => some a20)) else some false))) else (if p0.Op = 49 then (Option.bind (Ah K p0 false false) (fun a21 => (if a21 = true then (if (p0.Kids.length : Int) > 0 then (Option.bind (R.Bd p0.Kids) (fun a22 => some a22)) else some false) else some false))) else some false)))))))))))))
theorem Bq.body {Γ : Ent} {K : Nat} {R : Ar} (hR : R.Ok) {p0 : Aa} {r : Bool} (h : Bq.F K R p0 = some r) : AWp V P 173 100 Γ (Tryz.f96.body.getD .skip) (EndsE P V Tryz.f96 (.B r) []) ⟨args0 0 [.agg (Ae p0)], []⟩ := by
 unfold Bq.F at h
 refine sg0 L 200 <| sg0 L 203 <| awp_seq <| sg0 L 208 <| awp_block ?_
 obtain ⟨o1, hp1, h⟩ := bind_some h
 refine awp_seq (awp_mono (Q' := fun e S => (e = .normal ∧ ∃ xt9_9 : Bool, S = ⟨[(1, .P 21800), (3, .I (p0.Kids.length : Int)), (8, .I p0.Op), (9, .B xt9_9)], [(21800, .raw (Ae p0))]⟩ ∧ xt9_9 = o1)) ?_ ?_)
 ·clear h
  replace h := hp1
  refine sg0 L 211 ?_
  rcases ite_some h with ⟨c1, h⟩ | ⟨c1, h⟩
  ·refine tT c1 <| awp_turn (Turns.trans (Turns.kk [1, 3, 8, 9] [200]) (Turns.rr [(200, 21800)])) ?_
   refine sk (S' := ⟨[(1, .P 21800), (3, .I (p0.Kids.length : Int)), (8, .I p0.Op), (9, .B (decide (p0.Op = 40)))], [(21800, .raw (Ae p0))]⟩) ?_
   cases h
   exact ⟨rfl, _, rfl, rfl⟩
  refine fF c1 <| awp_post (rg0 L 214 ⟨rfl, rfl⟩) (Turns.trans (Turns.kk [1, 3, 8, 9] [200]) (Turns.trans (Turns.rr [(200, 21800)]) (Turns.kp (S' := ⟨[(1, .P 21800), (3, .I (p0.Kids.length : Int)), (8, .I p0.Op), (9, .B (decide (p0.Op = 41)))], [(21800, .raw (Ae p0))]⟩)))) ?_
  cases h
  exact ⟨rfl, _, rfl, rfl⟩
 ·rintro e S ⟨rfl, xt9_9, rfl, rfl⟩
  rcases ite_some h with ⟨c2, h⟩ | ⟨c2, h⟩
  ·refine tt c2 <| awp_seq ?_
   obtain ⟨a1, h1, h⟩ := bind_some h
   rcases ite_some h with ⟨c3, h⟩ | ⟨c3, h⟩
   ·rcases ite_some h with ⟨c4, h⟩ | ⟨c4, h⟩
    ·obtain ⟨a2, h2, h⟩ := bind_some h
     refine rg L 217 [(2, true), (6, true)] [(1, .B a1), (9, .B a2)] [] (plc (Ah.ok h1) (plc trivial (plc c3 (plc (decide_eq_true c4) (plc (Ay.ok h2) (pl1 trivial)))))) ?_
     refine awp_ret ?_
     cases h
     exact er0
    refine rg L 217 [(2, true), (6, false)] [(1, .B a1)] [] (plc (Ah.ok h1) (plc trivial (plc c3 (pl1 (decide_eq_false c4))))) ?_
    refine awp_ret ?_
    cases h
    exact er0
   refine rg L 217 [(2, false)] [(1, .B a1)] [] (plc (Ah.ok h1) (plc trivial (pl1 (eq_false_of_ne_true c3)))) ?_
   refine awp_ret ?_
   cases h
   exact er0
  refine fN c2 <| sg0 L 230 ?_
  rcases ite_some h with ⟨c5, h⟩ | ⟨c5, h⟩
  ·refine tT c5 <| awp_seq <| awp_seq ?_
   obtain ⟨a3, h3, h⟩ := bind_some h
   rcases ite_some h with ⟨c6, h⟩ | ⟨c6, h⟩
   ·rcases ite_some h with ⟨c7, h⟩ | ⟨c7, h⟩
    ·refine rg L 233 [(3, false), (7, true)] [(1, .B a3)] [] (plc (Ah.ok h3) (plc trivial (plc (show (!a3) = false from congrArg Bool.not (c6)) (pl1 (decide_eq_true c7))))) ?_
     refine tt (b := true) (rfl) ?_
     refine sg0 L 261 <| awp_ret ?_
     cases h
     exact er0
    rcases ite_some h with ⟨c8, h⟩ | ⟨c8, h⟩
    ·refine rg L 233 [(3, false), (7, false), (11, true)] [(1, .B a3)] [] (plc (Ah.ok h3) (plc trivial (plc (show (!a3) = false from congrArg Bool.not (c6)) (plc (decide_eq_false c7) (pl1 (decide_eq_true c8)))))) ?_
     refine tt (b := true) (rfl) ?_
     refine sg0 L 261 <| awp_ret ?_
     cases h
     exact er0
    obtain ⟨g1, h⟩ := guard_some h
    obtain ⟨a4, h4, h⟩ := bind_some h
    rcases ite_some h with ⟨c9, h⟩ | ⟨c9, h⟩
    ·obtain ⟨g2, h⟩ := guard_some h
     obtain ⟨a5, h5, h⟩ := bind_some h
     refine rg L 233 [(3, false), (7, false), (11, false), (19, false)] [(1, .B a3), (16, .B a4), (24, .B a5)] [] (plc (Ah.ok h3) (plc trivial (plc (show (!a3) = false from congrArg Bool.not (c6)) (plc (decide_eq_false c7) (plc (decide_eq_false c8) (plc (show (0 : Int) ≤ 0 from by decide) (plc g1 (plc (Am.ok h4) (plc trivial (plc (show (!a4) = false from congrArg Bool.not (c9)) (plc (show (0 : Int) ≤ 1 from by decide) (plc g2 (plc (Ao.okR hR h5) (pl1 trivial)))))))))))))) ?_
     rcases ite_some h with ⟨c10, h⟩ | ⟨c10, h⟩
     ·refine ff (b := (!a5)) (congrArg Bool.not (c10)) ?_
      refine awp_skip' <| awp_seq ?_
      rcases ite_some h with ⟨c11, h⟩ | ⟨c11, h⟩
      ·refine rg L 263 [(2, true)] [] [] (pl1 (decide_eq_true c11)) ?_
       refine awp_ret ?_
       cases h
       exact er0
      obtain ⟨g3, h⟩ := guard_some h
      obtain ⟨a6, h6, h⟩ := bind_some h
      rcases ite_some h with ⟨c12, h⟩ | ⟨c12, h⟩
      ·refine rg L 263 [(2, false), (9, true)] [(7, .B a6)] [] (plc (decide_eq_false c11) (plc (show (0 : Int) ≤ 2 from by decide) (plc g3 (plc (Ao.okR hR h6) (plc trivial (pl1 c12)))))) ?_
       refine awp_ret ?_
       cases h
       exact er0
      rcases ite_some h with ⟨c13, h⟩ | ⟨c13, h⟩
      ·obtain ⟨a7, h7, h⟩ := bind_some h
       refine rg L 263 [(2, false), (9, false), (16, true)] [(7, .B a6), (21, .B a7)] [] (plc (decide_eq_false c11) (plc (show (0 : Int) ≤ 2 from by decide) (plc g3 (plc (Ao.okR hR h6) (plc trivial (plc (eq_false_of_ne_true c12) (plc (show (0 : Int) ≤ 2 from by decide) (plc g3 (plc (decide_eq_true c13) (plc (show (0 : Int) ≤ 2 from by decide) (plc g3 (plc (Bq.okR hR h7) (pl1 trivial))))))))))))) ?_
       refine awp_ret ?_
       cases h
       exact er0
      refine rg L 263 [(2, false), (9, false), (16, false)] [(7, .B a6)] [] (plc (decide_eq_false c11) (plc (show (0 : Int) ≤ 2 from by decide) (plc g3 (plc (Ao.okR hR h6) (plc trivial (plc (eq_false_of_ne_true c12) (plc (show (0 : Int) ≤ 2 from by decide) (plc g3 (pl1 (decide_eq_false c13)))))))))) ?_
      refine awp_ret ?_
      cases h
      exact er0
     refine tt (b := (!a5)) (congrArg Bool.not (eq_false_of_ne_true c10)) ?_
     refine sg0 L 261 <| awp_ret ?_
     cases h
     exact er0
    refine rg L 233 [(3, false), (7, false), (11, false), (19, true)] [(1, .B a3), (16, .B a4)] [] (plc (Ah.ok h3) (plc trivial (plc (show (!a3) = false from congrArg Bool.not (c6)) (plc (decide_eq_false c7) (plc (decide_eq_false c8) (plc (show (0 : Int) ≤ 0 from by decide) (plc g1 (plc (Am.ok h4) (plc trivial (pl1 (show (!a4) = true from congrArg Bool.not (eq_false_of_ne_true c9)))))))))))) ?_
    refine tt (b := true) (rfl) ?_
    refine sg0 L 261 <| awp_ret ?_
    cases h
    exact er0
   refine rg L 233 [(3, true)] [(1, .B a3)] [] (plc (Ah.ok h3) (plc trivial (pl1 (show (!a3) = true from congrArg Bool.not (eq_false_of_ne_true c6))))) ?_
   refine tt (b := true) (rfl) ?_
   refine sg0 L 261 <| awp_ret ?_
   cases h
   exact er0
  refine fF c5 <| sg0 L 289 ?_
  rcases ite_some h with ⟨c14, h⟩ | ⟨c14, h⟩
  ·refine tT c14 <| awp_seq ?_
   obtain ⟨a8, h8, h⟩ := bind_some h
   rcases ite_some h with ⟨c15, h⟩ | ⟨c15, h⟩
   ·rcases ite_some h with ⟨c16, h⟩ | ⟨c16, h⟩
    ·obtain ⟨g4, h⟩ := guard_some h
     obtain ⟨a9, h9, h⟩ := bind_some h
     rcases ite_some h with ⟨c17, h⟩ | ⟨c17, h⟩
     ·obtain ⟨g5, h⟩ := guard_some h
      obtain ⟨a10, h10, h⟩ := bind_some h
      refine rg L 292 [(2, true), (6, true), (13, true)] [(1, .B a8), (11, .B a9), (18, .B a10)] [] (plc (Ah.ok h8) (plc trivial (plc c15 (plc (decide_eq_true c16) (plc (show (0 : Int) ≤ 0 from by decide) (plc g4 (plc (Am.ok h9) (plc trivial (plc c17 (plc (show (0 : Int) ≤ 1 from by decide) (plc g5 (plc (Ao.okR hR h10) (pl1 trivial))))))))))))) ?_
      refine awp_ret ?_
      cases h
      exact er0
     refine rg L 292 [(2, true), (6, true), (13, false)] [(1, .B a8), (11, .B a9)] [] (plc (Ah.ok h8) (plc trivial (plc c15 (plc (decide_eq_true c16) (plc (show (0 : Int) ≤ 0 from by decide) (plc g4 (plc (Am.ok h9) (plc trivial (pl1 (eq_false_of_ne_true c17)))))))))) ?_
     refine awp_ret ?_
     cases h
     exact er0
    refine rg L 292 [(2, true), (6, false)] [(1, .B a8)] [] (plc (Ah.ok h8) (plc trivial (plc c15 (pl1 (decide_eq_false c16))))) ?_
    refine awp_ret ?_
    cases h
    exact er0
   refine rg L 292 [(2, false)] [(1, .B a8)] [] (plc (Ah.ok h8) (plc trivial (pl1 (eq_false_of_ne_true c15)))) ?_
   refine awp_ret ?_
   cases h
   exact er0
  refine fF c14 <| sg0 L 314 ?_
  rcases ite_some h with ⟨c18, h⟩ | ⟨c18, h⟩
  ·refine tT c18 <| awp_seq ?_
   obtain ⟨a11, h11, h⟩ := bind_some h
   rcases ite_some h with ⟨c19, h⟩ | ⟨c19, h⟩
   ·rcases ite_some h with ⟨c20, h⟩ | ⟨c20, h⟩
    ·obtain ⟨a12, h12, h⟩ := bind_some h
     refine rg L 317 [(2, true), (6, true)] [(1, .B a11), (9, .B a12)] [] (plc (Ah.ok h11) (plc trivial (plc c19 (plc (decide_eq_true c20) (plc (Ay.ok h12) (pl1 trivial)))))) ?_
     refine awp_ret ?_
     cases h
     exact er0
    refine rg L 317 [(2, true), (6, false)] [(1, .B a11)] [] (plc (Ah.ok h11) (plc trivial (plc c19 (pl1 (decide_eq_false c20))))) ?_
    refine awp_ret ?_
    cases h
    exact er0
   refine rg L 317 [(2, false)] [(1, .B a11)] [] (plc (Ah.ok h11) (plc trivial (pl1 (eq_false_of_ne_true c19)))) ?_
   refine awp_ret ?_
   cases h
   exact er0
  refine fF c18 ?_
  obtain ⟨o2, hp2, h⟩ := bind_some h
  refine awp_seq (awp_mono (Q' := fun e S => (e = .normal ∧ ∃ xt111_45 : Bool, S = ⟨[(1, .P 29000), (3, .I (p0.Kids.length : Int)), (8, .I p0.Op), (111, .B xt111_45)], [(29000, .raw (Ae p0))]⟩ ∧ xt111_45 = o2)) ?_ ?_)
  ·clear h
   replace h := hp2
   refine sg0 L 330 ?_
   rcases ite_some h with ⟨c21, h⟩ | ⟨c21, h⟩
   ·refine tT c21 <| awp_turn (Turns.trans (Turns.kk [1, 3, 8, 111] [21800]) (Turns.rr [(21800, 29000)])) ?_
    refine sk (S' := ⟨[(1, .P 29000), (3, .I (p0.Kids.length : Int)), (8, .I p0.Op), (111, .B (decide (p0.Op = 45)))], [(29000, .raw (Ae p0))]⟩) ?_
    cases h
    exact ⟨rfl, _, rfl, rfl⟩
   refine fF c21 <| awp_post (rg0 L 333 ⟨rfl, rfl⟩) (Turns.trans (Turns.kk [1, 3, 8, 111] [21800]) (Turns.trans (Turns.rr [(21800, 29000)]) (Turns.kp (S' := ⟨[(1, .P 29000), (3, .I (p0.Kids.length : Int)), (8, .I p0.Op), (111, .B (decide (p0.Op = 52)))], [(29000, .raw (Ae p0))]⟩)))) ?_
   cases h
   exact ⟨rfl, _, rfl, rfl⟩
  ·rintro e S ⟨rfl, xt111_45, rfl, rfl⟩
   rcases ite_some h with ⟨c22, h⟩ | ⟨c22, h⟩
   ·refine tt c22 <| awp_seq ?_
    obtain ⟨a13, h13, h⟩ := bind_some h
    rcases ite_some h with ⟨c23, h⟩ | ⟨c23, h⟩
    ·rcases ite_some h with ⟨c24, h⟩ | ⟨c24, h⟩
     ·obtain ⟨a14, h14, h⟩ := bind_some h
      refine rg L 336 [(2, true), (6, true)] [(1, .B a13), (9, .B a14)] [] (plc (Ah.ok h13) (plc trivial (plc c23 (plc (decide_eq_true c24) (plc (Ay.ok h14) (pl1 trivial)))))) ?_
      refine awp_ret ?_
      cases h
      exact er0
     refine rg L 336 [(2, true), (6, false)] [(1, .B a13)] [] (plc (Ah.ok h13) (plc trivial (plc c23 (pl1 (decide_eq_false c24))))) ?_
     refine awp_ret ?_
     cases h
     exact er0
    refine rg L 336 [(2, false)] [(1, .B a13)] [] (plc (Ah.ok h13) (plc trivial (pl1 (eq_false_of_ne_true c23)))) ?_
    refine awp_ret ?_
    cases h
    exact er0
   refine fN c22 <| sg0 L 349 ?_
   rcases ite_some h with ⟨c25, h⟩ | ⟨c25, h⟩
   ·refine tT c25 <| awp_seq ?_
    obtain ⟨a15, h15, h⟩ := bind_some h
    rcases ite_some h with ⟨c26, h⟩ | ⟨c26, h⟩
    ·rcases ite_some h with ⟨c27, h⟩ | ⟨c27, h⟩
     ·obtain ⟨a16, h16, h⟩ := bind_some h
      refine rg L 352 [(2, true), (6, true)] [(1, .B a15), (9, .B a16)] [] (plc (Ah.ok h15) (plc trivial (plc c26 (plc (decide_eq_true c27) (plc (A7.okR hR h16) (pl1 trivial)))))) ?_
      refine awp_ret ?_
      cases h
      exact er0
     refine rg L 352 [(2, true), (6, false)] [(1, .B a15)] [] (plc (Ah.ok h15) (plc trivial (plc c26 (pl1 (decide_eq_false c27))))) ?_
     refine awp_ret ?_
     cases h
     exact er0
    refine rg L 352 [(2, false)] [(1, .B a15)] [] (plc (Ah.ok h15) (plc trivial (pl1 (eq_false_of_ne_true c26)))) ?_
    refine awp_ret ?_
    cases h
    exact er0
   refine fF c25 <| sg0 L 365 ?_
   rcases ite_some h with ⟨c28, h⟩ | ⟨c28, h⟩
   ·refine tT c28 <| awp_seq ?_
    obtain ⟨a17, h17, h⟩ := bind_some h
    rcases ite_some h with ⟨c29, h⟩ | ⟨c29, h⟩
    ·rcases ite_some h with ⟨c30, h⟩ | ⟨c30, h⟩
     ·obtain ⟨a18, h18, h⟩ := bind_some h
      refine rg L 368 [(2, true), (6, true)] [(1, .B a17), (9, .B a18)] [] (plc (Ah.ok h17) (plc trivial (plc c29 (plc (decide_eq_true c30) (plc (A7.okR hR h18) (pl1 trivial)))))) ?_
      refine awp_ret ?_
      cases h
      exact er0
     refine rg L 368 [(2, true), (6, false)] [(1, .B a17)] [] (plc (Ah.ok h17) (plc trivial (plc c29 (pl1 (decide_eq_false c30))))) ?_
     refine awp_ret ?_
     cases h
     exact er0
    refine rg L 368 [(2, false)] [(1, .B a17)] [] (plc (Ah.ok h17) (plc trivial (pl1 (eq_false_of_ne_true c29)))) ?_
    refine awp_ret ?_
    cases h
    exact er0
   refine fF c28 <| sg0 L 381 ?_
   rcases ite_some h with ⟨c31, h⟩ | ⟨c31, h⟩
   ·refine tT c31 <| awp_seq ?_
    obtain ⟨a19, h19, h⟩ := bind_some h
    rcases ite_some h with ⟨c32, h⟩ | ⟨c32, h⟩
    ·obtain ⟨a20, h20, h⟩ := bind_some h
     refine rg L 384 [(2, true)] [(1, .B a19), (5, .B a20)] [] (plc (Ah.ok h19) (plc trivial (plc c32 (plc (Ay.ok h20) (pl1 trivial))))) ?_
     refine awp_ret ?_
     cases h
     exact er0
    refine rg L 384 [(2, false)] [(1, .B a19)] [] (plc (Ah.ok h19) (plc trivial (pl1 (eq_false_of_ne_true c32)))) ?_
    refine awp_ret ?_
    cases h
    exact er0
   refine fF c31 <| sg0 L 393 ?_
   rcases ite_some h with ⟨c33, h⟩ | ⟨c33, h⟩
   ·refine tT c33 <| awp_seq ?_
    obtain ⟨a21, h21, h⟩ := bind_some h
    rcases ite_some h with ⟨c34, h⟩ | ⟨c34, h⟩
    ·rcases ite_some h with ⟨c35, h⟩ | ⟨c35, h⟩
     ·obtain ⟨a22, h22, h⟩ := bind_some h
      refine rg L 396 [(2, true), (6, true)] [(1, .B a21), (9, .B a22)] [] (plc (Ah.ok h21) (plc trivial (plc c34 (plc (decide_eq_true c35) (plc (Bd.okR hR h22) (pl1 trivial)))))) ?_
      refine awp_ret ?_
      cases h
      exact er0
     refine rg L 396 [(2, true), (6, false)] [(1, .B a21)] [] (plc (Ah.ok h21) (plc trivial (plc c34 (pl1 (decide_eq_false c35))))) ?_
     refine awp_ret ?_
     cases h
     exact er0
    refine rg L 396 [(2, false)] [(1, .B a21)] [] (plc (Ah.ok h21) (plc trivial (pl1 (eq_false_of_ne_true c34)))) ?_
    refine awp_ret ?_
    cases h
    exact er0
   refine fF c33 <| awp_skip' <| sg0 L 409 <| awp_ret ?_
   cases h
   exact er0
def Ao.l15 (K : Nat) (R : Ar) (p0 : Aa) : Nat → Int → Option (Out Bool Unit)
 | 0, _ => none
 | k + 1, xt3_15h => (if xt3_15h < (p0.Kids.length : Int) then (if (0 : Int) ≤ xt3_15h ∧ (xt3_15h : Int) < (p0.Kids.length : Int) then (Option.bind (R.Bq (p0.Kids.getD (Int.toNat xt3_15h) Ai)) (fun a2 => (if a2 = true then Ao.l15 K R p0 k (IntKind.i64.wrap (xt3_15h + 1)) else some (Out.done false)))) else none) else some (Out.go ()))
def Ao.F (K : Nat) (R : Ar) (p0 : Aa) : Option Bool := (if p0.Op ≠ 53 then some false else (Option.bind (Ah K p0 false false) (fun a1 => (if a1 = true then (obind (Ao.l15 K R p0 K 0 : Option (Out Bool Unit)) (fun r => r) (fun _ => some true)) else some false))))
theorem Ao.body {Γ : Ent} {K : Nat} {R : Ar} (hR : R.Ok) {p0 : Aa} {r : Bool} (h : Ao.F K R p0 = some r) : AWp V P 26 100 Γ (Tryz.f67.body.getD .skip) (EndsE P V Tryz.f67 (.B r) []) ⟨args0 0 [.agg (Ae p0)], []⟩ := by
 unfold Ao.F at h
 refine sg0 L 200 <| awp_seq <| awp_seq ?_
 rcases ite_some h with ⟨c1, h⟩ | ⟨c1, h⟩
 ·refine rg L 203 [(3, true)] [] [] (pl1 (decide_eq_true c1)) ?_
  refine tt (b := true) (rfl) ?_
  refine sg0 L 212 <| awp_ret ?_
  cases h
  exact er0
 obtain ⟨a1, h1, h⟩ := bind_some h
 refine rg L 203 [(3, false)] [(5, .B a1)] [] (plc (decide_eq_false c1) (plc (Ah.ok h1) (pl1 trivial))) ?_
 rcases ite_some h with ⟨c2, h⟩ | ⟨c2, h⟩
 ·refine ff (b := (!a1)) (congrArg Bool.not (c2)) ?_
  refine awp_skip' <| awp_seq <| sg0 L 214 <| awp_block <| awp_turn (Turns.trans (Turns.kk [1, 3] [200]) (Turns.rr [(200, 23100)])) ?_
  refine kp (S' := ⟨[(1, .P 23100), (3, .I 0)], [(23100, .raw (Ae p0))]⟩) ?_
  obtain ⟨o1, hp1, h⟩ := obind_some h
  refine awp_conseq (Q' := fun e S => (e = .exit 0 ∧ S = ⟨[], []⟩ ∧ Out.go () = o1) ∨ (e = .ret ∧ ∃ a, Out.done a = o1 ∧ EndsE P V Tryz.f67 (.B a) [] .ret S)) (awp_loop (fun k S => ∃ xt3_15h : Int, S = ⟨[(1, .P 23100), (3, .I xt3_15h)], [(23100, .raw (Ae p0))]⟩ ∧ Ao.l15 K R p0 k xt3_15h = some o1) ?_ ⟨_, rfl, hp1⟩) ?_
  ·clear h hp1
   intro k S hS
   obtain ⟨xt3_15h, rfl, h⟩ := hS
   cases k with
   | zero => cases h
   | succ k =>
   unfold Ao.l15 at h
   refine awp_seq <| sg0 L 216 ?_
   rcases ite_some h with ⟨c3, h⟩ | ⟨c3, h⟩
   ·refine tT c3 <| awp_skip' <| awp_seq <| awp_block <| awp_seq ?_
    obtain ⟨g1, h⟩ := guard_some h
    obtain ⟨a2, h2, h⟩ := bind_some h
    refine rg L 222 [] [(5, .B a2)] [] (plc g1.1 (plc g1.2 (plc (Bq.okR hR h2) (pl1 trivial)))) ?_
    rcases ite_some h with ⟨c4, h⟩ | ⟨c4, h⟩
    ·refine ff (b := (!a2)) (congrArg Bool.not (c4)) ?_
     refine awp_skip' <| ar0 L 232 [] [] [] (S' := ⟨[(1, .P 23100), (3, .I (IntKind.i64.wrap (xt3_15h + 1)))], [(23100, .raw (Ae p0))]⟩) ?_
     exact ⟨k, Nat.lt_succ_self k, _, rfl, h⟩
    refine tt (b := (!a2)) (congrArg Bool.not (eq_false_of_ne_true c4)) ?_
    refine sg0 L 230 <| awp_ret ?_
    cases h
    exact .inr ⟨rfl, _, rfl, er0⟩
   refine fF c3 <| ex (S' := ⟨[], []⟩) ?_
   cases h
   exact .inl ⟨rfl, rfl, rfl⟩
  ·rintro e S (⟨rfl, rfl, rfl⟩ | ⟨rfl, a, rfl, hr⟩)
   ·rcases h with ⟨_, e1, h⟩ | ⟨_, e1, h⟩
    ·cases e1
    ·have e2 := Out.go.inj e1
     subst e2
     refine ⟨_, Turns.refl, ?_⟩
     refine sg0 L 236 <| awp_ret ?_
     cases h
     exact er0
   ·rcases h with ⟨_, e1, h⟩ | ⟨_, e1, h⟩
    ·have e2 := Out.done.inj e1
     subst e2
     subst h
     exact ⟨_, Turns.refl, hr⟩
    ·cases e1
 refine tt (b := (!a1)) (congrArg Bool.not (eq_false_of_ne_true c2)) ?_
 refine sg0 L 212 <| awp_ret ?_
 cases h
 exact er0
def Ar.upto (K : Nat) : Nat → Ar
 | 0 => ⟨fun _ => none, fun _ => none, fun _ => none, fun _ => none⟩
 | k + 1 => ⟨A7.F K (Ar.upto K k), Bd.F K (Ar.upto K k), Bq.F K (Ar.upto K k), Ao.F K (Ar.upto K k)⟩
theorem Ar.upto_ok (K : Nat) : ∀ k, (Ar.upto K k).Ok
 | 0 => ⟨fun h => (by cases h), fun h => (by cases h), fun h => (by cases h), fun h => (by cases h)⟩
 | k + 1 => ⟨fun {p0 r} h => eo (fn := Tryz.f68) (n := 16) (m := 100) fun Γ => A7.body (K := K) (Ar.upto_ok K k) h, fun {p0 r} h => eo (fn := Tryz.f124) (n := 79) (m := 100) fun Γ => Bd.body (K := K) (Ar.upto_ok K k) h, fun {p0 r} h => eo (fn := Tryz.f96) (n := 173) (m := 100) fun Γ => Bq.body (K := K) (Ar.upto_ok K k) h, fun {p0 r} h => eo (fn := Tryz.f67) (n := 26) (m := 100) fun Γ => Ao.body (K := K) (Ar.upto_ok K k) h⟩
def A7 (K : Nat) (p0 : List Aa) : Option Bool := (Ar.upto K K).A7 p0
theorem A7.okE {K : Nat} {p0 : List Aa} {r : Bool} (h : A7 K p0 = some r) : ECall V P 68 [.cv (.ro .Ad p0)] [] [] (.B r) [] := (Ar.upto_ok K K).A7 h
theorem A7.ok {K : Nat} {p0 : List Aa} {r : Bool} (h : A7 K p0 = some r) : PCall V P 68 [.cv (.ro .Ad p0)] (.B r) := (A7.okE h).pcall (by kernel_rfl)
def Bd (K : Nat) (p0 : List Aa) : Option Bool := (Ar.upto K K).Bd p0
theorem Bd.okE {K : Nat} {p0 : List Aa} {r : Bool} (h : Bd K p0 = some r) : ECall V P 124 [.cv (.ro .Ad p0)] [] [] (.B r) [] := (Ar.upto_ok K K).Bd h
theorem Bd.ok {K : Nat} {p0 : List Aa} {r : Bool} (h : Bd K p0 = some r) : PCall V P 124 [.cv (.ro .Ad p0)] (.B r) := (Bd.okE h).pcall (by kernel_rfl)
def Bq (K : Nat) (p0 : Aa) : Option Bool := (Ar.upto K K).Bq p0
theorem Bq.okE {K : Nat} {p0 : Aa} {r : Bool} (h : Bq K p0 = some r) : ECall V P 96 [.agg (Ae p0)] [] [] (.B r) [] := (Ar.upto_ok K K).Bq h
theorem Bq.ok {K : Nat} {p0 : Aa} {r : Bool} (h : Bq K p0 = some r) : PCall V P 96 [.agg (Ae p0)] (.B r) := (Bq.okE h).pcall (by kernel_rfl)
def Ao (K : Nat) (p0 : Aa) : Option Bool := (Ar.upto K K).Ao p0
theorem Ao.okE {K : Nat} {p0 : Aa} {r : Bool} (h : Ao K p0 = some r) : ECall V P 67 [.agg (Ae p0)] [] [] (.B r) [] := (Ar.upto_ok K K).Ao h
theorem Ao.ok {K : Nat} {p0 : Aa} {r : Bool} (h : Ao K p0 = some r) : PCall V P 67 [.agg (Ae p0)] (.B r) := (Ao.okE h).pcall (by kernel_rfl)
def Cr.l22 (K : Nat) (p0 : Aa) : Nat → Int → Option (Out Bool Unit)
 | 0, _ => none
 | k + 1, xt4_22h => (if xt4_22h < (IntKind.i64.wrap ((p0.Kids.length : Int) - 1)) then (if (0 : Int) ≤ xt4_22h ∧ (xt4_22h : Int) < (p0.Kids.length : Int) then (if (p0.Kids.getD (Int.toNat xt4_22h) Ai).Op ≠ 6 then some (Out.done false) else (Option.bind (Am K (p0.Kids.getD (Int.toNat xt4_22h) Ai)) (fun a3 => (if a3 = true then Cr.l22 K p0 k (IntKind.i64.wrap (xt4_22h + 1)) else some (Out.done false))))) else none) else some (Out.go ()))
def Cr (K : Nat) (p0 : Aa) : Option Bool := (if p0.Op = 61 then (Option.bind (Ah K p0 true false) (fun a1 => (if a1 = true then (if (p0.Kids.length : Int) = 1 then (if (0 : Int) < (p0.Kids.length : Int) then (Option.bind (Dm K (p0.Kids.getD (Int.toNat 0) Ai)) (fun a2 => some a2)) else none) else some false) else some false))) else (if p0.Op = 62 then (obind (Cr.l22 K p0 K 0 : Option (Out Bool Unit)) (fun r => r) (fun _ => (Option.bind (Ah K p0 true false) (fun a4 => (if a4 = true then (if (p0.Kids.length : Int) > 0 then (if (0 : Int) ≤ (IntKind.i64.wrap ((p0.Kids.length : Int) - 1)) ∧ ((IntKind.i64.wrap ((p0.Kids.length : Int) - 1)) : Int) < (p0.Kids.length : Int) then (Option.bind (Ao K (p0.Kids.getD (Int.toNat (IntKind.i64.wrap ((p0.Kids.length : Int) - 1))) Ai)) (fun a5 => some a5)) else none) else some false) else some false))))) else (Option.bind ((if p0.Op = 63 then some (decide (p0.Op = 63)) else some (decide (p0.Op = 64))) : Option Bool) (fun xt64_42 => (if xt64_42 = true then (Option.bind (Ah K p0 true true) (fun a6 => (if a6 = true then (Option.bind (Bm K p0.Text) (fun a7 => (if a7 = true then (if (p0.Kids.length : Int) = 1 then (Option.bind (A7 K p0.Kids) (fun a8 => some a8)) else some false) else some false))) else some false))) else (if p0.Op = 65 then (Option.bind (Ah K p0 true true) (fun a9 => (if a9 = true then (Option.bind (Bm K p0.Text) (fun a10 => (if a10 = true then (if (p0.Kids.length : Int) ≥ 1 then (if (p0.Kids.length : Int) ≤ 2 then (Option.bind (A7 K p0.Kids) (fun a11 => some a11)) else some false) else some false) else some false))) else some false))) else some false))))))
theorem Cr.body {Γ : Ent} {K : Nat} {p0 : Aa} {r : Bool} (h : Cr K p0 = some r) : AWp V P 105 100 Γ (Tryz.f37.body.getD .skip) (EndsE P V Tryz.f37 (.B r) []) ⟨args0 0 [.agg (Ae p0)], []⟩ := by
 unfold Cr at h
 refine sg0 L 200 <| sg0 L 203 <| awp_seq <| sg0 L 208 <| awp_block <| sg0 L 211 ?_
 rcases ite_some h with ⟨c1, h⟩ | ⟨c1, h⟩
 ·refine tT c1 <| awp_seq ?_
  obtain ⟨a1, h1, h⟩ := bind_some h
  rcases ite_some h with ⟨c2, h⟩ | ⟨c2, h⟩
  ·rcases ite_some h with ⟨c3, h⟩ | ⟨c3, h⟩
   ·obtain ⟨g1, h⟩ := guard_some h
    obtain ⟨a2, h2, h⟩ := bind_some h
    refine rg L 214 [(2, true), (6, true)] [(1, .B a1), (11, .B a2)] [] (plc (Ah.ok h1) (plc trivial (plc c2 (plc (decide_eq_true c3) (plc (show (0 : Int) ≤ 0 from by decide) (plc g1 (plc (Dm.ok h2) (pl1 trivial)))))))) ?_
    refine awp_ret ?_
    cases h
    exact er0
   refine rg L 214 [(2, true), (6, false)] [(1, .B a1)] [] (plc (Ah.ok h1) (plc trivial (plc c2 (pl1 (decide_eq_false c3))))) ?_
   refine awp_ret ?_
   cases h
   exact er0
  refine rg L 214 [(2, false)] [(1, .B a1)] [] (plc (Ah.ok h1) (plc trivial (pl1 (eq_false_of_ne_true c2)))) ?_
  refine awp_ret ?_
  cases h
  exact er0
 refine fF c1 <| sg0 L 229 ?_
 rcases ite_some h with ⟨c4, h⟩ | ⟨c4, h⟩
 ·refine tT c4 <| awp_seq <| sg0 L 232 <| awp_block <| awp_turn (Turns.trans (Turns.kk [1, 3, 4] [200]) (Turns.rr [(200, 24500)])) ?_
  refine kp (S' := ⟨[(1, .P 24500), (3, .I (p0.Kids.length : Int)), (4, .I 0)], [(24500, .raw (Ae p0))]⟩) ?_
  obtain ⟨o1, hp1, h⟩ := obind_some h
  refine awp_conseq (Q' := fun e S => (e = .exit 1 ∧ S = ⟨[(1, .P 24400), (3, .I (p0.Kids.length : Int))], [(24400, .raw (Ae p0))]⟩ ∧ Out.go () = o1) ∨ (e = .ret ∧ ∃ a, Out.done a = o1 ∧ EndsE P V Tryz.f37 (.B a) [] .ret S)) (awp_loop (fun k S => ∃ xt4_22h : Int, S = ⟨[(1, .P 24500), (3, .I (p0.Kids.length : Int)), (4, .I xt4_22h)], [(24500, .raw (Ae p0))]⟩ ∧ Cr.l22 K p0 k xt4_22h = some o1) ?_ ⟨_, rfl, hp1⟩) ?_
  ·clear h hp1
   intro k S hS
   obtain ⟨xt4_22h, rfl, h⟩ := hS
   cases k with
   | zero => cases h
   | succ k =>
   unfold Cr.l22 at h
   refine awp_seq <| sg0 L 234 ?_
   rcases ite_some h with ⟨c5, h⟩ | ⟨c5, h⟩
   ·refine tT c5 <| awp_skip' <| awp_seq <| awp_block <| awp_seq ?_
    obtain ⟨g2, h⟩ := guard_some h
    rcases ite_some h with ⟨c6, h⟩ | ⟨c6, h⟩
    ·refine rg L 239 [(7, true)] [] [] (plc g2.1 (plc g2.2 (pl1 (decide_eq_true c6)))) ?_
     refine tt (b := true) (rfl) ?_
     refine sg0 L 256 <| awp_ret ?_
     cases h
     exact .inr ⟨rfl, _, rfl, er0⟩
    obtain ⟨a3, h3, h⟩ := bind_some h
    refine rg L 239 [(7, false)] [(13, .B a3)] [] (plc g2.1 (plc g2.2 (plc (decide_eq_false c6) (plc g2.1 (plc g2.2 (plc (Am.ok h3) (pl1 trivial))))))) ?_
    rcases ite_some h with ⟨c7, h⟩ | ⟨c7, h⟩
    ·refine ff (b := (!a3)) (congrArg Bool.not (c7)) ?_
     refine awp_skip' <| ar0 L 258 [] [] [] (S' := ⟨[(1, .P 24500), (3, .I (p0.Kids.length : Int)), (4, .I (IntKind.i64.wrap (xt4_22h + 1)))], [(24500, .raw (Ae p0))]⟩) ?_
     exact ⟨k, Nat.lt_succ_self k, _, rfl, h⟩
    refine tt (b := (!a3)) (congrArg Bool.not (eq_false_of_ne_true c7)) ?_
    refine sg0 L 256 <| awp_ret ?_
    cases h
    exact .inr ⟨rfl, _, rfl, er0⟩
   refine fF c5 <| awp_turn (Turns.trans (Turns.kk [1, 3] [24500]) (Turns.rr [(24500, 24400)])) ?_
   refine ex (S' := ⟨[(1, .P 24400), (3, .I (p0.Kids.length : Int))], [(24400, .raw (Ae p0))]⟩) ?_
   cases h
   exact .inl ⟨rfl, rfl, rfl⟩
  ·rintro e S (⟨rfl, rfl, rfl⟩ | ⟨rfl, a, rfl, hr⟩)
   ·rcases h with ⟨_, e1, h⟩ | ⟨_, e1, h⟩
    ·cases e1
    ·have e2 := Out.go.inj e1
     subst e2
     refine ⟨_, Turns.refl, ?_⟩
     refine awp_seq ?_
     obtain ⟨a4, h4, h⟩ := bind_some h
     rcases ite_some h with ⟨c8, h⟩ | ⟨c8, h⟩
     ·rcases ite_some h with ⟨c9, h⟩ | ⟨c9, h⟩
      ·obtain ⟨g3, h⟩ := guard_some h
       obtain ⟨a5, h5, h⟩ := bind_some h
       refine rg L 262 [(2, true), (6, true)] [(1, .B a4), (13, .B a5)] [] (plc (Ah.ok h4) (plc trivial (plc c8 (plc (decide_eq_true c9) (plc g3.1 (plc g3.2 (plc (Ao.ok h5) (pl1 trivial)))))))) ?_
       refine awp_ret ?_
       cases h
       exact er0
      refine rg L 262 [(2, true), (6, false)] [(1, .B a4)] [] (plc (Ah.ok h4) (plc trivial (plc c8 (pl1 (decide_eq_false c9))))) ?_
      refine awp_ret ?_
      cases h
      exact er0
     refine rg L 262 [(2, false)] [(1, .B a4)] [] (plc (Ah.ok h4) (plc trivial (pl1 (eq_false_of_ne_true c8)))) ?_
     refine awp_ret ?_
     cases h
     exact er0
   ·rcases h with ⟨_, e1, h⟩ | ⟨_, e1, h⟩
    ·have e2 := Out.done.inj e1
     subst e2
     subst h
     exact ⟨_, Turns.refl, hr⟩
    ·cases e1
 refine fF c4 ?_
 obtain ⟨o2, hp2, h⟩ := bind_some h
 refine awp_seq (awp_mono (Q' := fun e S => (e = .normal ∧ ∃ xt64_42 : Bool, S = ⟨[(1, .P 28400), (3, .I (p0.Kids.length : Int)), (9, .I p0.Op), (64, .B xt64_42)], [(28400, .raw (Ae p0))]⟩ ∧ xt64_42 = o2)) ?_ ?_)
 ·clear h
  replace h := hp2
  refine sg0 L 279 ?_
  rcases ite_some h with ⟨c10, h⟩ | ⟨c10, h⟩
  ·refine tT c10 <| awp_turn (Turns.trans (Turns.kk [1, 3, 9, 64] [200]) (Turns.rr [(200, 28400)])) ?_
   refine sk (S' := ⟨[(1, .P 28400), (3, .I (p0.Kids.length : Int)), (9, .I p0.Op), (64, .B (decide (p0.Op = 63)))], [(28400, .raw (Ae p0))]⟩) ?_
   cases h
   exact ⟨rfl, _, rfl, rfl⟩
  refine fF c10 <| awp_post (rg0 L 282 ⟨rfl, rfl⟩) (Turns.trans (Turns.kk [1, 3, 9, 64] [200]) (Turns.trans (Turns.rr [(200, 28400)]) (Turns.kp (S' := ⟨[(1, .P 28400), (3, .I (p0.Kids.length : Int)), (9, .I p0.Op), (64, .B (decide (p0.Op = 64)))], [(28400, .raw (Ae p0))]⟩)))) ?_
  cases h
  exact ⟨rfl, _, rfl, rfl⟩
 ·rintro e S ⟨rfl, xt64_42, rfl, rfl⟩
  rcases ite_some h with ⟨c11, h⟩ | ⟨c11, h⟩
  ·refine tt c11 <| awp_seq ?_
   obtain ⟨a6, h6, h⟩ := bind_some h
   rcases ite_some h with ⟨c12, h⟩ | ⟨c12, h⟩
   ·obtain ⟨a7, h7, h⟩ := bind_some h
    rcases ite_some h with ⟨c13, h⟩ | ⟨c13, h⟩
    ·rcases ite_some h with ⟨c14, h⟩ | ⟨c14, h⟩
     ·obtain ⟨a8, h8, h⟩ := bind_some h
      refine rg L 285 [(2, true), (7, true), (11, true)] [(1, .B a6), (5, .B a7), (14, .B a8)] [] (plc (Ah.ok h6) (plc trivial (plc c12 (plc (Bm.ok h7) (plc trivial (plc c13 (plc (decide_eq_true c14) (plc (A7.ok h8) (pl1 trivial))))))))) ?_
      refine awp_ret ?_
      cases h
      exact er0
     refine rg L 285 [(2, true), (7, true), (11, false)] [(1, .B a6), (5, .B a7)] [] (plc (Ah.ok h6) (plc trivial (plc c12 (plc (Bm.ok h7) (plc trivial (plc c13 (pl1 (decide_eq_false c14)))))))) ?_
     refine awp_ret ?_
     cases h
     exact er0
    refine rg L 285 [(2, true), (7, false)] [(1, .B a6), (5, .B a7)] [] (plc (Ah.ok h6) (plc trivial (plc c12 (plc (Bm.ok h7) (plc trivial (pl1 (eq_false_of_ne_true c13))))))) ?_
    refine awp_ret ?_
    cases h
    exact er0
   refine rg L 285 [(2, false)] [(1, .B a6)] [] (plc (Ah.ok h6) (plc trivial (pl1 (eq_false_of_ne_true c12)))) ?_
   refine awp_ret ?_
   cases h
   exact er0
  refine fN c11 <| sg0 L 303 ?_
  rcases ite_some h with ⟨c15, h⟩ | ⟨c15, h⟩
  ·refine tT c15 <| awp_seq ?_
   obtain ⟨a9, h9, h⟩ := bind_some h
   rcases ite_some h with ⟨c16, h⟩ | ⟨c16, h⟩
   ·obtain ⟨a10, h10, h⟩ := bind_some h
    rcases ite_some h with ⟨c17, h⟩ | ⟨c17, h⟩
    ·rcases ite_some h with ⟨c18, h⟩ | ⟨c18, h⟩
     ·rcases ite_some h with ⟨c19, h⟩ | ⟨c19, h⟩
      ·obtain ⟨a11, h11, h⟩ := bind_some h
       refine rg L 306 [(2, true), (7, true), (11, true), (15, true)] [(1, .B a9), (5, .B a10), (18, .B a11)] [] (plc (Ah.ok h9) (plc trivial (plc c16 (plc (Bm.ok h10) (plc trivial (plc c17 (plc (decide_eq_true c18) (plc (decide_eq_true c19) (plc (A7.ok h11) (pl1 trivial)))))))))) ?_
       refine awp_ret ?_
       cases h
       exact er0
      refine rg L 306 [(2, true), (7, true), (11, true), (15, false)] [(1, .B a9), (5, .B a10)] [] (plc (Ah.ok h9) (plc trivial (plc c16 (plc (Bm.ok h10) (plc trivial (plc c17 (plc (decide_eq_true c18) (pl1 (decide_eq_false c19))))))))) ?_
      refine awp_ret ?_
      cases h
      exact er0
     refine rg L 306 [(2, true), (7, true), (11, false)] [(1, .B a9), (5, .B a10)] [] (plc (Ah.ok h9) (plc trivial (plc c16 (plc (Bm.ok h10) (plc trivial (plc c17 (pl1 (decide_eq_false c18)))))))) ?_
     refine awp_ret ?_
     cases h
     exact er0
    refine rg L 306 [(2, true), (7, false)] [(1, .B a9), (5, .B a10)] [] (plc (Ah.ok h9) (plc trivial (plc c16 (plc (Bm.ok h10) (plc trivial (pl1 (eq_false_of_ne_true c17))))))) ?_
    refine awp_ret ?_
    cases h
    exact er0
   refine rg L 306 [(2, false)] [(1, .B a9)] [] (plc (Ah.ok h9) (plc trivial (pl1 (eq_false_of_ne_true c16)))) ?_
   refine awp_ret ?_
   cases h
   exact er0
  refine fF c15 <| awp_skip' <| sg0 L 328 <| awp_ret ?_
  cases h
  exact er0
theorem Cr.ok {K : Nat} {p0 : Aa} {r : Bool} (h : Cr K p0 = some r) : PCall V P 37 [.agg (Ae p0)] (.B r) := ECall.pcall (eo (fn := Tryz.f37) (n := 105) (m := 100) fun Γ => Cr.body h) (by kernel_rfl)
def Cz.l15 (K : Nat) (p0 : Aa) : Nat → Int → Option (Out Bool Unit)
 | 0, _ => none
 | k + 1, xt3_15h => (if xt3_15h < (p0.Kids.length : Int) then (if (0 : Int) ≤ xt3_15h ∧ (xt3_15h : Int) < (p0.Kids.length : Int) then (Option.bind (Cr K (p0.Kids.getD (Int.toNat xt3_15h) Ai)) (fun a3 => (if a3 = true then Cz.l15 K p0 k (IntKind.i64.wrap (xt3_15h + 1)) else some (Out.done false)))) else none) else some (Out.go ()))
def Cz (K : Nat) (p0 : Aa) : Option Bool := (if p0.Op ≠ 60 then some false else (Option.bind (Ah K p0 false false) (fun a1 => (if a1 = true then (Option.bind (Do K p0) (fun a2 => (if a2 = true then (obind (Cz.l15 K p0 K 0 : Option (Out Bool Unit)) (fun r => r) (fun _ => some true)) else some false))) else some false))))
theorem Cz.body {Γ : Ent} {K : Nat} {p0 : Aa} {r : Bool} (h : Cz K p0 = some r) : AWp V P 31 100 Γ (Tryz.f19.body.getD .skip) (EndsE P V Tryz.f19 (.B r) []) ⟨args0 0 [.agg (Ae p0)], []⟩ := by
 unfold Cz at h
 refine sg0 L 200 <| awp_seq <| awp_seq ?_
 rcases ite_some h with ⟨c1, h⟩ | ⟨c1, h⟩
 ·refine rg L 203 [(3, true)] [] [] (pl1 (decide_eq_true c1)) ?_
  refine tt (b := true) (rfl) ?_
  refine sg0 L 217 <| awp_ret ?_
  cases h
  exact er0
 obtain ⟨a1, h1, h⟩ := bind_some h
 rcases ite_some h with ⟨c2, h⟩ | ⟨c2, h⟩
 ·obtain ⟨a2, h2, h⟩ := bind_some h
  refine rg L 203 [(3, false), (8, false)] [(5, .B a1), (10, .B a2)] [] (plc (decide_eq_false c1) (plc (Ah.ok h1) (plc trivial (plc (show (!a1) = false from congrArg Bool.not (c2)) (plc (Do.ok h2) (pl1 trivial)))))) ?_
  rcases ite_some h with ⟨c3, h⟩ | ⟨c3, h⟩
  ·refine ff (b := (!a2)) (congrArg Bool.not (c3)) ?_
   refine awp_skip' <| awp_seq <| sg0 L 219 <| awp_block <| awp_turn (Turns.trans (Turns.kk [1, 3] [200]) (Turns.rr [(200, 23100)])) ?_
   refine kp (S' := ⟨[(1, .P 23100), (3, .I 0)], [(23100, .raw (Ae p0))]⟩) ?_
   obtain ⟨o1, hp1, h⟩ := obind_some h
   refine awp_conseq (Q' := fun e S => (e = .exit 0 ∧ S = ⟨[], []⟩ ∧ Out.go () = o1) ∨ (e = .ret ∧ ∃ a, Out.done a = o1 ∧ EndsE P V Tryz.f19 (.B a) [] .ret S)) (awp_loop (fun k S => ∃ xt3_15h : Int, S = ⟨[(1, .P 23100), (3, .I xt3_15h)], [(23100, .raw (Ae p0))]⟩ ∧ Cz.l15 K p0 k xt3_15h = some o1) ?_ ⟨_, rfl, hp1⟩) ?_
   ·clear h hp1
    intro k S hS
    obtain ⟨xt3_15h, rfl, h⟩ := hS
    cases k with
    | zero => cases h
    | succ k =>
    unfold Cz.l15 at h
    refine awp_seq <| sg0 L 221 ?_
    rcases ite_some h with ⟨c4, h⟩ | ⟨c4, h⟩
    ·refine tT c4 <| awp_skip' <| awp_seq <| awp_block <| awp_seq ?_
     obtain ⟨g1, h⟩ := guard_some h
     obtain ⟨a3, h3, h⟩ := bind_some h
     refine rg L 227 [] [(5, .B a3)] [] (plc g1.1 (plc g1.2 (plc (Cr.ok h3) (pl1 trivial)))) ?_
     rcases ite_some h with ⟨c5, h⟩ | ⟨c5, h⟩
     ·refine ff (b := (!a3)) (congrArg Bool.not (c5)) ?_
      refine awp_skip' <| ar0 L 237 [] [] [] (S' := ⟨[(1, .P 23100), (3, .I (IntKind.i64.wrap (xt3_15h + 1)))], [(23100, .raw (Ae p0))]⟩) ?_
      exact ⟨k, Nat.lt_succ_self k, _, rfl, h⟩
     refine tt (b := (!a3)) (congrArg Bool.not (eq_false_of_ne_true c5)) ?_
     refine sg0 L 235 <| awp_ret ?_
     cases h
     exact .inr ⟨rfl, _, rfl, er0⟩
    refine fF c4 <| ex (S' := ⟨[], []⟩) ?_
    cases h
    exact .inl ⟨rfl, rfl, rfl⟩
   ·rintro e S (⟨rfl, rfl, rfl⟩ | ⟨rfl, a, rfl, hr⟩)
    ·rcases h with ⟨_, e1, h⟩ | ⟨_, e1, h⟩
     ·cases e1
     ·have e2 := Out.go.inj e1
      subst e2
      refine ⟨_, Turns.refl, ?_⟩
      refine sg0 L 241 <| awp_ret ?_
      cases h
      exact er0
    ·rcases h with ⟨_, e1, h⟩ | ⟨_, e1, h⟩
     ·have e2 := Out.done.inj e1
      subst e2
      subst h
      exact ⟨_, Turns.refl, hr⟩
     ·cases e1
  refine tt (b := (!a2)) (congrArg Bool.not (eq_false_of_ne_true c3)) ?_
  refine sg0 L 217 <| awp_ret ?_
  cases h
  exact er0
 refine rg L 203 [(3, false), (8, true)] [(5, .B a1)] [] (plc (decide_eq_false c1) (plc (Ah.ok h1) (plc trivial (pl1 (show (!a1) = true from congrArg Bool.not (eq_false_of_ne_true c2)))))) ?_
 refine tt (b := true) (rfl) ?_
 refine sg0 L 217 <| awp_ret ?_
 cases h
 exact er0
theorem Cz.ok {K : Nat} {p0 : Aa} {r : Bool} (h : Cz K p0 = some r) : PCall V P 19 [.agg (Ae p0)] (.B r) := ECall.pcall (eo (fn := Tryz.f19) (n := 31) (m := 100) fun Γ => Cz.body h) (by kernel_rfl)
def Da (K : Nat) (p0 : Aa) : Option Bool := (Option.bind (Do K p0) (fun a1 => (if a1 = true then (Option.bind (Am K p0) (fun a2 => some a2)) else some false)))
theorem Da.body {Γ : Ent} {K : Nat} {p0 : Aa} {r : Bool} (h : Da K p0 = some r) : AWp V P 9 100 Γ (Tryz.f20.body.getD .skip) (EndsE P V Tryz.f20 (.B r) []) ⟨args0 0 [.agg (Ae p0)], []⟩ := by
 unfold Da at h
 refine sg0 L 200 <| awp_seq ?_
 obtain ⟨a1, h1, h⟩ := bind_some h
 rcases ite_some h with ⟨c1, h⟩ | ⟨c1, h⟩
 ·obtain ⟨a2, h2, h⟩ := bind_some h
  refine rg L 203 [(2, true)] [(1, .B a1), (4, .B a2)] [] (plc (Do.ok h1) (plc trivial (plc c1 (plc (Am.ok h2) (pl1 trivial))))) ?_
  refine awp_ret ?_
  cases h
  exact er0
 refine rg L 203 [(2, false)] [(1, .B a1)] [] (plc (Do.ok h1) (plc trivial (pl1 (eq_false_of_ne_true c1)))) ?_
 refine awp_ret ?_
 cases h
 exact er0
theorem Da.ok {K : Nat} {p0 : Aa} {r : Bool} (h : Da K p0 = some r) : PCall V P 20 [.agg (Ae p0)] (.B r) := ECall.pcall (eo (fn := Tryz.f20) (n := 9) (m := 100) fun Γ => Da.body h) (by kernel_rfl)
def Di (K : Nat) (p0 : Aa) : Option Bool := (Option.bind (Ef K p0 5000) (fun a1 => (if a1 = true then (Option.bind (D9 K p0) (fun a2 => (Option.bind (Cz K p0) (fun a3 => (if (a2 == a3) = true then (Option.bind (D2 K p0) (fun a4 => (Option.bind (Da K p0) (fun a5 => (if (a4 == a5) = true then (Option.bind (Co K p0) (fun a6 => (Option.bind (Bh K p0) (fun a7 => (if a6 = a7 then (Option.bind (Cm K p0) (fun a8 => (Option.bind (Ba K p0) (fun a9 => (if a8 = a9 then (Option.bind (Dt K) (fun a10 => some a10)) else some false))))) else some false))))) else some false))))) else some false))))) else (Option.bind (Dt K) (fun a11 => some a11)))))
theorem Di.body {Γ : Ent} {K : Nat} {p0 : Aa} {r : Bool} (h : Di K p0 = some r) : AWp V P 36 100 Γ (Tryz.f7.body.getD .skip) (EndsE P V Tryz.f7 (.B r) []) ⟨args0 0 [.agg (Ae p0)], []⟩ := by
 unfold Di at h
 refine sg0 L 200 <| awp_seq <| awp_seq ?_
 obtain ⟨a1, h1, h⟩ := bind_some h
 refine rg L 203 [] [(1, .B a1)] [] (plt (Ef.ok h1)) ?_
 rcases ite_some h with ⟨c1, h⟩ | ⟨c1, h⟩
 ·refine ff (b := (!a1)) (congrArg Bool.not (c1)) ?_
  refine awp_skip' <| awp_seq ?_
  obtain ⟨a2, h2, h⟩ := bind_some h
  obtain ⟨a3, h3, h⟩ := bind_some h
  rcases ite_some h with ⟨c2, h⟩ | ⟨c2, h⟩
  ·obtain ⟨a4, h4, h⟩ := bind_some h
   obtain ⟨a5, h5, h⟩ := bind_some h
   rcases ite_some h with ⟨c3, h⟩ | ⟨c3, h⟩
   ·obtain ⟨a6, h6, h⟩ := bind_some h
    obtain ⟨a7, h7, h⟩ := bind_some h
    rcases ite_some h with ⟨c4, h⟩ | ⟨c4, h⟩
    ·obtain ⟨a8, h8, h⟩ := bind_some h
     obtain ⟨a9, h9, h⟩ := bind_some h
     rcases ite_some h with ⟨c5, h⟩ | ⟨c5, h⟩
     ·obtain ⟨a10, h10, h⟩ := bind_some h
      refine rd L mixed 210 [(5, true), (12, true), (19, true), (26, true)] [(1, .B a2), (3, .B a3), (7, .B a4), (9, .B a5), (14, .I a6), (16, .I a7), (21, .I a8), (23, .I a9), (27, .B a10)] [] [] 30 (plc (D9.ok h2) (plc trivial (plc (Cz.ok h3) (plc trivial (plc c2 (plc (D2.ok h4) (plc trivial (plc (Da.ok h5) (plc trivial (plc c3 (plc (Co.ok h6) (plc trivial (plc (Bh.ok h7) (plc trivial (plc (decide_eq_true c4) (plc (Cm.ok h8) (plc trivial (plc (Ba.ok h9) (plc trivial (plc (decide_eq_true c5) (plc (Dt.ok h10) (pl1 trivial)))))))))))))))))))))) ?_
      refine awp_ret ?_
      cases h
      exact er0
     refine rd L mixed 210 [(5, true), (12, true), (19, true), (26, false)] [(1, .B a2), (3, .B a3), (7, .B a4), (9, .B a5), (14, .I a6), (16, .I a7), (21, .I a8), (23, .I a9)] [] [] 30 (plc (D9.ok h2) (plc trivial (plc (Cz.ok h3) (plc trivial (plc c2 (plc (D2.ok h4) (plc trivial (plc (Da.ok h5) (plc trivial (plc c3 (plc (Co.ok h6) (plc trivial (plc (Bh.ok h7) (plc trivial (plc (decide_eq_true c4) (plc (Cm.ok h8) (plc trivial (plc (Ba.ok h9) (plc trivial (pl1 (decide_eq_false c5))))))))))))))))))))) ?_
     refine awp_ret ?_
     cases h
     exact er0
    refine rd L mixed 210 [(5, true), (12, true), (19, false)] [(1, .B a2), (3, .B a3), (7, .B a4), (9, .B a5), (14, .I a6), (16, .I a7)] [] [] 30 (plc (D9.ok h2) (plc trivial (plc (Cz.ok h3) (plc trivial (plc c2 (plc (D2.ok h4) (plc trivial (plc (Da.ok h5) (plc trivial (plc c3 (plc (Co.ok h6) (plc trivial (plc (Bh.ok h7) (plc trivial (pl1 (decide_eq_false c4)))))))))))))))) ?_
    refine awp_ret ?_
    cases h
    exact er0
   refine rd L mixed 210 [(5, true), (12, false)] [(1, .B a2), (3, .B a3), (7, .B a4), (9, .B a5)] [] [] 30 (plc (D9.ok h2) (plc trivial (plc (Cz.ok h3) (plc trivial (plc c2 (plc (D2.ok h4) (plc trivial (plc (Da.ok h5) (plc trivial (pl1 (eq_false_of_ne_true c3))))))))))) ?_
   refine awp_ret ?_
   cases h
   exact er0
  refine rd L mixed 210 [(5, false)] [(1, .B a2), (3, .B a3)] [] [] 30 (plc (D9.ok h2) (plc trivial (plc (Cz.ok h3) (plc trivial (pl1 (eq_false_of_ne_true c2)))))) ?_
  refine awp_ret ?_
  cases h
  exact er0
 refine tt (b := (!a1)) (congrArg Bool.not (eq_false_of_ne_true c1)) ?_
 refine awp_seq ?_
 obtain ⟨a11, h11, h⟩ := bind_some h
 refine rg L 207 [] [(0, .B a11)] [] (plt (Dt.ok h11)) ?_
 refine awp_ret ?_
 cases h
 exact er0
theorem Di.ok {K : Nat} {p0 : Aa} {r : Bool} (h : Di K p0 = some r) : PCall V P 7 [.agg (Ae p0)] (.B r) := ECall.pcall (eo (fn := Tryz.f7) (n := 36) (m := 100) fun Γ => Di.body h) (by kernel_rfl)
end Go.Proofs.YtifjagfmfkemmaaGreatDoor
