/- What functions of the program compute, as Lean functions, and that they compute it. -/
import Derived.Test.YtahpbjjfpbmaiaaDoorFn1
set_option linter.unusedVariables false
set_option maxHeartbeats 0
namespace Go.Proofs.YtahpbjjfpbmaiaaDoor
open Eng
def workflowref07_literal.l95 (K : Nat) (p0 : List UInt8) (xt6_9h : Int) : Nat → Int → Int → Option (Out ((List UInt8) × Int × Int) Int)
 | 0, _, _ => none
 | k + 1, xt8_95h, xt9_95h => (if xt9_95h ≤ 3 then (if (IntKind.i64.wrap (xt6_9h + xt9_95h)) ≥ (p0.length : Int) then some (Out.done (([] : List UInt8), 0, 4)) else (if (0 : Int) ≤ (IntKind.i64.wrap (xt6_9h + xt9_95h)) ∧ ((IntKind.i64.wrap (xt6_9h + xt9_95h)) : Int) < (p0.length : Int) then (Option.bind (workflowref07_hex K ((p0.getD (Int.toNat (IntKind.i64.wrap (xt6_9h + xt9_95h))) 0).toNat : Int)) (fun a1 => (if a1 < 0 then some (Out.done (([] : List UInt8), 0, 3)) else (Option.bind (workflowref07_hex K ((p0.getD (Int.toNat (IntKind.i64.wrap (xt6_9h + xt9_95h))) 0).toNat : Int)) (fun a2 => workflowref07_literal.l95 K p0 xt6_9h k (IntKind.i64.wrap ((IntKind.i64.wrap (16 * xt8_95h)) + a2)) (IntKind.i64.wrap (xt9_95h + 1))))))) else none)) else some (Out.go xt8_95h))
def workflowref07_literal.l9 (K : Nat) (p0 : List UInt8) : Nat → Int → (List UInt8) → Option (Out ((List UInt8) × Int × Int) Unit)
 | 0, _, _ => none
 | k + 1, xt6_9h, x21900 => (if xt6_9h < (p0.length : Int) then (if (0 : Int) ≤ xt6_9h ∧ (xt6_9h : Int) < (p0.length : Int) then (if ((p0.getD (Int.toNat xt6_9h) 0).toNat : Int) = 34 then (if (x21900.length : Int) > 4096 then some (Out.done (([] : List UInt8), 0, 6)) else some (Out.done ((x21900.map (fun b => b)), (IntKind.i64.wrap (xt6_9h + 1)), 0))) else (if ((p0.getD (Int.toNat xt6_9h) 0).toNat : Int) < 32 then some (Out.done (([] : List UInt8), 0, 3)) else (if ((p0.getD (Int.toNat xt6_9h) 0).toNat : Int) > 126 then some (Out.done (([] : List UInt8), 0, 3)) else (if ((p0.getD (Int.toNat xt6_9h) 0).toNat : Int) ≠ 92 then (if 0 ≤ ((p0.getD (Int.toNat xt6_9h) 0).toNat : Int) ∧ ((p0.getD (Int.toNat xt6_9h) 0).toNat : Int) < 256 then (if (x21900.length + (([(UInt8.ofNat (Int.toNat ((p0.getD (Int.toNat xt6_9h) 0).toNat : Int)))] : List UInt8)).length) * 1 ≤ 140737488355328 then workflowref07_literal.l9 K p0 k (IntKind.i64.wrap (xt6_9h + 1)) ((x21900 ++ ([(UInt8.ofNat (Int.toNat ((p0.getD (Int.toNat xt6_9h) 0).toNat : Int)))] : List UInt8))) else none) else none) else (if (IntKind.i64.wrap (xt6_9h + 1)) ≥ (p0.length : Int) then some (Out.done (([] : List UInt8), 0, 4)) else (if (0 : Int) ≤ (IntKind.i64.wrap (xt6_9h + 1)) ∧ ((IntKind.i64.wrap (xt6_9h + 1)) : Int) < (p0.length : Int) then (Option.bind (((if ((p0.getD (Int.toNat (IntKind.i64.wrap (xt6_9h + 1))) 0).toNat : Int) = 34 then some ((decide (((p0.getD (Int.toNat (IntKind.i64.wrap (xt6_9h + 1))) 0).toNat : Int) = 34))) else some ((decide (((p0.getD (Int.toNat (IntKind.i64.wrap (xt6_9h + 1))) 0).toNat : Int) = 92))))) : Option Bool) (fun xt49_64 => (if xt49_64 = true then (if 0 ≤ ((p0.getD (Int.toNat (IntKind.i64.wrap (xt6_9h + 1))) 0).toNat : Int) ∧ ((p0.getD (Int.toNat (IntKind.i64.wrap (xt6_9h + 1))) 0).toNat : Int) < 256 then (if (x21900.length + (([(UInt8.ofNat (Int.toNat ((p0.getD (Int.toNat (IntKind.i64.wrap (xt6_9h + 1))) 0).toNat : Int)))] : List UInt8)).length) * 1 ≤ 140737488355328 then workflowref07_literal.l9 K p0 k (IntKind.i64.wrap (xt6_9h + 2)) ((x21900 ++ ([(UInt8.ofNat (Int.toNat ((p0.getD (Int.toNat (IntKind.i64.wrap (xt6_9h + 1))) 0).toNat : Int)))] : List UInt8))) else none) else none) else (if ((p0.getD (Int.toNat (IntKind.i64.wrap (xt6_9h + 1))) 0).toNat : Int) = 110 then (if (x21900.length + ([(UInt8.ofNat (Int.toNat 10))] : List UInt8).length) * 1 ≤ 140737488355328 then workflowref07_literal.l9 K p0 k (IntKind.i64.wrap (xt6_9h + 2)) (x21900 ++ ([(UInt8.ofNat (Int.toNat 10))] : List UInt8)) else none) else (if ((p0.getD (Int.toNat (IntKind.i64.wrap (xt6_9h + 1))) 0).toNat : Int) = 116 then (if (x21900.length + ([(UInt8.ofNat (Int.toNat 9))] : List UInt8).length) * 1 ≤ 140737488355328 then workflowref07_literal.l9 K p0 k (IntKind.i64.wrap (xt6_9h + 2)) (x21900 ++ ([(UInt8.ofNat (Int.toNat 9))] : List UInt8)) else none) else (if ((p0.getD (Int.toNat (IntKind.i64.wrap (xt6_9h + 1))) 0).toNat : Int) = 120 then (obind (workflowref07_literal.l95 K p0 xt6_9h K 0 2 : Option (Out ((List UInt8) × Int × Int) Int)) Out.done (fun xt8_95 => (if 0 ≤ (IntKind.u8.wrap xt8_95) ∧ (IntKind.u8.wrap xt8_95) < 256 then (if (x21900.length + ([(UInt8.ofNat (Int.toNat (IntKind.u8.wrap xt8_95)))] : List UInt8).length) * 1 ≤ 140737488355328 then workflowref07_literal.l9 K p0 k (IntKind.i64.wrap (xt6_9h + 4)) (x21900 ++ ([(UInt8.ofNat (Int.toNat (IntKind.u8.wrap xt8_95)))] : List UInt8)) else none) else none))) else some (Out.done (([] : List UInt8), 0, 3)))))))) else none)))))) else none) else some (Out.go ()))
def workflowref07_literal (K : Nat) (p0 : List UInt8) : Option ((List UInt8) × Int × Int) := (obind (workflowref07_literal.l9 K p0 K 1 ([] : List UInt8) : Option (Out ((List UInt8) × Int × Int) Unit)) (fun r => r) (fun _ => some (([] : List UInt8), 0, 4)))
theorem workflowref07_literal.body {Γ : Ent} {K : Nat} {p0 : List UInt8} {r : (List UInt8) × Int × Int} (h : workflowref07_literal K p0 = some r) : AWp V P 110 100 Γ (Tryd.f44.body.getD .skip) (EndsE P V Tryd.f44 (.tup [.cv (.str r.1), .I r.2.1, .I r.2.2]) []) ⟨args0 0 [.cv (.str p0)], []⟩ := by
 unfold workflowref07_literal at h
 refine sr0 L 200 [] [] [] (S' := ⟨[(0, .cv (.str p0))], []⟩) ?_
 refine sr0 L 204 [] [] [] (S' := ⟨[(0, .cv (.str p0)), (5, .N)], []⟩) ?_
 refine sr0 L 206 [] [] [] (S' := ⟨[(0, .cv (.str p0)), (5, .N), (6, .I 1)], []⟩) ?_
 refine awp_seq ?_
 refine awp_block ?_
 refine awp_turn (Turns.trans (Turns.kp (S' := ⟨[(0, .cv (.str p0)), (5, .N), (6, .I 1)], []⟩)) (Turns.trans (Turns.nilown 5 9500 Tag.t_uint8 (by kernel_rfl) (by kernel_rfl) (S' := ⟨[(5, .cv (.own .t_uint8 9500)), (0, .cv (.str p0)), (6, .I 1)], [(9500, .lst .t_uint8 ([] : List UInt8))]⟩) (by kernel_rfl)) (Turns.trans (Turns.kp (S' := ⟨[(0, .cv (.str p0)), (5, .cv (.own .t_uint8 9500)), (6, .I 1)], [(9500, .lst .t_uint8 ([] : List UInt8))]⟩)) (Turns.rn [(9500, 21900)] (S' := ⟨[(0, .cv (.str p0)), (5, .cv (.own .t_uint8 21900)), (6, .I 1)], [(21900, .lst .t_uint8 ([] : List UInt8))]⟩))))) ?_
 refine kp (S' := ⟨[(0, .cv (.str p0)), (5, .cv (.own .t_uint8 21900)), (6, .I 1)], [(21900, .lst .t_uint8 ([] : List UInt8))]⟩) ?_
 obtain ⟨o3, hp3, h⟩ := obind_some h
 refine awp_conseq (Q' := fun e S => (e = .exit 0 ∧ S = ⟨[], []⟩ ∧ Out.go () = o3) ∨ (e = .ret ∧ ∃ a, Out.done a = o3 ∧ EndsE P V Tryd.f44 (.tup [.cv (.str a.1), .I a.2.1, .I a.2.2]) [] .ret S)) (awp_loop (fun k S => ∃ xt6_9h : Int, ∃ x21900 : List UInt8, S = ⟨[(0, .cv (.str p0)), (5, .cv (.own .t_uint8 21900)), (6, .I xt6_9h)], [(21900, .lst .t_uint8 x21900)]⟩ ∧ workflowref07_literal.l9 K p0 k xt6_9h x21900 = some o3) ?_ ⟨_, _, rfl, hp3⟩) ?_
 ·clear h hp3
  intro k S hS
  obtain ⟨xt6_9h, x21900, rfl, h⟩ := hS
  cases k with
  | zero => cases h
  | succ k =>
  unfold workflowref07_literal.l9 at h
  refine awp_seq ?_
  refine sr0 L 208 [] [] [] (S' := ⟨[(0, .cv (.str p0)), (5, .cv (.own .t_uint8 21900)), (6, .I xt6_9h), (13, .B (decide (xt6_9h < (p0.length : Int))))], [(21900, .lst .t_uint8 x21900)]⟩) ?_
  rcases ite_some h with ⟨c1, h⟩ | ⟨c1, h⟩
  ·refine tt (b := (decide (xt6_9h < (p0.length : Int)))) (decide_eq_true c1) ?_
   refine awp_skip' ?_
   refine awp_block ?_
   refine awp_seq ?_
   obtain ⟨g1, h⟩ := guard_some h
   refine ar L 213 [] [] [] (cs := [(0 : Int) ≤ xt6_9h, (xt6_9h : Int) < (p0.length : Int)]) (S' := ⟨[(0, .cv (.str p0)), (5, .cv (.own .t_uint8 21900)), (6, .I xt6_9h), (7, .cv (.lit (.int .u8 ((p0.getD (Int.toNat xt6_9h) 0).toNat : Int))))], [(21900, .lst .t_uint8 x21900)]⟩) (And.intro g1.1 g1.2) ?_
   refine awp_seq ?_
   refine sr0 L 218 [] [] [] (S' := ⟨[(0, .cv (.str p0)), (5, .cv (.own .t_uint8 21900)), (6, .I xt6_9h), (7, .cv (.lit (.int .u8 ((p0.getD (Int.toNat xt6_9h) 0).toNat : Int)))), (18, .B (decide (((p0.getD (Int.toNat xt6_9h) 0).toNat : Int) = 34)))], [(21900, .lst .t_uint8 x21900)]⟩) ?_
   rcases ite_some h with ⟨c2, h⟩ | ⟨c2, h⟩
   ·refine tt (b := (decide (((p0.getD (Int.toNat xt6_9h) 0).toNat : Int) = 34))) (decide_eq_true c2) ?_
    refine awp_seq ?_
    refine sr0 L 221 [] [] [] (S' := ⟨[(5, .cv (.own .t_uint8 21900)), (6, .I xt6_9h), (21, .B (decide ((x21900.length : Int) > 4096)))], [(21900, .lst .t_uint8 x21900)]⟩) ?_
    rcases ite_some h with ⟨c3, h⟩ | ⟨c3, h⟩
    ·refine tt (b := (decide ((x21900.length : Int) > 4096))) (decide_eq_true c3) ?_
     refine sr0 L 225 [] [] [] (S' := ⟨[(2, .cv (.str ([] : List UInt8))), (3, .I 0), (4, .I 6)], []⟩) ?_
     refine awp_ret ?_
     obtain rfl := Option.some.inj h
     exact .inr ⟨rfl, _, rfl, er (.tup [.cv (.str ([] : List UInt8)), .I 0, .I 6])⟩
    refine ff (b := (decide ((x21900.length : Int) > 4096))) (decide_eq_false c3) ?_
    refine awp_skip' ?_
    refine sr0 L 229 [] [] [] (S' := ⟨[(2, .cv (.str (x21900.map (fun b => b)))), (3, .I (IntKind.i64.wrap (xt6_9h + 1))), (4, .I 0)], []⟩) ?_
    refine awp_ret ?_
    obtain rfl := Option.some.inj h
    exact .inr ⟨rfl, _, rfl, er (.tup [.cv (.str (x21900.map (fun b => b))), .I (IntKind.i64.wrap (xt6_9h + 1)), .I 0])⟩
   refine ff (b := (decide (((p0.getD (Int.toNat xt6_9h) 0).toNat : Int) = 34))) (decide_eq_false c2) ?_
   refine awp_skip' ?_
   refine awp_seq ?_
   refine awp_seq ?_
   rcases ite_some h with ⟨c4, h⟩ | ⟨c4, h⟩
   ·refine ar L 237 [(2, true)] [] [] (cs := [(decide (((p0.getD (Int.toNat xt6_9h) 0).toNat : Int) < 32)) = true]) (S' := ⟨[(0, .cv (.str p0)), (5, .cv (.own .t_uint8 21900)), (6, .I xt6_9h), (7, .cv (.lit (.int .u8 ((p0.getD (Int.toNat xt6_9h) 0).toNat : Int)))), (31, .B true)], [(21900, .lst .t_uint8 x21900)]⟩) (decide_eq_true c4) ?_
    refine tt (b := true) (rfl) ?_
    refine sr0 L 244 [] [] [] (S' := ⟨[(2, .cv (.str ([] : List UInt8))), (3, .I 0), (4, .I 3)], []⟩) ?_
    refine awp_ret ?_
    obtain rfl := Option.some.inj h
    exact .inr ⟨rfl, _, rfl, er (.tup [.cv (.str ([] : List UInt8)), .I 0, .I 3])⟩
   refine ar L 237 [(2, false)] [] [] (cs := [(decide (((p0.getD (Int.toNat xt6_9h) 0).toNat : Int) < 32)) = false]) (S' := ⟨[(0, .cv (.str p0)), (5, .cv (.own .t_uint8 21900)), (6, .I xt6_9h), (7, .cv (.lit (.int .u8 ((p0.getD (Int.toNat xt6_9h) 0).toNat : Int)))), (31, .B (decide (((p0.getD (Int.toNat xt6_9h) 0).toNat : Int) > 126)))], [(21900, .lst .t_uint8 x21900)]⟩) (decide_eq_false c4) ?_
   rcases ite_some h with ⟨c5, h⟩ | ⟨c5, h⟩
   ·refine tt (b := (decide (((p0.getD (Int.toNat xt6_9h) 0).toNat : Int) > 126))) (decide_eq_true c5) ?_
    refine sr0 L 244 [] [] [] (S' := ⟨[(2, .cv (.str ([] : List UInt8))), (3, .I 0), (4, .I 3)], []⟩) ?_
    refine awp_ret ?_
    obtain rfl := Option.some.inj h
    exact .inr ⟨rfl, _, rfl, er (.tup [.cv (.str ([] : List UInt8)), .I 0, .I 3])⟩
   refine ff (b := (decide (((p0.getD (Int.toNat xt6_9h) 0).toNat : Int) > 126))) (decide_eq_false c5) ?_
   refine awp_skip' ?_
   refine awp_seq ?_
   refine sr0 L 248 [] [] [] (S' := ⟨[(0, .cv (.str p0)), (5, .cv (.own .t_uint8 21900)), (6, .I xt6_9h), (7, .cv (.lit (.int .u8 ((p0.getD (Int.toNat xt6_9h) 0).toNat : Int)))), (33, .B (decide (((p0.getD (Int.toNat xt6_9h) 0).toNat : Int) ≠ 92)))], [(21900, .lst .t_uint8 x21900)]⟩) ?_
   rcases ite_some h with ⟨c6, h⟩ | ⟨c6, h⟩
   ·refine tt (b := (decide (((p0.getD (Int.toNat xt6_9h) 0).toNat : Int) ≠ 92))) (decide_eq_true c6) ?_
    refine awp_seq ?_
    obtain ⟨g2, h⟩ := guard_some h
    obtain ⟨g3, h⟩ := guard_some h
    refine ar L 251 [] [] [] (cs := [0 ≤ ((p0.getD (Int.toNat xt6_9h) 0).toNat : Int), ((p0.getD (Int.toNat xt6_9h) 0).toNat : Int) < 256, (x21900.length + (([(UInt8.ofNat (Int.toNat ((p0.getD (Int.toNat xt6_9h) 0).toNat : Int)))] : List UInt8)).length) * 1 ≤ 140737488355328, True]) (S' := ⟨[(0, .cv (.str p0)), (5, .cv (.own .t_uint8 21900)), (6, .I xt6_9h)], [(21900, .lst .t_uint8 ((x21900 ++ ([(UInt8.ofNat (Int.toNat ((p0.getD (Int.toNat xt6_9h) 0).toNat : Int)))] : List UInt8))))]⟩) (And.intro g2.1 (And.intro g2.2 (And.intro g3 trivial))) ?_
    refine sr0 L 257 [] [] [] (S' := ⟨[(0, .cv (.str p0)), (5, .cv (.own .t_uint8 21900)), (6, .I (IntKind.i64.wrap (xt6_9h + 1)))], [(21900, .lst .t_uint8 ((x21900 ++ ([(UInt8.ofNat (Int.toNat ((p0.getD (Int.toNat xt6_9h) 0).toNat : Int)))] : List UInt8))))]⟩) ?_
    refine ex (S' := ⟨[(0, .cv (.str p0)), (5, .cv (.own .t_uint8 21900)), (6, .I (IntKind.i64.wrap (xt6_9h + 1)))], [(21900, .lst .t_uint8 ((x21900 ++ ([(UInt8.ofNat (Int.toNat ((p0.getD (Int.toNat xt6_9h) 0).toNat : Int)))] : List UInt8))))]⟩) ?_
    exact ⟨k, Nat.lt_succ_self k, _, _, rfl, h⟩
   refine ff (b := (decide (((p0.getD (Int.toNat xt6_9h) 0).toNat : Int) ≠ 92))) (decide_eq_false c6) ?_
   refine awp_skip' ?_
   refine awp_seq ?_
   refine sr0 L 261 [] [] [] (S' := ⟨[(0, .cv (.str p0)), (5, .cv (.own .t_uint8 21900)), (6, .I xt6_9h), (44, .B (decide ((IntKind.i64.wrap (xt6_9h + 1)) ≥ (p0.length : Int))))], [(21900, .lst .t_uint8 x21900)]⟩) ?_
   rcases ite_some h with ⟨c7, h⟩ | ⟨c7, h⟩
   ·refine tt (b := (decide ((IntKind.i64.wrap (xt6_9h + 1)) ≥ (p0.length : Int)))) (decide_eq_true c7) ?_
    refine sr0 L 267 [] [] [] (S' := ⟨[(2, .cv (.str ([] : List UInt8))), (3, .I 0), (4, .I 4)], []⟩) ?_
    refine awp_ret ?_
    obtain rfl := Option.some.inj h
    exact .inr ⟨rfl, _, rfl, er (.tup [.cv (.str ([] : List UInt8)), .I 0, .I 4])⟩
   refine ff (b := (decide ((IntKind.i64.wrap (xt6_9h + 1)) ≥ (p0.length : Int)))) (decide_eq_false c7) ?_
   refine awp_skip' ?_
   refine awp_seq ?_
   obtain ⟨g4, h⟩ := guard_some h
   refine ar L 271 [] [] [] (cs := [(0 : Int) ≤ (IntKind.i64.wrap (xt6_9h + 1)), ((IntKind.i64.wrap (xt6_9h + 1)) : Int) < (p0.length : Int)]) (S' := ⟨[(0, .cv (.str p0)), (5, .cv (.own .t_uint8 21900)), (6, .I xt6_9h), (48, .cv (.lit (.int .u8 ((p0.getD (Int.toNat (IntKind.i64.wrap (xt6_9h + 1))) 0).toNat : Int))))], [(21900, .lst .t_uint8 x21900)]⟩) (And.intro g4.1 g4.2) ?_
   refine awp_block ?_
   obtain ⟨o1, hp1, h⟩ := bind_some h
   refine awp_seq (awp_mono (Q' := fun e S => (e = .normal ∧ ∃ xt49_64 : Bool, S = ⟨[(0, .cv (.str p0)), (5, .cv (.own .t_uint8 32800)), (6, .I xt6_9h), (48, .cv (.lit (.int .u8 ((p0.getD (Int.toNat (IntKind.i64.wrap (xt6_9h + 1))) 0).toNat : Int)))), (49, .B xt49_64)], [(32800, .lst .t_uint8 x21900)]⟩ ∧ xt49_64 = o1)) ?_ ?_)
   ·clear h
    replace h := hp1
    refine sr0 L 276 [] [] [] (S' := ⟨[(0, .cv (.str p0)), (5, .cv (.own .t_uint8 21900)), (6, .I xt6_9h), (48, .cv (.lit (.int .u8 ((p0.getD (Int.toNat (IntKind.i64.wrap (xt6_9h + 1))) 0).toNat : Int)))), (49, .B ((decide (((p0.getD (Int.toNat (IntKind.i64.wrap (xt6_9h + 1))) 0).toNat : Int) = 34))))], [(21900, .lst .t_uint8 x21900)]⟩) ?_
    rcases ite_some h with ⟨c8, h⟩ | ⟨c8, h⟩
    ·refine tt (b := (decide (((p0.getD (Int.toNat (IntKind.i64.wrap (xt6_9h + 1))) 0).toNat : Int) = 34))) (decide_eq_true c8) ?_
     refine awp_turn (Turns.trans (Turns.kp (S' := ⟨[(0, .cv (.str p0)), (5, .cv (.own .t_uint8 21900)), (6, .I xt6_9h), (48, .cv (.lit (.int .u8 ((p0.getD (Int.toNat (IntKind.i64.wrap (xt6_9h + 1))) 0).toNat : Int)))), (49, .B ((decide (((p0.getD (Int.toNat (IntKind.i64.wrap (xt6_9h + 1))) 0).toNat : Int) = 34))))], [(21900, .lst .t_uint8 x21900)]⟩)) (Turns.rn [(21900, 32800)] (S' := ⟨[(0, .cv (.str p0)), (5, .cv (.own .t_uint8 32800)), (6, .I xt6_9h), (48, .cv (.lit (.int .u8 ((p0.getD (Int.toNat (IntKind.i64.wrap (xt6_9h + 1))) 0).toNat : Int)))), (49, .B ((decide (((p0.getD (Int.toNat (IntKind.i64.wrap (xt6_9h + 1))) 0).toNat : Int) = 34))))], [(32800, .lst .t_uint8 x21900)]⟩))) ?_
     refine sk (S' := ⟨[(0, .cv (.str p0)), (5, .cv (.own .t_uint8 32800)), (6, .I xt6_9h), (48, .cv (.lit (.int .u8 ((p0.getD (Int.toNat (IntKind.i64.wrap (xt6_9h + 1))) 0).toNat : Int)))), (49, .B ((decide (((p0.getD (Int.toNat (IntKind.i64.wrap (xt6_9h + 1))) 0).toNat : Int) = 34))))], [(32800, .lst .t_uint8 x21900)]⟩) ?_
     obtain rfl := Option.some.inj h
     exact ⟨rfl, _, rfl, rfl⟩
    refine ff (b := (decide (((p0.getD (Int.toNat (IntKind.i64.wrap (xt6_9h + 1))) 0).toNat : Int) = 34))) (decide_eq_false c8) ?_
    refine awp_post (ar0 L 279 [] [] [] (S' := ⟨[(0, .cv (.str p0)), (5, .cv (.own .t_uint8 21900)), (6, .I xt6_9h), (48, .cv (.lit (.int .u8 ((p0.getD (Int.toNat (IntKind.i64.wrap (xt6_9h + 1))) 0).toNat : Int)))), (49, .B ((decide (((p0.getD (Int.toNat (IntKind.i64.wrap (xt6_9h + 1))) 0).toNat : Int) = 92))))], [(21900, .lst .t_uint8 x21900)]⟩) ⟨rfl, rfl⟩) (Turns.trans (Turns.kp (S' := ⟨[(0, .cv (.str p0)), (5, .cv (.own .t_uint8 21900)), (6, .I xt6_9h), (48, .cv (.lit (.int .u8 ((p0.getD (Int.toNat (IntKind.i64.wrap (xt6_9h + 1))) 0).toNat : Int)))), (49, .B ((decide (((p0.getD (Int.toNat (IntKind.i64.wrap (xt6_9h + 1))) 0).toNat : Int) = 92))))], [(21900, .lst .t_uint8 x21900)]⟩)) (Turns.trans (Turns.rn [(21900, 32800)] (S' := ⟨[(0, .cv (.str p0)), (5, .cv (.own .t_uint8 32800)), (6, .I xt6_9h), (48, .cv (.lit (.int .u8 ((p0.getD (Int.toNat (IntKind.i64.wrap (xt6_9h + 1))) 0).toNat : Int)))), (49, .B ((decide (((p0.getD (Int.toNat (IntKind.i64.wrap (xt6_9h + 1))) 0).toNat : Int) = 92))))], [(32800, .lst .t_uint8 x21900)]⟩)) (Turns.kp (S' := ⟨[(0, .cv (.str p0)), (5, .cv (.own .t_uint8 32800)), (6, .I xt6_9h), (48, .cv (.lit (.int .u8 ((p0.getD (Int.toNat (IntKind.i64.wrap (xt6_9h + 1))) 0).toNat : Int)))), (49, .B ((decide (((p0.getD (Int.toNat (IntKind.i64.wrap (xt6_9h + 1))) 0).toNat : Int) = 92))))], [(32800, .lst .t_uint8 x21900)]⟩)))) ?_
    obtain rfl := Option.some.inj h
    exact ⟨rfl, _, rfl, rfl⟩
   ·rintro e S ⟨rfl, xt49_64, rfl, rfl⟩
    rcases ite_some h with ⟨c9, h⟩ | ⟨c9, h⟩
    ·refine tt (b := xt49_64) (c9) ?_
     refine awp_seq ?_
     obtain ⟨g5, h⟩ := guard_some h
     obtain ⟨g6, h⟩ := guard_some h
     refine ar L 282 [] [] [] (cs := [(0 : Int) ≤ (IntKind.i64.wrap (xt6_9h + 1)), ((IntKind.i64.wrap (xt6_9h + 1)) : Int) < (p0.length : Int), 0 ≤ ((p0.getD (Int.toNat (IntKind.i64.wrap (xt6_9h + 1))) 0).toNat : Int), ((p0.getD (Int.toNat (IntKind.i64.wrap (xt6_9h + 1))) 0).toNat : Int) < 256, (x21900.length + (([(UInt8.ofNat (Int.toNat ((p0.getD (Int.toNat (IntKind.i64.wrap (xt6_9h + 1))) 0).toNat : Int)))] : List UInt8)).length) * 1 ≤ 140737488355328, True]) (S' := ⟨[(0, .cv (.str p0)), (5, .cv (.own .t_uint8 32800)), (6, .I xt6_9h)], [(32800, .lst .t_uint8 ((x21900 ++ ([(UInt8.ofNat (Int.toNat ((p0.getD (Int.toNat (IntKind.i64.wrap (xt6_9h + 1))) 0).toNat : Int)))] : List UInt8))))]⟩) (And.intro g4.1 (And.intro g4.2 (And.intro g5.1 (And.intro g5.2 (And.intro g6 trivial))))) ?_
     refine awp_post (ar0 L 291 [] [] [] (S' := ⟨[(0, .cv (.str p0)), (5, .cv (.own .t_uint8 32800)), (6, .I (IntKind.i64.wrap (xt6_9h + 2)))], [(32800, .lst .t_uint8 ((x21900 ++ ([(UInt8.ofNat (Int.toNat ((p0.getD (Int.toNat (IntKind.i64.wrap (xt6_9h + 1))) 0).toNat : Int)))] : List UInt8))))]⟩) ⟨rfl, rfl⟩) (Turns.trans (Turns.kp (S' := ⟨[(0, .cv (.str p0)), (5, .cv (.own .t_uint8 32800)), (6, .I (IntKind.i64.wrap (xt6_9h + 2)))], [(32800, .lst .t_uint8 ((x21900 ++ ([(UInt8.ofNat (Int.toNat ((p0.getD (Int.toNat (IntKind.i64.wrap (xt6_9h + 1))) 0).toNat : Int)))] : List UInt8))))]⟩)) (Turns.trans (Turns.rn [(32800, 21900)] (S' := ⟨[(0, .cv (.str p0)), (5, .cv (.own .t_uint8 21900)), (6, .I (IntKind.i64.wrap (xt6_9h + 2)))], [(21900, .lst .t_uint8 ((x21900 ++ ([(UInt8.ofNat (Int.toNat ((p0.getD (Int.toNat (IntKind.i64.wrap (xt6_9h + 1))) 0).toNat : Int)))] : List UInt8))))]⟩)) (Turns.kp (S' := ⟨[(0, .cv (.str p0)), (5, .cv (.own .t_uint8 21900)), (6, .I (IntKind.i64.wrap (xt6_9h + 2)))], [(21900, .lst .t_uint8 ((x21900 ++ ([(UInt8.ofNat (Int.toNat ((p0.getD (Int.toNat (IntKind.i64.wrap (xt6_9h + 1))) 0).toNat : Int)))] : List UInt8))))]⟩)))) ?_
     exact ⟨k, Nat.lt_succ_self k, _, _, rfl, h⟩
    refine ff (b := xt49_64) (eq_false_of_ne_true c9) ?_
    refine sr0 L 295 [] [] [] (S' := ⟨[(0, .cv (.str p0)), (5, .cv (.own .t_uint8 32800)), (6, .I xt6_9h), (48, .cv (.lit (.int .u8 ((p0.getD (Int.toNat (IntKind.i64.wrap (xt6_9h + 1))) 0).toNat : Int)))), (61, .B ((decide (((p0.getD (Int.toNat (IntKind.i64.wrap (xt6_9h + 1))) 0).toNat : Int) = 110))))], [(32800, .lst .t_uint8 x21900)]⟩) ?_
    rcases ite_some h with ⟨c10, h⟩ | ⟨c10, h⟩
    ·refine tt (b := (decide (((p0.getD (Int.toNat (IntKind.i64.wrap (xt6_9h + 1))) 0).toNat : Int) = 110))) (decide_eq_true c10) ?_
     refine awp_seq ?_
     obtain ⟨g7, h⟩ := guard_some h
     refine ar L 298 [] [] [] (cs := [(0 : Int) ≤ 10, (10 : Int) < 256, (x21900.length + ([(UInt8.ofNat (Int.toNat 10))] : List UInt8).length) * 1 ≤ 140737488355328, True]) (S' := ⟨[(0, .cv (.str p0)), (5, .cv (.own .t_uint8 32800)), (6, .I xt6_9h)], [(32800, .lst .t_uint8 (x21900 ++ ([(UInt8.ofNat (Int.toNat 10))] : List UInt8)))]⟩) (And.intro (show (0 : Int) ≤ 10 from by decide) (And.intro (show (10 : Int) < 256 from by decide) (And.intro g7 trivial))) ?_
     refine awp_post (ar0 L 303 [] [] [] (S' := ⟨[(0, .cv (.str p0)), (5, .cv (.own .t_uint8 32800)), (6, .I (IntKind.i64.wrap (xt6_9h + 2)))], [(32800, .lst .t_uint8 (x21900 ++ ([(UInt8.ofNat (Int.toNat 10))] : List UInt8)))]⟩) ⟨rfl, rfl⟩) (Turns.trans (Turns.kp (S' := ⟨[(0, .cv (.str p0)), (5, .cv (.own .t_uint8 32800)), (6, .I (IntKind.i64.wrap (xt6_9h + 2)))], [(32800, .lst .t_uint8 (x21900 ++ ([(UInt8.ofNat (Int.toNat 10))] : List UInt8)))]⟩)) (Turns.trans (Turns.rn [(32800, 21900)] (S' := ⟨[(0, .cv (.str p0)), (5, .cv (.own .t_uint8 21900)), (6, .I (IntKind.i64.wrap (xt6_9h + 2)))], [(21900, .lst .t_uint8 (x21900 ++ ([(UInt8.ofNat (Int.toNat 10))] : List UInt8)))]⟩)) (Turns.kp (S' := ⟨[(0, .cv (.str p0)), (5, .cv (.own .t_uint8 21900)), (6, .I (IntKind.i64.wrap (xt6_9h + 2)))], [(21900, .lst .t_uint8 (x21900 ++ ([(UInt8.ofNat (Int.toNat 10))] : List UInt8)))]⟩)))) ?_
     exact ⟨k, Nat.lt_succ_self k, _, _, rfl, h⟩
    refine ff (b := (decide (((p0.getD (Int.toNat (IntKind.i64.wrap (xt6_9h + 1))) 0).toNat : Int) = 110))) (decide_eq_false c10) ?_
    refine sr0 L 307 [] [] [] (S' := ⟨[(0, .cv (.str p0)), (5, .cv (.own .t_uint8 32800)), (6, .I xt6_9h), (48, .cv (.lit (.int .u8 ((p0.getD (Int.toNat (IntKind.i64.wrap (xt6_9h + 1))) 0).toNat : Int)))), (68, .B ((decide (((p0.getD (Int.toNat (IntKind.i64.wrap (xt6_9h + 1))) 0).toNat : Int) = 116))))], [(32800, .lst .t_uint8 x21900)]⟩) ?_
    rcases ite_some h with ⟨c11, h⟩ | ⟨c11, h⟩
    ·refine tt (b := (decide (((p0.getD (Int.toNat (IntKind.i64.wrap (xt6_9h + 1))) 0).toNat : Int) = 116))) (decide_eq_true c11) ?_
     refine awp_seq ?_
     obtain ⟨g8, h⟩ := guard_some h
     refine ar L 310 [] [] [] (cs := [(0 : Int) ≤ 9, (9 : Int) < 256, (x21900.length + ([(UInt8.ofNat (Int.toNat 9))] : List UInt8).length) * 1 ≤ 140737488355328, True]) (S' := ⟨[(0, .cv (.str p0)), (5, .cv (.own .t_uint8 32800)), (6, .I xt6_9h)], [(32800, .lst .t_uint8 (x21900 ++ ([(UInt8.ofNat (Int.toNat 9))] : List UInt8)))]⟩) (And.intro (show (0 : Int) ≤ 9 from by decide) (And.intro (show (9 : Int) < 256 from by decide) (And.intro g8 trivial))) ?_
     refine awp_post (ar0 L 315 [] [] [] (S' := ⟨[(0, .cv (.str p0)), (5, .cv (.own .t_uint8 32800)), (6, .I (IntKind.i64.wrap (xt6_9h + 2)))], [(32800, .lst .t_uint8 (x21900 ++ ([(UInt8.ofNat (Int.toNat 9))] : List UInt8)))]⟩) ⟨rfl, rfl⟩) (Turns.trans (Turns.kp (S' := ⟨[(0, .cv (.str p0)), (5, .cv (.own .t_uint8 32800)), (6, .I (IntKind.i64.wrap (xt6_9h + 2)))], [(32800, .lst .t_uint8 (x21900 ++ ([(UInt8.ofNat (Int.toNat 9))] : List UInt8)))]⟩)) (Turns.trans (Turns.rn [(32800, 21900)] (S' := ⟨[(0, .cv (.str p0)), (5, .cv (.own .t_uint8 21900)), (6, .I (IntKind.i64.wrap (xt6_9h + 2)))], [(21900, .lst .t_uint8 (x21900 ++ ([(UInt8.ofNat (Int.toNat 9))] : List UInt8)))]⟩)) (Turns.kp (S' := ⟨[(0, .cv (.str p0)), (5, .cv (.own .t_uint8 21900)), (6, .I (IntKind.i64.wrap (xt6_9h + 2)))], [(21900, .lst .t_uint8 (x21900 ++ ([(UInt8.ofNat (Int.toNat 9))] : List UInt8)))]⟩)))) ?_
     exact ⟨k, Nat.lt_succ_self k, _, _, rfl, h⟩
    refine ff (b := (decide (((p0.getD (Int.toNat (IntKind.i64.wrap (xt6_9h + 1))) 0).toNat : Int) = 116))) (decide_eq_false c11) ?_
    refine sr0 L 319 [] [] [] (S' := ⟨[(0, .cv (.str p0)), (5, .cv (.own .t_uint8 32800)), (6, .I xt6_9h), (75, .B ((decide (((p0.getD (Int.toNat (IntKind.i64.wrap (xt6_9h + 1))) 0).toNat : Int) = 120))))], [(32800, .lst .t_uint8 x21900)]⟩) ?_
    rcases ite_some h with ⟨c12, h⟩ | ⟨c12, h⟩
    ·refine tt (b := (decide (((p0.getD (Int.toNat (IntKind.i64.wrap (xt6_9h + 1))) 0).toNat : Int) = 120))) (decide_eq_true c12) ?_
     refine sr0 L 322 [] [] [] (S' := ⟨[(0, .cv (.str p0)), (5, .cv (.own .t_uint8 32800)), (6, .I xt6_9h), (8, .I 0)], [(32800, .lst .t_uint8 x21900)]⟩) ?_
     refine awp_seq ?_
     refine sr0 L 324 [] [] [] (S' := ⟨[(0, .cv (.str p0)), (5, .cv (.own .t_uint8 32800)), (6, .I xt6_9h), (8, .I 0), (9, .I 2)], [(32800, .lst .t_uint8 x21900)]⟩) ?_
     refine awp_block ?_
     refine awp_turn (Turns.trans (Turns.kp (S' := ⟨[(0, .cv (.str p0)), (5, .cv (.own .t_uint8 32800)), (6, .I xt6_9h), (8, .I 0), (9, .I 2)], [(32800, .lst .t_uint8 x21900)]⟩)) (Turns.rn [(32800, 39100)] (S' := ⟨[(0, .cv (.str p0)), (5, .cv (.own .t_uint8 39100)), (6, .I xt6_9h), (8, .I 0), (9, .I 2)], [(39100, .lst .t_uint8 x21900)]⟩))) ?_
     refine kp (S' := ⟨[(0, .cv (.str p0)), (5, .cv (.own .t_uint8 39100)), (6, .I xt6_9h), (8, .I 0), (9, .I 2)], [(39100, .lst .t_uint8 x21900)]⟩) ?_
     obtain ⟨o2, hp2, h⟩ := obind_some h
     refine awp_conseq (Q' := fun e S => (e = .exit 3 ∧ ∃ xt8_95 : Int, S = ⟨[(0, .cv (.str p0)), (5, .cv (.own .t_uint8 39000)), (6, .I xt6_9h), (8, .I xt8_95)], [(39000, .lst .t_uint8 x21900)]⟩ ∧ Out.go xt8_95 = o2) ∨ (e = .ret ∧ ∃ a, Out.done a = o2 ∧ EndsE P V Tryd.f44 (.tup [.cv (.str a.1), .I a.2.1, .I a.2.2]) [] .ret S)) (awp_loop (fun k S => ∃ xt8_95h : Int, ∃ xt9_95h : Int, S = ⟨[(0, .cv (.str p0)), (5, .cv (.own .t_uint8 39100)), (6, .I xt6_9h), (8, .I xt8_95h), (9, .I xt9_95h)], [(39100, .lst .t_uint8 x21900)]⟩ ∧ workflowref07_literal.l95 K p0 xt6_9h k xt8_95h xt9_95h = some o2) ?_ ⟨_, _, rfl, hp2⟩) ?_
     ·clear h hp2
      intro k S hS
      obtain ⟨xt8_95h, xt9_95h, rfl, h⟩ := hS
      cases k with
      | zero => cases h
      | succ k =>
      unfold workflowref07_literal.l95 at h
      refine awp_seq ?_
      refine sr0 L 326 [] [] [] (S' := ⟨[(0, .cv (.str p0)), (5, .cv (.own .t_uint8 39100)), (6, .I xt6_9h), (8, .I xt8_95h), (9, .I xt9_95h), (78, .B (decide (xt9_95h ≤ 3)))], [(39100, .lst .t_uint8 x21900)]⟩) ?_
      rcases ite_some h with ⟨c13, h⟩ | ⟨c13, h⟩
      ·refine tt (b := (decide (xt9_95h ≤ 3))) (decide_eq_true c13) ?_
       refine awp_skip' ?_
       refine awp_seq ?_
       refine awp_block ?_
       refine awp_seq ?_
       refine sr0 L 329 [] [] [] (S' := ⟨[(0, .cv (.str p0)), (5, .cv (.own .t_uint8 39100)), (6, .I xt6_9h), (8, .I xt8_95h), (9, .I xt9_95h), (86, .B (decide ((IntKind.i64.wrap (xt6_9h + xt9_95h)) ≥ (p0.length : Int))))], [(39100, .lst .t_uint8 x21900)]⟩) ?_
       rcases ite_some h with ⟨c14, h⟩ | ⟨c14, h⟩
       ·refine tt (b := (decide ((IntKind.i64.wrap (xt6_9h + xt9_95h)) ≥ (p0.length : Int)))) (decide_eq_true c14) ?_
        refine sr0 L 336 [] [] [] (S' := ⟨[(2, .cv (.str ([] : List UInt8))), (3, .I 0), (4, .I 4)], []⟩) ?_
        refine awp_ret ?_
        obtain rfl := Option.some.inj h
        exact .inr ⟨rfl, _, rfl, er (.tup [.cv (.str ([] : List UInt8)), .I 0, .I 4])⟩
       refine ff (b := (decide ((IntKind.i64.wrap (xt6_9h + xt9_95h)) ≥ (p0.length : Int)))) (decide_eq_false c14) ?_
       refine awp_skip' ?_
       refine awp_seq ?_
       refine awp_seq ?_
       obtain ⟨g9, h⟩ := guard_some h
       obtain ⟨a1, h1, h⟩ := bind_some h
       refine ar L 340 [] [(5, .I a1)] [] (cs := [(0 : Int) ≤ (IntKind.i64.wrap (xt6_9h + xt9_95h)), ((IntKind.i64.wrap (xt6_9h + xt9_95h)) : Int) < (p0.length : Int), PCall V P 55 [.cv (.lit (.int .u8 ((p0.getD (Int.toNat (IntKind.i64.wrap (xt6_9h + xt9_95h))) 0).toNat : Int)))] (.I a1), True]) (S' := ⟨[(0, .cv (.str p0)), (5, .cv (.own .t_uint8 39100)), (6, .I xt6_9h), (8, .I xt8_95h), (9, .I xt9_95h), (93, .B (decide (a1 < 0)))], [(39100, .lst .t_uint8 x21900)]⟩) (And.intro g9.1 (And.intro g9.2 (And.intro (workflowref07_hex.ok h1) trivial))) ?_
       rcases ite_some h with ⟨c15, h⟩ | ⟨c15, h⟩
       ·refine tt (b := (decide (a1 < 0))) (decide_eq_true c15) ?_
        refine sr0 L 348 [] [] [] (S' := ⟨[(2, .cv (.str ([] : List UInt8))), (3, .I 0), (4, .I 3)], []⟩) ?_
        refine awp_ret ?_
        obtain rfl := Option.some.inj h
        exact .inr ⟨rfl, _, rfl, er (.tup [.cv (.str ([] : List UInt8)), .I 0, .I 3])⟩
       refine ff (b := (decide (a1 < 0))) (decide_eq_false c15) ?_
       refine awp_skip' ?_
       obtain ⟨a2, h2, h⟩ := bind_some h
       refine ar L 352 [] [(7, .I a2)] [] (cs := [(0 : Int) ≤ (IntKind.i64.wrap (xt6_9h + xt9_95h)), ((IntKind.i64.wrap (xt6_9h + xt9_95h)) : Int) < (p0.length : Int), PCall V P 55 [.cv (.lit (.int .u8 ((p0.getD (Int.toNat (IntKind.i64.wrap (xt6_9h + xt9_95h))) 0).toNat : Int)))] (.I a2), True]) (S' := ⟨[(0, .cv (.str p0)), (5, .cv (.own .t_uint8 39100)), (6, .I xt6_9h), (8, .I (IntKind.i64.wrap ((IntKind.i64.wrap (16 * xt8_95h)) + a2))), (9, .I xt9_95h)], [(39100, .lst .t_uint8 x21900)]⟩) (And.intro g9.1 (And.intro g9.2 (And.intro (workflowref07_hex.ok h2) trivial))) ?_
       refine ar0 L 363 [] [] [] (S' := ⟨[(0, .cv (.str p0)), (5, .cv (.own .t_uint8 39100)), (6, .I xt6_9h), (8, .I (IntKind.i64.wrap ((IntKind.i64.wrap (16 * xt8_95h)) + a2))), (9, .I (IntKind.i64.wrap (xt9_95h + 1)))], [(39100, .lst .t_uint8 x21900)]⟩) ?_
       exact ⟨k, Nat.lt_succ_self k, _, _, rfl, h⟩
      refine ff (b := (decide (xt9_95h ≤ 3))) (decide_eq_false c13) ?_
      refine awp_turn (Turns.trans (Turns.kp (S' := ⟨[(0, .cv (.str p0)), (5, .cv (.own .t_uint8 39100)), (6, .I xt6_9h), (8, .I xt8_95h)], [(39100, .lst .t_uint8 x21900)]⟩)) (Turns.rn [(39100, 39000)] (S' := ⟨[(0, .cv (.str p0)), (5, .cv (.own .t_uint8 39000)), (6, .I xt6_9h), (8, .I xt8_95h)], [(39000, .lst .t_uint8 x21900)]⟩))) ?_
      refine ex (S' := ⟨[(0, .cv (.str p0)), (5, .cv (.own .t_uint8 39000)), (6, .I xt6_9h), (8, .I xt8_95h)], [(39000, .lst .t_uint8 x21900)]⟩) ?_
      obtain rfl := Option.some.inj h
      exact .inl ⟨rfl, _, rfl, rfl⟩
     ·rintro e S (⟨rfl, xt8_95, rfl, rfl⟩ | ⟨rfl, a, rfl, hr⟩)
      ·rcases h with ⟨_, e1, h⟩ | ⟨_, e1, h⟩
       ·cases e1
       ·have e2 := Out.go.inj e1
        subst e2
        refine ⟨_, Turns.refl, ?_⟩
        refine awp_seq ?_
        obtain ⟨g10, h⟩ := guard_some h
        obtain ⟨g11, h⟩ := guard_some h
        refine ar L 367 [] [] [] (cs := [0 ≤ (IntKind.u8.wrap xt8_95), (IntKind.u8.wrap xt8_95) < 256, (x21900.length + ([(UInt8.ofNat (Int.toNat (IntKind.u8.wrap xt8_95)))] : List UInt8).length) * 1 ≤ 140737488355328, True]) (S' := ⟨[(0, .cv (.str p0)), (5, .cv (.own .t_uint8 39000)), (6, .I xt6_9h)], [(39000, .lst .t_uint8 (x21900 ++ ([(UInt8.ofNat (Int.toNat (IntKind.u8.wrap xt8_95)))] : List UInt8)))]⟩) (And.intro g10.1 (And.intro g10.2 (And.intro g11 trivial))) ?_
        refine awp_post (ar0 L 374 [] [] [] (S' := ⟨[(0, .cv (.str p0)), (5, .cv (.own .t_uint8 39000)), (6, .I (IntKind.i64.wrap (xt6_9h + 4)))], [(39000, .lst .t_uint8 (x21900 ++ ([(UInt8.ofNat (Int.toNat (IntKind.u8.wrap xt8_95)))] : List UInt8)))]⟩) ⟨rfl, rfl⟩) (Turns.trans (Turns.kp (S' := ⟨[(0, .cv (.str p0)), (5, .cv (.own .t_uint8 39000)), (6, .I (IntKind.i64.wrap (xt6_9h + 4)))], [(39000, .lst .t_uint8 (x21900 ++ ([(UInt8.ofNat (Int.toNat (IntKind.u8.wrap xt8_95)))] : List UInt8)))]⟩)) (Turns.trans (Turns.rn [(39000, 21900)] (S' := ⟨[(0, .cv (.str p0)), (5, .cv (.own .t_uint8 21900)), (6, .I (IntKind.i64.wrap (xt6_9h + 4)))], [(21900, .lst .t_uint8 (x21900 ++ ([(UInt8.ofNat (Int.toNat (IntKind.u8.wrap xt8_95)))] : List UInt8)))]⟩)) (Turns.kp (S' := ⟨[(0, .cv (.str p0)), (5, .cv (.own .t_uint8 21900)), (6, .I (IntKind.i64.wrap (xt6_9h + 4)))], [(21900, .lst .t_uint8 (x21900 ++ ([(UInt8.ofNat (Int.toNat (IntKind.u8.wrap xt8_95)))] : List UInt8)))]⟩)))) ?_
        exact ⟨k, Nat.lt_succ_self k, _, _, rfl, h⟩
      ·rcases h with ⟨_, e1, h⟩ | ⟨_, e1, h⟩
       ·have e2 := Out.done.inj e1
        subst e2
        subst h
        exact ⟨_, Turns.refl, .inr ⟨rfl, _, rfl, hr⟩⟩
       ·cases e1
    refine ff (b := (decide (((p0.getD (Int.toNat (IntKind.i64.wrap (xt6_9h + 1))) 0).toNat : Int) = 120))) (decide_eq_false c12) ?_
    refine sr0 L 378 [] [] [] (S' := ⟨[(2, .cv (.str ([] : List UInt8))), (3, .I 0), (4, .I 3)], []⟩) ?_
    refine awp_ret ?_
    obtain rfl := Option.some.inj h
    exact .inr ⟨rfl, _, rfl, er (.tup [.cv (.str ([] : List UInt8)), .I 0, .I 3])⟩
  refine ff (b := (decide (xt6_9h < (p0.length : Int)))) (decide_eq_false c1) ?_
  refine ex (S' := ⟨[], []⟩) ?_
  obtain rfl := Option.some.inj h
  exact .inl ⟨rfl, rfl, rfl⟩
 ·rintro e S (⟨rfl, rfl, rfl⟩ | ⟨rfl, a, rfl, hr⟩)
  ·rcases h with ⟨_, e1, h⟩ | ⟨_, e1, h⟩
   ·cases e1
   ·have e2 := Out.go.inj e1
    subst e2
    refine ⟨_, Turns.refl, ?_⟩
    refine sr0 L 382 [] [] [] (S' := ⟨[(2, .cv (.str ([] : List UInt8))), (3, .I 0), (4, .I 4)], []⟩) ?_
    refine awp_ret ?_
    obtain rfl := Option.some.inj h
    exact er (.tup [.cv (.str ([] : List UInt8)), .I 0, .I 4])
  ·rcases h with ⟨_, e1, h⟩ | ⟨_, e1, h⟩
   ·have e2 := Out.done.inj e1
    subst e2
    subst h
    exact ⟨_, Turns.refl, hr⟩
   ·cases e1
theorem workflowref07_literal.ok {K : Nat} {p0 : List UInt8} {r : (List UInt8) × Int × Int} (h : workflowref07_literal K p0 = some r) : PCall V P 44 [.cv (.str p0)] (.tup [.cv (.str r.1), .I r.2.1, .I r.2.2]) := ECall.pcall (eo (fn := Tryd.f44) (n := 110) (m := 100) fun Γ => workflowref07_literal.body h) (by kernel_rfl)
def workflowref07_signs (K : Nat) : Option (List (List UInt8)) := some ([([61, 61] : List UInt8), ([33, 61] : List UInt8), ([60, 61] : List UInt8), ([62, 61] : List UInt8), ([40] : List UInt8), ([41] : List UInt8), ([123] : List UInt8), ([125] : List UInt8), ([91] : List UInt8), ([93] : List UInt8), ([44] : List UInt8), ([59] : List UInt8), ([46] : List UInt8), ([58] : List UInt8), ([61] : List UInt8), ([60] : List UInt8), ([62] : List UInt8), ([43] : List UInt8), ([45] : List UInt8), ([42] : List UInt8), ([47] : List UInt8), ([37] : List UInt8)] : List (List UInt8))
theorem workflowref07_signs.body {Γ : Ent} {K : Nat} {r : List (List UInt8)} (h : workflowref07_signs K = some r) : AWp V P 2 100 Γ (Tryd.f45.body.getD .skip) (EndsE P V Tryd.f45 (.cv (.ro .t_string r)) []) ⟨args0 0 [], []⟩ := by
 unfold workflowref07_signs at h
 refine sr0 L 200 [] [] [] (S' := ⟨[], []⟩) ?_
 refine sr0 L 202 [] [] [] (S' := ⟨[(0, .cv (.ro .t_string ([([61, 61] : List UInt8), ([33, 61] : List UInt8), ([60, 61] : List UInt8), ([62, 61] : List UInt8), ([40] : List UInt8), ([41] : List UInt8), ([123] : List UInt8), ([125] : List UInt8), ([91] : List UInt8), ([93] : List UInt8), ([44] : List UInt8), ([59] : List UInt8), ([46] : List UInt8), ([58] : List UInt8), ([61] : List UInt8), ([60] : List UInt8), ([62] : List UInt8), ([43] : List UInt8), ([45] : List UInt8), ([42] : List UInt8), ([47] : List UInt8), ([37] : List UInt8)] : List (List UInt8))))], []⟩) ?_
 refine awp_ret ?_
 obtain rfl := Option.some.inj h
 exact er (.cv (.ro .t_string ([([61, 61] : List UInt8), ([33, 61] : List UInt8), ([60, 61] : List UInt8), ([62, 61] : List UInt8), ([40] : List UInt8), ([41] : List UInt8), ([123] : List UInt8), ([125] : List UInt8), ([91] : List UInt8), ([93] : List UInt8), ([44] : List UInt8), ([59] : List UInt8), ([46] : List UInt8), ([58] : List UInt8), ([61] : List UInt8), ([60] : List UInt8), ([62] : List UInt8), ([43] : List UInt8), ([45] : List UInt8), ([42] : List UInt8), ([47] : List UInt8), ([37] : List UInt8)] : List (List UInt8))))
theorem workflowref07_signs.ok {K : Nat} {r : List (List UInt8)} (h : workflowref07_signs K = some r) : PCall V P 45 [] (.cv (.ro .t_string r)) := ECall.pcall (eo (fn := Tryd.f45) (n := 2) (m := 100) fun Γ => workflowref07_signs.body h) (by kernel_rfl)
def workflowref07_one.l13 (K : Nat) (p0 : List UInt8) : Nat → Int → Option Int
 | 0, _ => none
 | k + 1, xt6_13h => (if xt6_13h < (p0.length : Int) then (if (0 : Int) ≤ xt6_13h ∧ (xt6_13h : Int) < (p0.length : Int) then (Option.bind (workflowref07_letter K ((p0.getD (Int.toNat xt6_13h) 0).toNat : Int)) (fun a2 => (if a2 = true then workflowref07_one.l13 K p0 k (IntKind.i64.wrap (xt6_13h + 1)) else (Option.bind (workflowref07_digit K ((p0.getD (Int.toNat xt6_13h) 0).toNat : Int)) (fun a3 => (if a3 = true then workflowref07_one.l13 K p0 k (IntKind.i64.wrap (xt6_13h + 1)) else some xt6_13h)))))) else none) else some xt6_13h)
def workflowref07_one.l82 (K : Nat) (p0 : List UInt8) (a8 : List (List UInt8)) : Nat → Int → Option (Out (api_Token × Int × Int) Unit)
 | 0, _ => none
 | k + 1, xt83_82h => (if xt83_82h < (a8.length : Int) then (if (0 : Int) ≤ xt83_82h ∧ (xt83_82h : Int) < (a8.length : Int) then (if ((a8.getD (Int.toNat xt83_82h) ([] : List UInt8)).length : Int) ≤ (p0.length : Int) then (if (0 : Int) ≤ ((a8.getD (Int.toNat xt83_82h) ([] : List UInt8)).length : Int) ∧ ((a8.getD (Int.toNat xt83_82h) ([] : List UInt8)).length : Int) ≤ (p0.length : Int) then (if (slc p0 0 ((a8.getD (Int.toNat xt83_82h) ([] : List UInt8)).length : Int)) = (a8.getD (Int.toNat xt83_82h) ([] : List UInt8)) then some (Out.done ((⟨5, 0, (a8.getD (Int.toNat xt83_82h) ([] : List UInt8)), 0⟩ : api_Token), ((a8.getD (Int.toNat xt83_82h) ([] : List UInt8)).length : Int), 0)) else workflowref07_one.l82 K p0 a8 k (IntKind.i64.wrap (xt83_82h + 1))) else none) else workflowref07_one.l82 K p0 a8 k (IntKind.i64.wrap (xt83_82h + 1))) else none) else some (Out.go ()))
def workflowref07_one (K : Nat) (p0 : List UInt8) : Option (api_Token × Int × Int) := (if (0 : Int) < (p0.length : Int) then (Option.bind (workflowref07_letter K ((p0.getD (Int.toNat 0) 0).toNat : Int)) (fun a1 => (if a1 = true then (Option.bind (workflowref07_one.l13 K p0 K 0 : Option Int) (fun xt6_13 => (if xt6_13 > 64 then some ((⟨0, 0, [], 0⟩ : api_Token), 0, 8) else (if (0 : Int) ≤ xt6_13 ∧ xt6_13 ≤ (p0.length : Int) then (Option.bind (workflowref07_Keyword K (slc p0 0 xt6_13)) (fun a4 => (if a4 = true then some ((⟨2, 0, (slc p0 0 xt6_13), 0⟩ : api_Token), xt6_13, 0) else some ((⟨1, 0, (slc p0 0 xt6_13), 0⟩ : api_Token), xt6_13, 0)))) else none)))) else (Option.bind (workflowref07_digit K ((p0.getD (Int.toNat 0) 0).toNat : Int)) (fun a5 => (if a5 = true then (Option.bind (workflowref07_number K p0) (fun (a6_0, a6_1, a6_2) => (if a6_2 ≠ 0 then some ((⟨0, 0, [], 0⟩ : api_Token), 0, a6_2) else some ((⟨3, 0, [], a6_0⟩ : api_Token), a6_1, 0)))) else (if ((p0.getD (Int.toNat 0) 0).toNat : Int) = 34 then (Option.bind (workflowref07_literal K p0) (fun (a7_0, a7_1, a7_2) => (if a7_2 ≠ 0 then some ((⟨0, 0, [], 0⟩ : api_Token), 0, a7_2) else some ((⟨4, 0, a7_0, 0⟩ : api_Token), a7_1, 0)))) else (Option.bind (workflowref07_signs K) (fun a8 => (obind (workflowref07_one.l82 K p0 a8 K 0 : Option (Out (api_Token × Int × Int) Unit)) (fun r => r) (fun _ => some ((⟨0, 0, [], 0⟩ : api_Token), 0, 3)))))))))))) else none)
theorem workflowref07_one.body {Γ : Ent} {K : Nat} {p0 : List UInt8} {r : api_Token × Int × Int} (h : workflowref07_one K p0 = some r) : AWp V P 106 100 Γ (Tryd.f24.body.getD .skip) (EndsE P V Tryd.f24 (.tup [.agg [.I r.1.Kind, .I r.1.At, .str r.1.Text, .I r.1.Int], .I r.2.1, .I r.2.2]) []) ⟨args0 0 [.cv (.str p0)], []⟩ := by
 unfold workflowref07_one at h
 refine sr0 L 200 [] [] [] (S' := ⟨[(0, .cv (.str p0)), (2, .P 200)], [(200, .raw [.I 0, .I 0, .str [], .I 0])]⟩) ?_
 refine awp_seq ?_
 obtain ⟨g1, h⟩ := guard_some h
 refine ar L 204 [] [] [] (cs := [(0 : Int) ≤ 0, (0 : Int) < (p0.length : Int)]) (S' := ⟨[(0, .cv (.str p0)), (2, .P 200), (5, .cv (.lit (.int .u8 ((p0.getD (Int.toNat 0) 0).toNat : Int))))], [(200, .raw [.I 0, .I 0, .str [], .I 0])]⟩) (And.intro (show (0 : Int) ≤ 0 from by decide) g1) ?_
 refine awp_seq ?_
 refine awp_seq ?_
 obtain ⟨a1, h1, h⟩ := bind_some h
 refine ar L 208 [] [(1, .B a1)] [] (cs := [PCall V P 41 [.cv (.lit (.int .u8 ((p0.getD (Int.toNat 0) 0).toNat : Int)))] (.B a1), True]) (S' := ⟨[(0, .cv (.str p0)), (2, .P 200), (5, .cv (.lit (.int .u8 ((p0.getD (Int.toNat 0) 0).toNat : Int)))), (19, .B a1)], [(200, .raw [.I 0, .I 0, .str [], .I 0])]⟩) (And.intro (workflowref07_letter.ok h1) trivial) ?_
 rcases ite_some h with ⟨c1, h⟩ | ⟨c1, h⟩
 ·refine tt (b := a1) (c1) ?_
  refine sr0 L 211 [] [] [] (S' := ⟨[(0, .cv (.str p0)), (2, .P 200), (6, .I 0)], [(200, .raw [.I 0, .I 0, .str [], .I 0])]⟩) ?_
  refine awp_seq ?_
  refine awp_block ?_
  refine awp_turn (Turns.trans (Turns.kp (S' := ⟨[(0, .cv (.str p0)), (2, .P 200), (6, .I 0)], [(200, .raw [.I 0, .I 0, .str [], .I 0])]⟩)) (Turns.rn [(200, 22700)] (S' := ⟨[(0, .cv (.str p0)), (2, .P 22700), (6, .I 0)], [(22700, .raw [.I 0, .I 0, .str [], .I 0])]⟩))) ?_
  refine kp (S' := ⟨[(0, .cv (.str p0)), (2, .P 22700), (6, .I 0)], [(22700, .raw [.I 0, .I 0, .str [], .I 0])]⟩) ?_
  obtain ⟨o1, hp1, h⟩ := bind_some h
  refine awp_conseq (Q' := fun e S => (e = .exit 0 ∧ ∃ xt6_13 : Int, S = ⟨[(0, .cv (.str p0)), (2, .P 22600), (6, .I xt6_13)], [(22600, .raw [.I 0, .I 0, .str [], .I 0])]⟩ ∧ xt6_13 = o1)) (awp_loop (fun k S => ∃ xt6_13h : Int, S = ⟨[(0, .cv (.str p0)), (2, .P 22700), (6, .I xt6_13h)], [(22700, .raw [.I 0, .I 0, .str [], .I 0])]⟩ ∧ workflowref07_one.l13 K p0 k xt6_13h = some o1) ?_ ⟨_, rfl, hp1⟩) ?_
  ·clear h hp1
   intro k S hS
   obtain ⟨xt6_13h, rfl, h⟩ := hS
   cases k with
   | zero => cases h
   | succ k =>
   unfold workflowref07_one.l13 at h
   refine awp_seq ?_
   refine awp_seq ?_
   rcases ite_some h with ⟨c2, h⟩ | ⟨c2, h⟩
   ·obtain ⟨g2, h⟩ := guard_some h
    obtain ⟨a2, h2, h⟩ := bind_some h
    rcases ite_some h with ⟨c3, h⟩ | ⟨c3, h⟩
    ·refine ar L 213 [(4, true), (9, true)] [(8, .B a2)] [] (cs := [(decide (xt6_13h < (p0.length : Int))) = true, (0 : Int) ≤ xt6_13h, (xt6_13h : Int) < (p0.length : Int), PCall V P 41 [.cv (.lit (.int .u8 ((p0.getD (Int.toNat xt6_13h) 0).toNat : Int)))] (.B a2), True, a2 = true]) (S' := ⟨[(0, .cv (.str p0)), (2, .P 22700), (6, .I xt6_13h), (35, .B true)], [(22700, .raw [.I 0, .I 0, .str [], .I 0])]⟩) (And.intro (decide_eq_true c2) (And.intro g2.1 (And.intro g2.2 (And.intro (workflowref07_letter.ok h2) (And.intro trivial c3))))) ?_
     refine tt (b := true) (rfl) ?_
     refine awp_skip' ?_
     refine awp_block ?_
     refine ar0 L 230 [] [] [] (S' := ⟨[(0, .cv (.str p0)), (2, .P 22700), (6, .I (IntKind.i64.wrap (xt6_13h + 1)))], [(22700, .raw [.I 0, .I 0, .str [], .I 0])]⟩) ?_
     exact ⟨k, Nat.lt_succ_self k, _, rfl, h⟩
    obtain ⟨a3, h3, h⟩ := bind_some h
    refine ar L 213 [(4, true), (9, false)] [(8, .B a2), (13, .B a3)] [] (cs := [(decide (xt6_13h < (p0.length : Int))) = true, (0 : Int) ≤ xt6_13h, (xt6_13h : Int) < (p0.length : Int), PCall V P 41 [.cv (.lit (.int .u8 ((p0.getD (Int.toNat xt6_13h) 0).toNat : Int)))] (.B a2), True, a2 = false, (0 : Int) ≤ xt6_13h, (xt6_13h : Int) < (p0.length : Int), PCall V P 42 [.cv (.lit (.int .u8 ((p0.getD (Int.toNat xt6_13h) 0).toNat : Int)))] (.B a3), True]) (S' := ⟨[(0, .cv (.str p0)), (2, .P 22700), (6, .I xt6_13h), (35, .B a3)], [(22700, .raw [.I 0, .I 0, .str [], .I 0])]⟩) (And.intro (decide_eq_true c2) (And.intro g2.1 (And.intro g2.2 (And.intro (workflowref07_letter.ok h2) (And.intro trivial (And.intro (eq_false_of_ne_true c3) (And.intro g2.1 (And.intro g2.2 (And.intro (workflowref07_digit.ok h3) trivial))))))))) ?_
    rcases ite_some h with ⟨c4, h⟩ | ⟨c4, h⟩
    ·refine tt (b := a3) (c4) ?_
     refine awp_skip' ?_
     refine awp_block ?_
     refine ar0 L 230 [] [] [] (S' := ⟨[(0, .cv (.str p0)), (2, .P 22700), (6, .I (IntKind.i64.wrap (xt6_13h + 1)))], [(22700, .raw [.I 0, .I 0, .str [], .I 0])]⟩) ?_
     exact ⟨k, Nat.lt_succ_self k, _, rfl, h⟩
    refine ff (b := a3) (eq_false_of_ne_true c4) ?_
    refine awp_turn (Turns.trans (Turns.kp (S' := ⟨[(0, .cv (.str p0)), (2, .P 22700), (6, .I xt6_13h)], [(22700, .raw [.I 0, .I 0, .str [], .I 0])]⟩)) (Turns.rn [(22700, 22600)] (S' := ⟨[(0, .cv (.str p0)), (2, .P 22600), (6, .I xt6_13h)], [(22600, .raw [.I 0, .I 0, .str [], .I 0])]⟩))) ?_
    refine ex (S' := ⟨[(0, .cv (.str p0)), (2, .P 22600), (6, .I xt6_13h)], [(22600, .raw [.I 0, .I 0, .str [], .I 0])]⟩) ?_
    obtain rfl := Option.some.inj h
    exact ⟨rfl, _, rfl, rfl⟩
   refine ar L 213 [(4, false)] [] [] (cs := [(decide (xt6_13h < (p0.length : Int))) = false]) (S' := ⟨[(0, .cv (.str p0)), (2, .P 22700), (6, .I xt6_13h), (35, .B false)], [(22700, .raw [.I 0, .I 0, .str [], .I 0])]⟩) (decide_eq_false c2) ?_
   refine ff (b := false) (rfl) ?_
   refine awp_turn (Turns.trans (Turns.kp (S' := ⟨[(0, .cv (.str p0)), (2, .P 22700), (6, .I xt6_13h)], [(22700, .raw [.I 0, .I 0, .str [], .I 0])]⟩)) (Turns.rn [(22700, 22600)] (S' := ⟨[(0, .cv (.str p0)), (2, .P 22600), (6, .I xt6_13h)], [(22600, .raw [.I 0, .I 0, .str [], .I 0])]⟩))) ?_
   refine ex (S' := ⟨[(0, .cv (.str p0)), (2, .P 22600), (6, .I xt6_13h)], [(22600, .raw [.I 0, .I 0, .str [], .I 0])]⟩) ?_
   obtain rfl := Option.some.inj h
   exact ⟨rfl, _, rfl, rfl⟩
  ·rintro e S ⟨rfl, xt6_13, rfl, rfl⟩
   refine ⟨_, Turns.refl, ?_⟩
   refine awp_seq ?_
   refine sr0 L 234 [] [] [] (S' := ⟨[(0, .cv (.str p0)), (2, .P 22600), (6, .I xt6_13), (39, .B (decide (xt6_13 > 64)))], [(22600, .raw [.I 0, .I 0, .str [], .I 0])]⟩) ?_
   rcases ite_some h with ⟨c5, h⟩ | ⟨c5, h⟩
   ·refine tt (b := (decide (xt6_13 > 64))) (decide_eq_true c5) ?_
    refine sr0 L 237 [] [] [] (S' := ⟨[(2, .P 22600), (3, .I 0), (4, .I 8)], [(22600, .raw [.I 0, .I 0, .str [], .I 0])]⟩) ?_
    refine awp_turn (Turns.rn [(22600, 100)] (S' := ⟨[(2, .P 100), (3, .I 0), (4, .I 8)], [(100, .raw [.I 0, .I 0, .str [], .I 0])]⟩)) ?_
    refine awp_ret ?_
    obtain rfl := Option.some.inj h
    exact er (.tup [.agg [.I 0, .I 0, .str [], .I 0], .I 0, .I 8])
   refine ff (b := (decide (xt6_13 > 64))) (decide_eq_false c5) ?_
   refine awp_skip' ?_
   refine awp_seq ?_
   obtain ⟨g3, h⟩ := guard_some h
   refine ar L 242 [] [] [] (cs := [(0 : Int) ≤ 0, (0 : Int) ≤ xt6_13, xt6_13 ≤ (p0.length : Int)]) (S' := ⟨[(2, .P 22600), (6, .I xt6_13), (7, .P 246)], [(246, .raw [.I 1, .I 0, .str (slc p0 0 xt6_13), .I 0]), (22600, .raw [.I 0, .I 0, .str [], .I 0])]⟩) (And.intro (Int.le_refl _) (And.intro g3.1 g3.2)) ?_
   refine awp_seq ?_
   refine awp_seq ?_
   obtain ⟨a4, h4, h⟩ := bind_some h
   refine ar L 249 [] [(2, .B a4)] [] (cs := [PCall V P 15 [.cv (.str (slc p0 0 xt6_13))] (.B a4), True]) (S' := ⟨[(2, .P 22600), (6, .I xt6_13), (7, .P 246), (47, .B a4)], [(246, .raw [.I 1, .I 0, .str (slc p0 0 xt6_13), .I 0]), (22600, .raw [.I 0, .I 0, .str [], .I 0])]⟩) (And.intro (workflowref07_Keyword.ok h4) trivial) ?_
   rcases ite_some h with ⟨c6, h⟩ | ⟨c6, h⟩
   ·refine tt (b := a4) (c6) ?_
    refine ar0 L 253 [] [] [] (S' := ⟨[(2, .P 22600), (6, .I xt6_13), (7, .P 246)], [(246, .raw [.I 2, .I 0, .str (slc p0 0 xt6_13), .I 0]), (22600, .raw [.I 0, .I 0, .str [], .I 0])]⟩) ?_
    refine sr0 L 256 [] [] [] (S' := ⟨[(2, .P 22600), (3, .I xt6_13), (4, .I 0)], [(22600, .raw [.I 2, .I 0, .str (slc p0 0 xt6_13), .I 0])]⟩) ?_
    refine awp_turn (Turns.rn [(22600, 100)] (S' := ⟨[(2, .P 100), (3, .I xt6_13), (4, .I 0)], [(100, .raw [.I 2, .I 0, .str (slc p0 0 xt6_13), .I 0])]⟩)) ?_
    refine awp_ret ?_
    obtain rfl := Option.some.inj h
    exact er (.tup [.agg [.I 2, .I 0, .str (slc p0 0 xt6_13), .I 0], .I xt6_13, .I 0])
   refine ff (b := a4) (eq_false_of_ne_true c6) ?_
   refine awp_skip' ?_
   refine sr0 L 256 [] [] [] (S' := ⟨[(2, .P 22600), (3, .I xt6_13), (4, .I 0)], [(22600, .raw [.I 1, .I 0, .str (slc p0 0 xt6_13), .I 0])]⟩) ?_
   refine awp_turn (Turns.rn [(22600, 100)] (S' := ⟨[(2, .P 100), (3, .I xt6_13), (4, .I 0)], [(100, .raw [.I 1, .I 0, .str (slc p0 0 xt6_13), .I 0])]⟩)) ?_
   refine awp_ret ?_
   obtain rfl := Option.some.inj h
   exact er (.tup [.agg [.I 1, .I 0, .str (slc p0 0 xt6_13), .I 0], .I xt6_13, .I 0])
 refine ff (b := a1) (eq_false_of_ne_true c1) ?_
 refine awp_skip' ?_
 refine awp_seq ?_
 refine awp_seq ?_
 obtain ⟨a5, h5, h⟩ := bind_some h
 refine ar L 262 [] [(1, .B a5)] [] (cs := [PCall V P 42 [.cv (.lit (.int .u8 ((p0.getD (Int.toNat 0) 0).toNat : Int)))] (.B a5), True]) (S' := ⟨[(0, .cv (.str p0)), (2, .P 200), (5, .cv (.lit (.int .u8 ((p0.getD (Int.toNat 0) 0).toNat : Int)))), (52, .B a5)], [(200, .raw [.I 0, .I 0, .str [], .I 0])]⟩) (And.intro (workflowref07_digit.ok h5) trivial) ?_
 rcases ite_some h with ⟨c7, h⟩ | ⟨c7, h⟩
 ·refine tt (b := a5) (c7) ?_
  refine awp_seq ?_
  obtain ⟨⟨a6_0, a6_1, a6_2⟩, h6, h⟩ := bind_some h
  dsimp only at h
  refine ar L 265 [] [(1, .tup [.I a6_0, .I a6_1, .I a6_2])] [] (cs := [PCall V P 43 [.cv (.str p0)] (.tup [.I a6_0, .I a6_1, .I a6_2]), True]) (S' := ⟨[(2, .P 200), (8, .I a6_0), (9, .I a6_1), (10, .I a6_2)], [(200, .raw [.I 0, .I 0, .str [], .I 0])]⟩) (And.intro (workflowref07_number.ok h6) trivial) ?_
  refine awp_seq ?_
  refine sr0 L 275 [] [] [] (S' := ⟨[(2, .P 200), (8, .I a6_0), (9, .I a6_1), (10, .I a6_2), (60, .B (decide (a6_2 ≠ 0)))], [(200, .raw [.I 0, .I 0, .str [], .I 0])]⟩) ?_
  rcases ite_some h with ⟨c8, h⟩ | ⟨c8, h⟩
  ·refine tt (b := (decide (a6_2 ≠ 0))) (decide_eq_true c8) ?_
   refine sr0 L 278 [] [] [] (S' := ⟨[(2, .P 200), (3, .I 0), (4, .I a6_2)], [(200, .raw [.I 0, .I 0, .str [], .I 0])]⟩) ?_
   refine awp_turn (Turns.rn [(200, 100)] (S' := ⟨[(2, .P 100), (3, .I 0), (4, .I a6_2)], [(100, .raw [.I 0, .I 0, .str [], .I 0])]⟩)) ?_
   refine awp_ret ?_
   obtain rfl := Option.some.inj h
   exact er (.tup [.agg [.I 0, .I 0, .str [], .I 0], .I 0, .I a6_2])
  refine ff (b := (decide (a6_2 ≠ 0))) (decide_eq_false c8) ?_
  refine awp_skip' ?_
  refine sr0 L 284 [] [] [] (S' := ⟨[(2, .P 200), (3, .I a6_1), (4, .I 0)], [(200, .raw [.I 3, .I 0, .str [], .I a6_0])]⟩) ?_
  refine awp_turn (Turns.rn [(200, 100)] (S' := ⟨[(2, .P 100), (3, .I a6_1), (4, .I 0)], [(100, .raw [.I 3, .I 0, .str [], .I a6_0])]⟩)) ?_
  refine awp_ret ?_
  obtain rfl := Option.some.inj h
  exact er (.tup [.agg [.I 3, .I 0, .str [], .I a6_0], .I a6_1, .I 0])
 refine ff (b := a5) (eq_false_of_ne_true c7) ?_
 refine awp_skip' ?_
 refine awp_seq ?_
 refine sr0 L 291 [] [] [] (S' := ⟨[(0, .cv (.str p0)), (2, .P 200), (67, .B (decide (((p0.getD (Int.toNat 0) 0).toNat : Int) = 34)))], [(200, .raw [.I 0, .I 0, .str [], .I 0])]⟩) ?_
 rcases ite_some h with ⟨c9, h⟩ | ⟨c9, h⟩
 ·refine tt (b := (decide (((p0.getD (Int.toNat 0) 0).toNat : Int) = 34))) (decide_eq_true c9) ?_
  refine awp_seq ?_
  obtain ⟨⟨a7_0, a7_1, a7_2⟩, h7, h⟩ := bind_some h
  dsimp only at h
  refine ar L 294 [] [(1, .tup [.cv (.str a7_0), .I a7_1, .I a7_2])] [] (cs := [PCall V P 44 [.cv (.str p0)] (.tup [.cv (.str a7_0), .I a7_1, .I a7_2]), True]) (S' := ⟨[(2, .P 200), (11, .cv (.str a7_0)), (12, .I a7_1), (13, .I a7_2)], [(200, .raw [.I 0, .I 0, .str [], .I 0])]⟩) (And.intro (workflowref07_literal.ok h7) trivial) ?_
  refine awp_seq ?_
  refine sr0 L 304 [] [] [] (S' := ⟨[(2, .P 200), (11, .cv (.str a7_0)), (12, .I a7_1), (13, .I a7_2), (75, .B (decide (a7_2 ≠ 0)))], [(200, .raw [.I 0, .I 0, .str [], .I 0])]⟩) ?_
  rcases ite_some h with ⟨c10, h⟩ | ⟨c10, h⟩
  ·refine tt (b := (decide (a7_2 ≠ 0))) (decide_eq_true c10) ?_
   refine sr0 L 307 [] [] [] (S' := ⟨[(2, .P 200), (3, .I 0), (4, .I a7_2)], [(200, .raw [.I 0, .I 0, .str [], .I 0])]⟩) ?_
   refine awp_turn (Turns.rn [(200, 100)] (S' := ⟨[(2, .P 100), (3, .I 0), (4, .I a7_2)], [(100, .raw [.I 0, .I 0, .str [], .I 0])]⟩)) ?_
   refine awp_ret ?_
   obtain rfl := Option.some.inj h
   exact er (.tup [.agg [.I 0, .I 0, .str [], .I 0], .I 0, .I a7_2])
  refine ff (b := (decide (a7_2 ≠ 0))) (decide_eq_false c10) ?_
  refine awp_skip' ?_
  refine sr0 L 313 [] [] [] (S' := ⟨[(2, .P 200), (3, .I a7_1), (4, .I 0)], [(200, .raw [.I 4, .I 0, .str a7_0, .I 0])]⟩) ?_
  refine awp_turn (Turns.rn [(200, 100)] (S' := ⟨[(2, .P 100), (3, .I a7_1), (4, .I 0)], [(100, .raw [.I 4, .I 0, .str a7_0, .I 0])]⟩)) ?_
  refine awp_ret ?_
  obtain rfl := Option.some.inj h
  exact er (.tup [.agg [.I 4, .I 0, .str a7_0, .I 0], .I a7_1, .I 0])
 refine ff (b := (decide (((p0.getD (Int.toNat 0) 0).toNat : Int) = 34))) (decide_eq_false c9) ?_
 refine awp_skip' ?_
 refine awp_seq ?_
 refine awp_seq ?_
 obtain ⟨a8, h8, h⟩ := bind_some h
 refine ar L 320 [] [(0, .cv (.ro .t_string a8))] [] (cs := [PCall V P 45 [] (.cv (.ro .t_string a8)), True]) (S' := ⟨[(0, .cv (.str p0)), (2, .P 200), (81, .cv (.ro .t_string a8)), (82, .I (a8.length : Int)), (83, .I 0)], [(200, .raw [.I 0, .I 0, .str [], .I 0])]⟩) (And.intro (workflowref07_signs.ok h8) trivial) ?_
 refine awp_block ?_
 refine awp_turn (Turns.trans (Turns.kp (S' := ⟨[(0, .cv (.str p0)), (2, .P 200), (81, .cv (.ro .t_string a8)), (82, .I (a8.length : Int)), (83, .I 0)], [(200, .raw [.I 0, .I 0, .str [], .I 0])]⟩)) (Turns.rn [(200, 36500)] (S' := ⟨[(0, .cv (.str p0)), (2, .P 36500), (81, .cv (.ro .t_string a8)), (82, .I (a8.length : Int)), (83, .I 0)], [(36500, .raw [.I 0, .I 0, .str [], .I 0])]⟩))) ?_
 refine kp (S' := ⟨[(0, .cv (.str p0)), (2, .P 36500), (81, .cv (.ro .t_string a8)), (82, .I (a8.length : Int)), (83, .I 0)], [(36500, .raw [.I 0, .I 0, .str [], .I 0])]⟩) ?_
 obtain ⟨o2, hp2, h⟩ := obind_some h
 refine awp_conseq (Q' := fun e S => (e = .exit 2 ∧ S = ⟨[(2, .P 36400)], [(36400, .raw [.I 0, .I 0, .str [], .I 0])]⟩ ∧ Out.go () = o2) ∨ (e = .ret ∧ ∃ a, Out.done a = o2 ∧ EndsE P V Tryd.f24 (.tup [.agg [.I a.1.Kind, .I a.1.At, .str a.1.Text, .I a.1.Int], .I a.2.1, .I a.2.2]) [] .ret S)) (awp_loop (fun k S => ∃ xt83_82h : Int, S = ⟨[(0, .cv (.str p0)), (2, .P 36500), (81, .cv (.ro .t_string a8)), (82, .I (a8.length : Int)), (83, .I xt83_82h)], [(36500, .raw [.I 0, .I 0, .str [], .I 0])]⟩ ∧ workflowref07_one.l82 K p0 a8 k xt83_82h = some o2) ?_ ⟨_, rfl, hp2⟩) ?_
 ·clear h hp2
  intro k S hS
  obtain ⟨xt83_82h, rfl, h⟩ := hS
  cases k with
  | zero => cases h
  | succ k =>
  unfold workflowref07_one.l82 at h
  refine sr0 L 324 [] [] [] (S' := ⟨[(0, .cv (.str p0)), (2, .P 36500), (81, .cv (.ro .t_string a8)), (82, .I (a8.length : Int)), (83, .I xt83_82h), (84, .B (decide (xt83_82h < (a8.length : Int))))], [(36500, .raw [.I 0, .I 0, .str [], .I 0])]⟩) ?_
  refine awp_seq ?_
  rcases ite_some h with ⟨c11, h⟩ | ⟨c11, h⟩
  ·refine tt (b := (decide (xt83_82h < (a8.length : Int)))) (decide_eq_true c11) ?_
   refine awp_skip' ?_
   refine awp_seq ?_
   refine awp_block ?_
   refine awp_seq ?_
   obtain ⟨g4, h⟩ := guard_some h
   refine ar L 326 [] [] [] (cs := [(0 : Int) ≤ xt83_82h, (xt83_82h : Int) < (a8.length : Int)]) (S' := ⟨[(0, .cv (.str p0)), (2, .P 36500), (15, .cv (.str (a8.getD (Int.toNat xt83_82h) ([] : List UInt8)))), (81, .cv (.ro .t_string a8)), (82, .I (a8.length : Int)), (83, .I xt83_82h)], [(36500, .raw [.I 0, .I 0, .str [], .I 0])]⟩) (And.intro g4.1 g4.2) ?_
   refine awp_seq ?_
   rcases ite_some h with ⟨c12, h⟩ | ⟨c12, h⟩
   ·obtain ⟨g5, h⟩ := guard_some h
    refine ar L 330 [(5, true)] [] [] (cs := [(decide (((a8.getD (Int.toNat xt83_82h) ([] : List UInt8)).length : Int) ≤ (p0.length : Int))) = true, (0 : Int) ≤ 0, (0 : Int) ≤ ((a8.getD (Int.toNat xt83_82h) ([] : List UInt8)).length : Int), ((a8.getD (Int.toNat xt83_82h) ([] : List UInt8)).length : Int) ≤ (p0.length : Int)]) (S' := ⟨[(0, .cv (.str p0)), (2, .P 36500), (15, .cv (.str (a8.getD (Int.toNat xt83_82h) ([] : List UInt8)))), (81, .cv (.ro .t_string a8)), (82, .I (a8.length : Int)), (83, .I xt83_82h), (99, .B ((decide ((slc p0 0 ((a8.getD (Int.toNat xt83_82h) ([] : List UInt8)).length : Int)) = (a8.getD (Int.toNat xt83_82h) ([] : List UInt8))))))], [(36500, .raw [.I 0, .I 0, .str [], .I 0])]⟩) (And.intro (decide_eq_true c12) (And.intro (Int.le_refl _) (And.intro g5.1 g5.2))) ?_
    rcases ite_some h with ⟨c13, h⟩ | ⟨c13, h⟩
    ·refine tt (b := (decide ((slc p0 0 ((a8.getD (Int.toNat xt83_82h) ([] : List UInt8)).length : Int)) = (a8.getD (Int.toNat xt83_82h) ([] : List UInt8))))) (decide_eq_true c13) ?_
     refine sr0 L 344 [] [] [] (S' := ⟨[(2, .P 36500), (3, .I ((a8.getD (Int.toNat xt83_82h) ([] : List UInt8)).length : Int)), (4, .I 0)], [(36500, .raw [.I 5, .I 0, .str (a8.getD (Int.toNat xt83_82h) ([] : List UInt8)), .I 0])]⟩) ?_
     refine awp_turn (Turns.rn [(36500, 100)] (S' := ⟨[(2, .P 100), (3, .I ((a8.getD (Int.toNat xt83_82h) ([] : List UInt8)).length : Int)), (4, .I 0)], [(100, .raw [.I 5, .I 0, .str (a8.getD (Int.toNat xt83_82h) ([] : List UInt8)), .I 0])]⟩)) ?_
     refine awp_ret ?_
     obtain rfl := Option.some.inj h
     exact .inr ⟨rfl, _, rfl, er (.tup [.agg [.I 5, .I 0, .str (a8.getD (Int.toNat xt83_82h) ([] : List UInt8)), .I 0], .I ((a8.getD (Int.toNat xt83_82h) ([] : List UInt8)).length : Int), .I 0])⟩
    refine ff (b := (decide ((slc p0 0 ((a8.getD (Int.toNat xt83_82h) ([] : List UInt8)).length : Int)) = (a8.getD (Int.toNat xt83_82h) ([] : List UInt8))))) (decide_eq_false c13) ?_
    refine awp_skip' ?_
    refine ar0 L 352 [] [] [] (S' := ⟨[(0, .cv (.str p0)), (2, .P 36500), (81, .cv (.ro .t_string a8)), (82, .I (a8.length : Int)), (83, .I (IntKind.i64.wrap (xt83_82h + 1)))], [(36500, .raw [.I 0, .I 0, .str [], .I 0])]⟩) ?_
    exact ⟨k, Nat.lt_succ_self k, _, rfl, h⟩
   refine ar L 330 [(5, false)] [] [] (cs := [(decide (((a8.getD (Int.toNat xt83_82h) ([] : List UInt8)).length : Int) ≤ (p0.length : Int))) = false]) (S' := ⟨[(0, .cv (.str p0)), (2, .P 36500), (15, .cv (.str (a8.getD (Int.toNat xt83_82h) ([] : List UInt8)))), (81, .cv (.ro .t_string a8)), (82, .I (a8.length : Int)), (83, .I xt83_82h), (99, .B false)], [(36500, .raw [.I 0, .I 0, .str [], .I 0])]⟩) (decide_eq_false c12) ?_
   refine ff (b := false) (rfl) ?_
   refine awp_skip' ?_
   refine ar0 L 352 [] [] [] (S' := ⟨[(0, .cv (.str p0)), (2, .P 36500), (81, .cv (.ro .t_string a8)), (82, .I (a8.length : Int)), (83, .I (IntKind.i64.wrap (xt83_82h + 1)))], [(36500, .raw [.I 0, .I 0, .str [], .I 0])]⟩) ?_
   exact ⟨k, Nat.lt_succ_self k, _, rfl, h⟩
  refine ff (b := (decide (xt83_82h < (a8.length : Int)))) (decide_eq_false c11) ?_
  refine awp_turn (Turns.trans (Turns.kp (S' := ⟨[(2, .P 36500)], [(36500, .raw [.I 0, .I 0, .str [], .I 0])]⟩)) (Turns.rn [(36500, 36400)] (S' := ⟨[(2, .P 36400)], [(36400, .raw [.I 0, .I 0, .str [], .I 0])]⟩))) ?_
  refine ex (S' := ⟨[(2, .P 36400)], [(36400, .raw [.I 0, .I 0, .str [], .I 0])]⟩) ?_
  obtain rfl := Option.some.inj h
  exact .inl ⟨rfl, rfl, rfl⟩
 ·rintro e S (⟨rfl, rfl, rfl⟩ | ⟨rfl, a, rfl, hr⟩)
  ·rcases h with ⟨_, e1, h⟩ | ⟨_, e1, h⟩
   ·cases e1
   ·have e2 := Out.go.inj e1
    subst e2
    refine ⟨_, Turns.refl, ?_⟩
    refine sr0 L 355 [] [] [] (S' := ⟨[(2, .P 36400), (3, .I 0), (4, .I 3)], [(36400, .raw [.I 0, .I 0, .str [], .I 0])]⟩) ?_
    refine awp_turn (Turns.rn [(36400, 100)] (S' := ⟨[(2, .P 100), (3, .I 0), (4, .I 3)], [(100, .raw [.I 0, .I 0, .str [], .I 0])]⟩)) ?_
    refine awp_ret ?_
    obtain rfl := Option.some.inj h
    exact er (.tup [.agg [.I 0, .I 0, .str [], .I 0], .I 0, .I 3])
  ·rcases h with ⟨_, e1, h⟩ | ⟨_, e1, h⟩
   ·have e2 := Out.done.inj e1
    subst e2
    subst h
    exact ⟨_, Turns.refl, hr⟩
   ·cases e1
theorem workflowref07_one.ok {K : Nat} {p0 : List UInt8} {r : api_Token × Int × Int} (h : workflowref07_one K p0 = some r) : PCall V P 24 [.cv (.str p0)] (.tup [.agg [.I r.1.Kind, .I r.1.At, .str r.1.Text, .I r.1.Int], .I r.2.1, .I r.2.2]) := ECall.pcall (eo (fn := Tryd.f24) (n := 106) (m := 100) fun Γ => workflowref07_one.body h) (by kernel_rfl)
def workflowref07_Scan.l17 (K : Nat) (p0 : List UInt8) : Nat → Int → (List api_Token) → Option (Out ((List api_Token) × Int × Int) (List api_Token))
 | 0, _, _ => none
 | k + 1, xt6_17h, x23500 => (if xt6_17h < (p0.length : Int) then (if (0 : Int) ≤ xt6_17h ∧ (xt6_17h : Int) < (p0.length : Int) then (if ((p0.getD (Int.toNat xt6_17h) 0).toNat : Int) = 32 then workflowref07_Scan.l17 K p0 k (IntKind.i64.wrap (xt6_17h + 1)) x23500 else (if ((p0.getD (Int.toNat xt6_17h) 0).toNat : Int) = 9 then workflowref07_Scan.l17 K p0 k (IntKind.i64.wrap (xt6_17h + 1)) x23500 else (if ((p0.getD (Int.toNat xt6_17h) 0).toNat : Int) = 10 then workflowref07_Scan.l17 K p0 k (IntKind.i64.wrap (xt6_17h + 1)) x23500 else (if xt6_17h ≤ (p0.length : Int) then (Option.bind (workflowref07_one K (slc p0 xt6_17h (p0.length : Int))) (fun (a1_0, a1_1, a1_2) => (if a1_2 ≠ 0 then some (Out.done (([] : List api_Token), xt6_17h, a1_2)) else (if (x23500.length + ([(⟨a1_0.Kind, xt6_17h, a1_0.Text, a1_0.Int⟩ : api_Token)] : List api_Token).length) * 40 ≤ 140737488355328 then workflowref07_Scan.l17 K p0 k (IntKind.i64.wrap (xt6_17h + a1_1)) (x23500 ++ ([(⟨a1_0.Kind, xt6_17h, a1_0.Text, a1_0.Int⟩ : api_Token)] : List api_Token)) else none)))) else none)))) else none) else some (Out.go x23500))
def workflowref07_Scan (K : Nat) (p0 : List UInt8) : Option ((List api_Token) × Int × Int) := (if (p0.length : Int) > 16384 then some (([] : List api_Token), 0, 6) else (obind (workflowref07_Scan.l17 K p0 K 0 ([] : List api_Token) : Option (Out ((List api_Token) × Int × Int) (List api_Token))) (fun r => r) (fun x23400 => (if (x23400.length + ([(⟨0, (p0.length : Int), [], 0⟩ : api_Token)] : List api_Token).length) * 40 ≤ 140737488355328 then some ((x23400 ++ ([(⟨0, (p0.length : Int), [], 0⟩ : api_Token)] : List api_Token)), 0, 0) else none))))
theorem workflowref07_Scan.body {Γ : Ent} {K : Nat} {p0 : List UInt8} {r : (List api_Token) × Int × Int} (h : workflowref07_Scan K p0 = some r) : AWp V P 63 100 Γ (Tryd.f12.body.getD .skip) (EndsE P V Tryd.f12 (.tup [.cv (.ro .t_api_Token r.1), .I r.2.1, .I r.2.2]) []) ⟨args0 0 [.cv (.str p0)], []⟩ := by
 unfold workflowref07_Scan at h
 refine sr0 L 200 [] [] [] (S' := ⟨[(0, .cv (.str p0))], []⟩) ?_
 refine awp_seq ?_
 refine sr0 L 204 [] [] [] (S' := ⟨[(0, .cv (.str p0)), (12, .B (decide ((p0.length : Int) > 16384)))], []⟩) ?_
 rcases ite_some h with ⟨c1, h⟩ | ⟨c1, h⟩
 ·refine tt (b := (decide ((p0.length : Int) > 16384))) (decide_eq_true c1) ?_
  refine sr0 L 208 [] [] [] (S' := ⟨[(2, .N), (3, .I 0), (4, .I 6)], []⟩) ?_
  refine awp_ret ?_
  obtain rfl := Option.some.inj h
  exact er (.tup [.N, .I 0, .I 6])
 refine ff (b := (decide ((p0.length : Int) > 16384))) (decide_eq_false c1) ?_
 refine awp_skip' ?_
 refine sr0 L 212 [] [] [] (S' := ⟨[(0, .cv (.str p0)), (5, .N)], []⟩) ?_
 refine sr0 L 214 [] [] [] (S' := ⟨[(0, .cv (.str p0)), (5, .N), (6, .I 0)], []⟩) ?_
 refine awp_seq ?_
 refine awp_block ?_
 refine awp_turn (Turns.trans (Turns.kp (S' := ⟨[(0, .cv (.str p0)), (5, .N), (6, .I 0)], []⟩)) (Turns.trans (Turns.nilown 5 9500 Tag.t_api_Token (by kernel_rfl) (by kernel_rfl) (S' := ⟨[(5, .cv (.own .t_api_Token 9500)), (0, .cv (.str p0)), (6, .I 0)], [(9500, .lst .t_api_Token ([] : List api_Token))]⟩) (by kernel_rfl)) (Turns.trans (Turns.kp (S' := ⟨[(0, .cv (.str p0)), (5, .cv (.own .t_api_Token 9500)), (6, .I 0)], [(9500, .lst .t_api_Token ([] : List api_Token))]⟩)) (Turns.rn [(9500, 23500)] (S' := ⟨[(0, .cv (.str p0)), (5, .cv (.own .t_api_Token 23500)), (6, .I 0)], [(23500, .lst .t_api_Token ([] : List api_Token))]⟩))))) ?_
 refine kp (S' := ⟨[(0, .cv (.str p0)), (5, .cv (.own .t_api_Token 23500)), (6, .I 0)], [(23500, .lst .t_api_Token ([] : List api_Token))]⟩) ?_
 obtain ⟨o1, hp1, h⟩ := obind_some h
 refine awp_conseq (Q' := fun e S => (e = .exit 0 ∧ ∃ x23400 : List api_Token, S = ⟨[(0, .cv (.str p0)), (5, .cv (.own .t_api_Token 23400))], [(23400, .lst .t_api_Token x23400)]⟩ ∧ Out.go x23400 = o1) ∨ (e = .ret ∧ ∃ a, Out.done a = o1 ∧ EndsE P V Tryd.f12 (.tup [.cv (.ro .t_api_Token a.1), .I a.2.1, .I a.2.2]) [] .ret S)) (awp_loop (fun k S => ∃ xt6_17h : Int, ∃ x23500 : List api_Token, S = ⟨[(0, .cv (.str p0)), (5, .cv (.own .t_api_Token 23500)), (6, .I xt6_17h)], [(23500, .lst .t_api_Token x23500)]⟩ ∧ workflowref07_Scan.l17 K p0 k xt6_17h x23500 = some o1) ?_ ⟨_, _, rfl, hp1⟩) ?_
 ·clear h hp1
  intro k S hS
  obtain ⟨xt6_17h, x23500, rfl, h⟩ := hS
  cases k with
  | zero => cases h
  | succ k =>
  unfold workflowref07_Scan.l17 at h
  refine awp_seq ?_
  refine sr0 L 216 [] [] [] (S' := ⟨[(0, .cv (.str p0)), (5, .cv (.own .t_api_Token 23500)), (6, .I xt6_17h), (16, .B (decide (xt6_17h < (p0.length : Int))))], [(23500, .lst .t_api_Token x23500)]⟩) ?_
  rcases ite_some h with ⟨c2, h⟩ | ⟨c2, h⟩
  ·refine tt (b := (decide (xt6_17h < (p0.length : Int)))) (decide_eq_true c2) ?_
   refine awp_skip' ?_
   refine awp_block ?_
   refine awp_seq ?_
   refine awp_seq ?_
   obtain ⟨g1, h⟩ := guard_some h
   rcases ite_some h with ⟨c3, h⟩ | ⟨c3, h⟩
   ·refine ar L 221 [(4, true)] [] [] (cs := [(0 : Int) ≤ xt6_17h, (xt6_17h : Int) < (p0.length : Int), (decide (((p0.getD (Int.toNat xt6_17h) 0).toNat : Int) = 32)) = true]) (S' := ⟨[(0, .cv (.str p0)), (5, .cv (.own .t_api_Token 23500)), (6, .I xt6_17h), (32, .B true)], [(23500, .lst .t_api_Token x23500)]⟩) (And.intro g1.1 (And.intro g1.2 (decide_eq_true c3))) ?_
    refine tt (b := true) (rfl) ?_
    refine sr0 L 238 [] [] [] (S' := ⟨[(0, .cv (.str p0)), (5, .cv (.own .t_api_Token 23500)), (6, .I (IntKind.i64.wrap (xt6_17h + 1)))], [(23500, .lst .t_api_Token x23500)]⟩) ?_
    refine ex (S' := ⟨[(0, .cv (.str p0)), (5, .cv (.own .t_api_Token 23500)), (6, .I (IntKind.i64.wrap (xt6_17h + 1)))], [(23500, .lst .t_api_Token x23500)]⟩) ?_
    exact ⟨k, Nat.lt_succ_self k, _, _, rfl, h⟩
   rcases ite_some h with ⟨c4, h⟩ | ⟨c4, h⟩
   ·refine ar L 221 [(4, false), (10, true)] [] [] (cs := [(0 : Int) ≤ xt6_17h, (xt6_17h : Int) < (p0.length : Int), (decide (((p0.getD (Int.toNat xt6_17h) 0).toNat : Int) = 32)) = false, (0 : Int) ≤ xt6_17h, (xt6_17h : Int) < (p0.length : Int), (decide (((p0.getD (Int.toNat xt6_17h) 0).toNat : Int) = 9)) = true]) (S' := ⟨[(0, .cv (.str p0)), (5, .cv (.own .t_api_Token 23500)), (6, .I xt6_17h), (32, .B true)], [(23500, .lst .t_api_Token x23500)]⟩) (And.intro g1.1 (And.intro g1.2 (And.intro (decide_eq_false c3) (And.intro g1.1 (And.intro g1.2 (decide_eq_true c4)))))) ?_
    refine tt (b := true) (rfl) ?_
    refine sr0 L 238 [] [] [] (S' := ⟨[(0, .cv (.str p0)), (5, .cv (.own .t_api_Token 23500)), (6, .I (IntKind.i64.wrap (xt6_17h + 1)))], [(23500, .lst .t_api_Token x23500)]⟩) ?_
    refine ex (S' := ⟨[(0, .cv (.str p0)), (5, .cv (.own .t_api_Token 23500)), (6, .I (IntKind.i64.wrap (xt6_17h + 1)))], [(23500, .lst .t_api_Token x23500)]⟩) ?_
    exact ⟨k, Nat.lt_succ_self k, _, _, rfl, h⟩
   refine ar L 221 [(4, false), (10, false)] [] [] (cs := [(0 : Int) ≤ xt6_17h, (xt6_17h : Int) < (p0.length : Int), (decide (((p0.getD (Int.toNat xt6_17h) 0).toNat : Int) = 32)) = false, (0 : Int) ≤ xt6_17h, (xt6_17h : Int) < (p0.length : Int), (decide (((p0.getD (Int.toNat xt6_17h) 0).toNat : Int) = 9)) = false, (0 : Int) ≤ xt6_17h, (xt6_17h : Int) < (p0.length : Int)]) (S' := ⟨[(0, .cv (.str p0)), (5, .cv (.own .t_api_Token 23500)), (6, .I xt6_17h), (32, .B (decide (((p0.getD (Int.toNat xt6_17h) 0).toNat : Int) = 10)))], [(23500, .lst .t_api_Token x23500)]⟩) (And.intro g1.1 (And.intro g1.2 (And.intro (decide_eq_false c3) (And.intro g1.1 (And.intro g1.2 (And.intro (decide_eq_false c4) (And.intro g1.1 g1.2))))))) ?_
   rcases ite_some h with ⟨c5, h⟩ | ⟨c5, h⟩
   ·refine tt (b := (decide (((p0.getD (Int.toNat xt6_17h) 0).toNat : Int) = 10))) (decide_eq_true c5) ?_
    refine sr0 L 238 [] [] [] (S' := ⟨[(0, .cv (.str p0)), (5, .cv (.own .t_api_Token 23500)), (6, .I (IntKind.i64.wrap (xt6_17h + 1)))], [(23500, .lst .t_api_Token x23500)]⟩) ?_
    refine ex (S' := ⟨[(0, .cv (.str p0)), (5, .cv (.own .t_api_Token 23500)), (6, .I (IntKind.i64.wrap (xt6_17h + 1)))], [(23500, .lst .t_api_Token x23500)]⟩) ?_
    exact ⟨k, Nat.lt_succ_self k, _, _, rfl, h⟩
   refine ff (b := (decide (((p0.getD (Int.toNat xt6_17h) 0).toNat : Int) = 10))) (decide_eq_false c5) ?_
   refine awp_skip' ?_
   refine awp_seq ?_
   obtain ⟨g2, h⟩ := guard_some h
   obtain ⟨⟨a1_0, a1_1, a1_2⟩, h1, h⟩ := bind_some h
   dsimp only at h
   refine ar L 242 [] [(3, .tup [.agg (d_api_Token a1_0), .I a1_1, .I a1_2])] [] (cs := [(0 : Int) ≤ xt6_17h, xt6_17h ≤ (p0.length : Int), (p0.length : Int) ≤ (p0.length : Int), PCall V P 24 [.cv (.str (slc p0 xt6_17h (p0.length : Int)))] (.tup [.agg (d_api_Token a1_0), .I a1_1, .I a1_2]), True]) (S' := ⟨[(0, .cv (.str p0)), (5, .cv (.own .t_api_Token 23500)), (6, .I xt6_17h), (7, .P 250), (8, .I a1_1), (9, .I a1_2)], [(250, .raw (d_api_Token a1_0)), (23500, .lst .t_api_Token x23500)]⟩) (And.intro g1.1 (And.intro g2 (And.intro (Int.le_refl _) (And.intro (workflowref07_one.ok h1) trivial)))) ?_
   refine awp_seq ?_
   refine sr0 L 255 [] [] [] (S' := ⟨[(0, .cv (.str p0)), (5, .cv (.own .t_api_Token 23500)), (6, .I xt6_17h), (7, .P 250), (8, .I a1_1), (9, .I a1_2), (44, .B (decide (a1_2 ≠ 0)))], [(250, .raw (d_api_Token a1_0)), (23500, .lst .t_api_Token x23500)]⟩) ?_
   rcases ite_some h with ⟨c6, h⟩ | ⟨c6, h⟩
   ·refine tt (b := (decide (a1_2 ≠ 0))) (decide_eq_true c6) ?_
    refine sr0 L 258 [] [] [] (S' := ⟨[(2, .N), (3, .I xt6_17h), (4, .I a1_2)], []⟩) ?_
    refine awp_ret ?_
    obtain rfl := Option.some.inj h
    exact .inr ⟨rfl, _, rfl, er (.tup [.N, .I xt6_17h, .I a1_2])⟩
   refine ff (b := (decide (a1_2 ≠ 0))) (decide_eq_false c6) ?_
   refine awp_skip' ?_
   refine sr0 L 264 [] [] [] (S' := ⟨[(0, .cv (.str p0)), (5, .cv (.own .t_api_Token 23500)), (6, .I xt6_17h), (7, .P 250), (8, .I a1_1)], [(250, .raw [.I a1_0.Kind, .I xt6_17h, .str a1_0.Text, .I a1_0.Int]), (23500, .lst .t_api_Token x23500)]⟩) ?_
   refine awp_seq ?_
   obtain ⟨g3, h⟩ := guard_some h
   refine ar L 268 [] [] [] (cs := [(x23500.length + ([(⟨a1_0.Kind, xt6_17h, a1_0.Text, a1_0.Int⟩ : api_Token)] : List api_Token).length) * 40 ≤ 140737488355328, True]) (S' := ⟨[(0, .cv (.str p0)), (5, .cv (.own .t_api_Token 23500)), (6, .I xt6_17h), (8, .I a1_1)], [(23500, .lst .t_api_Token (x23500 ++ ([(⟨a1_0.Kind, xt6_17h, a1_0.Text, a1_0.Int⟩ : api_Token)] : List api_Token)))]⟩) (And.intro g3 trivial) ?_
   refine ar0 L 274 [] [] [] (S' := ⟨[(0, .cv (.str p0)), (5, .cv (.own .t_api_Token 23500)), (6, .I (IntKind.i64.wrap (xt6_17h + a1_1)))], [(23500, .lst .t_api_Token (x23500 ++ ([(⟨a1_0.Kind, xt6_17h, a1_0.Text, a1_0.Int⟩ : api_Token)] : List api_Token)))]⟩) ?_
   exact ⟨k, Nat.lt_succ_self k, _, _, rfl, h⟩
  refine ff (b := (decide (xt6_17h < (p0.length : Int)))) (decide_eq_false c2) ?_
  refine awp_turn (Turns.trans (Turns.kp (S' := ⟨[(0, .cv (.str p0)), (5, .cv (.own .t_api_Token 23500))], [(23500, .lst .t_api_Token x23500)]⟩)) (Turns.rn [(23500, 23400)] (S' := ⟨[(0, .cv (.str p0)), (5, .cv (.own .t_api_Token 23400))], [(23400, .lst .t_api_Token x23500)]⟩))) ?_
  refine ex (S' := ⟨[(0, .cv (.str p0)), (5, .cv (.own .t_api_Token 23400))], [(23400, .lst .t_api_Token x23500)]⟩) ?_
  obtain rfl := Option.some.inj h
  exact .inl ⟨rfl, _, rfl, rfl⟩
 ·rintro e S (⟨rfl, x23400, rfl, rfl⟩ | ⟨rfl, a, rfl, hr⟩)
  ·rcases h with ⟨_, e1, h⟩ | ⟨_, e1, h⟩
   ·cases e1
   ·have e2 := Out.go.inj e1
    subst e2
    refine ⟨_, Turns.refl, ?_⟩
    refine awp_seq ?_
    obtain ⟨g4, h⟩ := guard_some h
    refine ar L 279 [] [] [] (cs := [(x23400.length + ([(⟨0, (p0.length : Int), [], 0⟩ : api_Token)] : List api_Token).length) * 40 ≤ 140737488355328, True]) (S' := ⟨[(5, .cv (.own .t_api_Token 23400))], [(23400, .lst .t_api_Token (x23400 ++ ([(⟨0, (p0.length : Int), [], 0⟩ : api_Token)] : List api_Token)))]⟩) (And.intro g4 trivial) ?_
    refine sr0 L 287 [] [] [] (S' := ⟨[(2, .cv (.own .t_api_Token 23400)), (3, .I 0), (4, .I 0)], [(23400, .lst .t_api_Token (x23400 ++ ([(⟨0, (p0.length : Int), [], 0⟩ : api_Token)] : List api_Token)))]⟩) ?_
    refine awp_turn (Turns.frz 23400 (blk0 := .lst .t_api_Token (x23400 ++ ([(⟨0, (p0.length : Int), [], 0⟩ : api_Token)] : List api_Token))) (by kernel_rfl) (by kernel_rfl) (S' := ⟨[(2, .cv (.ro .t_api_Token (x23400 ++ ([(⟨0, (p0.length : Int), [], 0⟩ : api_Token)] : List api_Token)))), (3, .I 0), (4, .I 0)], []⟩) (by kernel_rfl)) ?_
    refine awp_ret ?_
    obtain rfl := Option.some.inj h
    exact er (.tup [.cv (.ro .t_api_Token (x23400 ++ ([(⟨0, (p0.length : Int), [], 0⟩ : api_Token)] : List api_Token))), .I 0, .I 0])
  ·rcases h with ⟨_, e1, h⟩ | ⟨_, e1, h⟩
   ·have e2 := Out.done.inj e1
    subst e2
    subst h
    exact ⟨_, Turns.refl, hr⟩
   ·cases e1
theorem workflowref07_Scan.ok {K : Nat} {p0 : List UInt8} {r : (List api_Token) × Int × Int} (h : workflowref07_Scan K p0 = some r) : PCall V P 12 [.cv (.str p0)] (.tup [.cv (.ro .t_api_Token r.1), .I r.2.1, .I r.2.2]) := ECall.pcall (eo (fn := Tryd.f12) (n := 63) (m := 100) fun Γ => workflowref07_Scan.body h) (by kernel_rfl)
def workflowlaw07_TokenScan (K : Nat) (p0 : List UInt8) : Option Bool := (Option.bind ((if (p0.length : Int) > 5000 then some (decide ((p0.length : Int) ≤ 16384)) else some false) : Option Bool) (fun xt16_4 => (if xt16_4 = true then (Option.bind (workflowlaw07_works K) (fun a1 => some a1)) else (Option.bind (token_Scan K p0) (fun (a2_0, a2_1, a2_2) => (Option.bind (workflowref07_Scan K p0) (fun (a3_0, a3_1, a3_2) => (Option.bind (workflowlaw07_equal K a2_0 a3_0) (fun a4 => (if a4 = true then (if a2_1 = a3_1 then (if a2_2 = a3_2 then (Option.bind (workflowlaw07_works K) (fun a5 => some a5)) else some false) else some false) else some false))))))))))
theorem workflowlaw07_TokenScan.body {Γ : Ent} {K : Nat} {p0 : List UInt8} {r : Bool} (h : workflowlaw07_TokenScan K p0 = some r) : AWp V P 46 100 Γ (Tryd.f3.body.getD .skip) (EndsE P V Tryd.f3 (.B r) []) ⟨args0 0 [.cv (.str p0)], []⟩ := by
 unfold workflowlaw07_TokenScan at h
 refine sr0 L 200 [] [] [] (S' := ⟨[(0, .cv (.str p0))], []⟩) ?_
 refine awp_seq ?_
 obtain ⟨o1, hp1, h⟩ := bind_some h
 refine awp_seq (awp_mono (Q' := fun e S => (e = .normal ∧ ∃ xt16_4 : Bool, S = ⟨[(0, .cv (.str p0)), (16, .B xt16_4)], []⟩ ∧ xt16_4 = o1)) ?_ ?_)
 ·clear h
  replace h := hp1
  rcases ite_some h with ⟨c1, h⟩ | ⟨c1, h⟩
  ·refine ar L 202 [(3, true)] [] [] (cs := [(decide ((p0.length : Int) > 5000)) = true]) (S' := ⟨[(0, .cv (.str p0)), (16, .B (decide ((p0.length : Int) ≤ 16384)))], []⟩) (decide_eq_true c1) ?_
   obtain rfl := Option.some.inj h
   exact ⟨rfl, _, rfl, rfl⟩
  refine ar L 202 [(3, false)] [] [] (cs := [(decide ((p0.length : Int) > 5000)) = false]) (S' := ⟨[(0, .cv (.str p0)), (16, .B false)], []⟩) (decide_eq_false c1) ?_
  obtain rfl := Option.some.inj h
  exact ⟨rfl, _, rfl, rfl⟩
 ·rintro e S ⟨rfl, xt16_4, rfl, rfl⟩
  rcases ite_some h with ⟨c2, h⟩ | ⟨c2, h⟩
  ·refine tt (b := xt16_4) (c2) ?_
   refine awp_seq ?_
   obtain ⟨a1, h1, h⟩ := bind_some h
   refine ar L 211 [] [(0, .B a1)] [] (cs := [PCall V P 10 [] (.B a1), True]) (S' := ⟨[(2, .B a1)], []⟩) (And.intro (workflowlaw07_works.ok h1) trivial) ?_
   refine awp_ret ?_
   obtain rfl := Option.some.inj h
   exact er (.B a1)
  refine ff (b := xt16_4) (eq_false_of_ne_true c2) ?_
  refine awp_skip' ?_
  refine awp_seq ?_
  obtain ⟨⟨a2_0, a2_1, a2_2⟩, h2, h⟩ := bind_some h
  dsimp only at h
  refine ar L 214 [] [(1, .tup [.cv (.ro .t_api_Token a2_0), .I a2_1, .I a2_2])] [] (cs := [PCall V P 11 [.cv (.str p0)] (.tup [.cv (.ro .t_api_Token a2_0), .I a2_1, .I a2_2]), True]) (S' := ⟨[(0, .cv (.str p0)), (3, .cv (.ro .t_api_Token a2_0)), (4, .I a2_1), (5, .I a2_2)], []⟩) (And.intro (token_Scan.ok h2) trivial) ?_
  refine awp_seq ?_
  obtain ⟨⟨a3_0, a3_1, a3_2⟩, h3, h⟩ := bind_some h
  dsimp only at h
  refine ar L 224 [] [(1, .tup [.cv (.ro .t_api_Token a3_0), .I a3_1, .I a3_2])] [] (cs := [PCall V P 12 [.cv (.str p0)] (.tup [.cv (.ro .t_api_Token a3_0), .I a3_1, .I a3_2]), True]) (S' := ⟨[(3, .cv (.ro .t_api_Token a2_0)), (4, .I a2_1), (5, .I a2_2), (6, .cv (.ro .t_api_Token a3_0)), (7, .I a3_1), (8, .I a3_2)], []⟩) (And.intro (workflowref07_Scan.ok h3) trivial) ?_
  refine awp_seq ?_
  obtain ⟨a4, h4, h⟩ := bind_some h
  rcases ite_some h with ⟨c3, h⟩ | ⟨c3, h⟩
  ·rcases ite_some h with ⟨c4, h⟩ | ⟨c4, h⟩
   ·rcases ite_some h with ⟨c5, h⟩ | ⟨c5, h⟩
    ·obtain ⟨a5, h5, h⟩ := bind_some h
     refine ar L 234 [(3, true), (8, true), (13, true)] [(2, .B a4), (14, .B a5)] [] (cs := [PCall V P 13 [.cv (.ro .t_api_Token a2_0), .cv (.ro .t_api_Token a3_0)] (.B a4), True, a4 = true, (decide (a2_1 = a3_1)) = true, (decide (a2_2 = a3_2)) = true, PCall V P 10 [] (.B a5), True]) (S' := ⟨[(2, .B a5)], []⟩) (And.intro (workflowlaw07_equal.ok h4) (And.intro trivial (And.intro c3 (And.intro (decide_eq_true c4) (And.intro (decide_eq_true c5) (And.intro (workflowlaw07_works.ok h5) trivial)))))) ?_
     refine awp_ret ?_
     obtain rfl := Option.some.inj h
     exact er (.B a5)
    refine ar L 234 [(3, true), (8, true), (13, false)] [(2, .B a4)] [] (cs := [PCall V P 13 [.cv (.ro .t_api_Token a2_0), .cv (.ro .t_api_Token a3_0)] (.B a4), True, a4 = true, (decide (a2_1 = a3_1)) = true, (decide (a2_2 = a3_2)) = false]) (S' := ⟨[(2, .B false)], []⟩) (And.intro (workflowlaw07_equal.ok h4) (And.intro trivial (And.intro c3 (And.intro (decide_eq_true c4) (decide_eq_false c5))))) ?_
    refine awp_ret ?_
    obtain rfl := Option.some.inj h
    exact er (.B false)
   refine ar L 234 [(3, true), (8, false)] [(2, .B a4)] [] (cs := [PCall V P 13 [.cv (.ro .t_api_Token a2_0), .cv (.ro .t_api_Token a3_0)] (.B a4), True, a4 = true, (decide (a2_1 = a3_1)) = false]) (S' := ⟨[(2, .B false)], []⟩) (And.intro (workflowlaw07_equal.ok h4) (And.intro trivial (And.intro c3 (decide_eq_false c4)))) ?_
   refine awp_ret ?_
   obtain rfl := Option.some.inj h
   exact er (.B false)
  refine ar L 234 [(3, false)] [(2, .B a4)] [] (cs := [PCall V P 13 [.cv (.ro .t_api_Token a2_0), .cv (.ro .t_api_Token a3_0)] (.B a4), True, a4 = false]) (S' := ⟨[(2, .B false)], []⟩) (And.intro (workflowlaw07_equal.ok h4) (And.intro trivial (eq_false_of_ne_true c3))) ?_
  refine awp_ret ?_
  obtain rfl := Option.some.inj h
  exact er (.B false)
theorem workflowlaw07_TokenScan.ok {K : Nat} {p0 : List UInt8} {r : Bool} (h : workflowlaw07_TokenScan K p0 = some r) : PCall V P 3 [.cv (.str p0)] (.B r) := ECall.pcall (eo (fn := Tryd.f3) (n := 46) (m := 100) fun Γ => workflowlaw07_TokenScan.body h) (by kernel_rfl)
def workflowlaw07_TokenWords (K : Nat) (p0 : List UInt8) : Option Bool := (Option.bind (token_Keyword K p0) (fun a1 => (Option.bind (workflowref07_Keyword K p0) (fun a2 => (if (a1 == a2) = true then (Option.bind (workflowlaw07_works K) (fun a3 => some a3)) else some false)))))
theorem workflowlaw07_TokenWords.body {Γ : Ent} {K : Nat} {p0 : List UInt8} {r : Bool} (h : workflowlaw07_TokenWords K p0 = some r) : AWp V P 11 100 Γ (Tryd.f4.body.getD .skip) (EndsE P V Tryd.f4 (.B r) []) ⟨args0 0 [.cv (.str p0)], []⟩ := by
 unfold workflowlaw07_TokenWords at h
 refine sr0 L 200 [] [] [] (S' := ⟨[(0, .cv (.str p0))], []⟩) ?_
 refine awp_seq ?_
 obtain ⟨a1, h1, h⟩ := bind_some h
 obtain ⟨a2, h2, h⟩ := bind_some h
 rcases ite_some h with ⟨c1, h⟩ | ⟨c1, h⟩
 ·obtain ⟨a3, h3, h⟩ := bind_some h
  refine ar L 202 [(5, true)] [(1, .B a1), (3, .B a2), (6, .B a3)] [] (cs := [PCall V P 14 [.cv (.str p0)] (.B a1), True, PCall V P 15 [.cv (.str p0)] (.B a2), True, (a1 == a2) = true, PCall V P 10 [] (.B a3), True]) (S' := ⟨[(2, .B a3)], []⟩) (And.intro (token_Keyword.ok h1) (And.intro trivial (And.intro (workflowref07_Keyword.ok h2) (And.intro trivial (And.intro c1 (And.intro (workflowlaw07_works.ok h3) trivial)))))) ?_
  refine awp_ret ?_
  obtain rfl := Option.some.inj h
  exact er (.B a3)
 refine ar L 202 [(5, false)] [(1, .B a1), (3, .B a2)] [] (cs := [PCall V P 14 [.cv (.str p0)] (.B a1), True, PCall V P 15 [.cv (.str p0)] (.B a2), True, (a1 == a2) = false]) (S' := ⟨[(2, .B false)], []⟩) (And.intro (token_Keyword.ok h1) (And.intro trivial (And.intro (workflowref07_Keyword.ok h2) (And.intro trivial (eq_false_of_ne_true c1))))) ?_
 refine awp_ret ?_
 obtain rfl := Option.some.inj h
 exact er (.B false)
theorem workflowlaw07_TokenWords.ok {K : Nat} {p0 : List UInt8} {r : Bool} (h : workflowlaw07_TokenWords K p0 = some r) : PCall V P 4 [.cv (.str p0)] (.B r) := ECall.pcall (eo (fn := Tryd.f4) (n := 11) (m := 100) fun Γ => workflowlaw07_TokenWords.body h) (by kernel_rfl)
def workflowlaw07_TokenLiteral (K : Nat) (p0 : List UInt8) : Option Bool := (if (p0.length : Int) > 500 then (Option.bind (workflowlaw07_works K) (fun a1 => some a1)) else (Option.bind (token_Quote K p0) (fun a2 => (Option.bind (token_Scan K a2) (fun (a3_0, a3_1, a3_2) => (if a3_2 = 0 then (if (a3_0.length : Int) = 2 then (if (0 : Int) < (a3_0.length : Int) then (if (((decide ((a3_0.getD (Int.toNat 0) z_api_Token).Kind = 4)) && ((decide ((a3_0.getD (Int.toNat 0) z_api_Token).At = 0)) && ((decide ((a3_0.getD (Int.toNat 0) z_api_Token).Text = p0)) && ((decide ((a3_0.getD (Int.toNat 0) z_api_Token).Int = 0)) && true))))) = true then (if (1 : Int) < (a3_0.length : Int) then (if (((decide ((a3_0.getD (Int.toNat 1) z_api_Token).Kind = 0)) && ((decide ((a3_0.getD (Int.toNat 1) z_api_Token).At = (a2.length : Int))) && ((decide ((a3_0.getD (Int.toNat 1) z_api_Token).Text = [])) && ((decide ((a3_0.getD (Int.toNat 1) z_api_Token).Int = 0)) && true))))) = true then (Option.bind (workflowlaw07_works K) (fun a4 => some a4)) else some false) else none) else some false) else none) else some false) else some false))))))
theorem workflowlaw07_TokenLiteral.body {Γ : Ent} {K : Nat} {p0 : List UInt8} {r : Bool} (h : workflowlaw07_TokenLiteral K p0 = some r) : AWp V P 46 100 Γ (Tryd.f5.body.getD .skip) (EndsE P V Tryd.f5 (.B r) []) ⟨args0 0 [.cv (.str p0)], []⟩ := by
 unfold workflowlaw07_TokenLiteral at h
 refine sr0 L 200 [] [] [] (S' := ⟨[(0, .cv (.str p0))], []⟩) ?_
 refine awp_seq ?_
 refine sr0 L 202 [] [] [] (S' := ⟨[(0, .cv (.str p0)), (9, .B (decide ((p0.length : Int) > 500)))], []⟩) ?_
 rcases ite_some h with ⟨c1, h⟩ | ⟨c1, h⟩
 ·refine tt (b := (decide ((p0.length : Int) > 500))) (decide_eq_true c1) ?_
  refine awp_seq ?_
  obtain ⟨a1, h1, h⟩ := bind_some h
  refine ar L 206 [] [(0, .B a1)] [] (cs := [PCall V P 10 [] (.B a1), True]) (S' := ⟨[(2, .B a1)], []⟩) (And.intro (workflowlaw07_works.ok h1) trivial) ?_
  refine awp_ret ?_
  obtain rfl := Option.some.inj h
  exact er (.B a1)
 refine ff (b := (decide ((p0.length : Int) > 500))) (decide_eq_false c1) ?_
 refine awp_skip' ?_
 refine awp_seq ?_
 obtain ⟨a2, h2, h⟩ := bind_some h
 refine ar L 209 [] [(1, .cv (.str a2))] [] (cs := [PCall V P 16 [.cv (.str p0)] (.cv (.str a2)), True]) (S' := ⟨[(0, .cv (.str p0)), (3, .cv (.str a2))], []⟩) (And.intro (token_Quote.ok h2) trivial) ?_
 refine awp_seq ?_
 obtain ⟨⟨a3_0, a3_1, a3_2⟩, h3, h⟩ := bind_some h
 dsimp only at h
 refine ar L 213 [] [(1, .tup [.cv (.ro .t_api_Token a3_0), .I a3_1, .I a3_2])] [] (cs := [PCall V P 11 [.cv (.str a2)] (.tup [.cv (.ro .t_api_Token a3_0), .I a3_1, .I a3_2]), True]) (S' := ⟨[(0, .cv (.str p0)), (3, .cv (.str a2)), (4, .cv (.ro .t_api_Token a3_0)), (6, .I a3_2)], []⟩) (And.intro (token_Scan.ok h3) trivial) ?_
 refine awp_seq ?_
 rcases ite_some h with ⟨c2, h⟩ | ⟨c2, h⟩
 ·rcases ite_some h with ⟨c3, h⟩ | ⟨c3, h⟩
  ·obtain ⟨g1, h⟩ := guard_some h
   rcases ite_some h with ⟨c4, h⟩ | ⟨c4, h⟩
   ·obtain ⟨g2, h⟩ := guard_some h
    rcases ite_some h with ⟨c5, h⟩ | ⟨c5, h⟩
    ·obtain ⟨a4, h4, h⟩ := bind_some h
     refine ar L 223 [(2, true), (7, true), (15, true), (24, true)] [(25, .B a4)] [] (cs := [(decide (a3_2 = 0)) = true, (decide ((a3_0.length : Int) = 2)) = true, (0 : Int) ≤ 0, (0 : Int) < (a3_0.length : Int), ((decide ((a3_0.getD (Int.toNat 0) z_api_Token).Kind = 4)) && ((decide ((a3_0.getD (Int.toNat 0) z_api_Token).At = 0)) && ((decide ((a3_0.getD (Int.toNat 0) z_api_Token).Text = p0)) && ((decide ((a3_0.getD (Int.toNat 0) z_api_Token).Int = 0)) && true)))) = true, (0 : Int) ≤ 1, (1 : Int) < (a3_0.length : Int), ((decide ((a3_0.getD (Int.toNat 1) z_api_Token).Kind = 0)) && ((decide ((a3_0.getD (Int.toNat 1) z_api_Token).At = (a2.length : Int))) && ((decide ((a3_0.getD (Int.toNat 1) z_api_Token).Text = [])) && ((decide ((a3_0.getD (Int.toNat 1) z_api_Token).Int = 0)) && true)))) = true, PCall V P 10 [] (.B a4), True]) (S' := ⟨[(2, .B a4)], []⟩) (And.intro (decide_eq_true c2) (And.intro (decide_eq_true c3) (And.intro (show (0 : Int) ≤ 0 from by decide) (And.intro g1 (And.intro c4 (And.intro (show (0 : Int) ≤ 1 from by decide) (And.intro g2 (And.intro c5 (And.intro (workflowlaw07_works.ok h4) trivial))))))))) ?_
     refine awp_ret ?_
     obtain rfl := Option.some.inj h
     exact er (.B a4)
    refine ar L 223 [(2, true), (7, true), (15, true), (24, false)] [] [] (cs := [(decide (a3_2 = 0)) = true, (decide ((a3_0.length : Int) = 2)) = true, (0 : Int) ≤ 0, (0 : Int) < (a3_0.length : Int), ((decide ((a3_0.getD (Int.toNat 0) z_api_Token).Kind = 4)) && ((decide ((a3_0.getD (Int.toNat 0) z_api_Token).At = 0)) && ((decide ((a3_0.getD (Int.toNat 0) z_api_Token).Text = p0)) && ((decide ((a3_0.getD (Int.toNat 0) z_api_Token).Int = 0)) && true)))) = true, (0 : Int) ≤ 1, (1 : Int) < (a3_0.length : Int), ((decide ((a3_0.getD (Int.toNat 1) z_api_Token).Kind = 0)) && ((decide ((a3_0.getD (Int.toNat 1) z_api_Token).At = (a2.length : Int))) && ((decide ((a3_0.getD (Int.toNat 1) z_api_Token).Text = [])) && ((decide ((a3_0.getD (Int.toNat 1) z_api_Token).Int = 0)) && true)))) = false]) (S' := ⟨[(2, .B false)], []⟩) (And.intro (decide_eq_true c2) (And.intro (decide_eq_true c3) (And.intro (show (0 : Int) ≤ 0 from by decide) (And.intro g1 (And.intro c4 (And.intro (show (0 : Int) ≤ 1 from by decide) (And.intro g2 (eq_false_of_ne_true c5)))))))) ?_
    refine awp_ret ?_
    obtain rfl := Option.some.inj h
    exact er (.B false)
   refine ar L 223 [(2, true), (7, true), (15, false)] [] [] (cs := [(decide (a3_2 = 0)) = true, (decide ((a3_0.length : Int) = 2)) = true, (0 : Int) ≤ 0, (0 : Int) < (a3_0.length : Int), ((decide ((a3_0.getD (Int.toNat 0) z_api_Token).Kind = 4)) && ((decide ((a3_0.getD (Int.toNat 0) z_api_Token).At = 0)) && ((decide ((a3_0.getD (Int.toNat 0) z_api_Token).Text = p0)) && ((decide ((a3_0.getD (Int.toNat 0) z_api_Token).Int = 0)) && true)))) = false]) (S' := ⟨[(2, .B false)], []⟩) (And.intro (decide_eq_true c2) (And.intro (decide_eq_true c3) (And.intro (show (0 : Int) ≤ 0 from by decide) (And.intro g1 (eq_false_of_ne_true c4))))) ?_
   refine awp_ret ?_
   obtain rfl := Option.some.inj h
   exact er (.B false)
  refine ar L 223 [(2, true), (7, false)] [] [] (cs := [(decide (a3_2 = 0)) = true, (decide ((a3_0.length : Int) = 2)) = false]) (S' := ⟨[(2, .B false)], []⟩) (And.intro (decide_eq_true c2) (decide_eq_false c3)) ?_
  refine awp_ret ?_
  obtain rfl := Option.some.inj h
  exact er (.B false)
 refine ar L 223 [(2, false)] [] [] (cs := [(decide (a3_2 = 0)) = false]) (S' := ⟨[(2, .B false)], []⟩) (decide_eq_false c2) ?_
 refine awp_ret ?_
 obtain rfl := Option.some.inj h
 exact er (.B false)
theorem workflowlaw07_TokenLiteral.ok {K : Nat} {p0 : List UInt8} {r : Bool} (h : workflowlaw07_TokenLiteral K p0 = some r) : PCall V P 5 [.cv (.str p0)] (.B r) := ECall.pcall (eo (fn := Tryd.f5) (n := 46) (m := 100) fun Γ => workflowlaw07_TokenLiteral.body h) (by kernel_rfl)
def workflowlaw07_TokenOffsets.l27 (K : Nat) (p0 : List UInt8) (a2_0 : List api_Token) : Nat → Int → Int → Option (Out Bool Unit)
 | 0, _, _ => none
 | k + 1, xt6_27h, xt25_27h => (if xt25_27h < (a2_0.length : Int) then (if (0 : Int) ≤ xt25_27h ∧ (xt25_27h : Int) < (a2_0.length : Int) then (obind (((if (a2_0.getD (Int.toNat xt25_27h) z_api_Token).At ≤ xt6_27h then (if xt25_27h = (IntKind.i64.wrap ((a2_0.length : Int) - 1)) then (if (a2_0.getD (Int.toNat xt25_27h) z_api_Token).At < xt6_27h then some (Out.done false) else (if (((decide (xt25_27h = (IntKind.i64.wrap ((a2_0.length : Int) - 1)))) == (decide ((a2_0.getD (Int.toNat xt25_27h) z_api_Token).Kind = 0)))) = true then (if (a2_0.getD (Int.toNat xt25_27h) z_api_Token).At ≠ (p0.length : Int) then some (Out.done false) else some (Out.go ())) else some (Out.done false))) else some (Out.done false)) else (if (a2_0.getD (Int.toNat xt25_27h) z_api_Token).At < xt6_27h then some (Out.done false) else (if (((decide (xt25_27h = (IntKind.i64.wrap ((a2_0.length : Int) - 1)))) == (decide ((a2_0.getD (Int.toNat xt25_27h) z_api_Token).Kind = 0)))) = true then (if xt25_27h = (IntKind.i64.wrap ((a2_0.length : Int) - 1)) then (if (a2_0.getD (Int.toNat xt25_27h) z_api_Token).At ≠ (p0.length : Int) then some (Out.done false) else some (Out.go ())) else some (Out.go ())) else some (Out.done false))))) : Option (Out Bool Unit)) Out.done (fun _ => (if xt25_27h = (IntKind.i64.wrap ((a2_0.length : Int) - 1)) then workflowlaw07_TokenOffsets.l27 K p0 a2_0 k ((a2_0.getD (Int.toNat xt25_27h) z_api_Token).At) (IntKind.i64.wrap (xt25_27h + 1)) else (if (a2_0.getD (Int.toNat xt25_27h) z_api_Token).At ≥ (p0.length : Int) then some (Out.done false) else (if (0 : Int) ≤ (a2_0.getD (Int.toNat xt25_27h) z_api_Token).At ∧ ((a2_0.getD (Int.toNat xt25_27h) z_api_Token).At : Int) < (p0.length : Int) then (if ((p0.getD (Int.toNat ((a2_0.getD (Int.toNat xt25_27h) z_api_Token).At)) 0).toNat : Int) = 32 then some (Out.done false) else (if ((p0.getD (Int.toNat ((a2_0.getD (Int.toNat xt25_27h) z_api_Token).At)) 0).toNat : Int) = 10 then some (Out.done false) else (if ((p0.getD (Int.toNat ((a2_0.getD (Int.toNat xt25_27h) z_api_Token).At)) 0).toNat : Int) = 9 then some (Out.done false) else workflowlaw07_TokenOffsets.l27 K p0 a2_0 k ((a2_0.getD (Int.toNat xt25_27h) z_api_Token).At) (IntKind.i64.wrap (xt25_27h + 1))))) else none))))) else none) else some (Out.go ()))
def workflowlaw07_TokenOffsets (K : Nat) (p0 : List UInt8) : Option Bool := (if (p0.length : Int) > 400 then (Option.bind (workflowlaw07_works K) (fun a1 => some a1)) else (Option.bind (token_Scan K p0) (fun (a2_0, a2_1, a2_2) => (if a2_2 ≠ 0 then (Option.bind (workflowlaw07_works K) (fun a3 => some a3)) else (obind (workflowlaw07_TokenOffsets.l27 K p0 a2_0 K (-1) 0 : Option (Out Bool Unit)) (fun r => r) (fun _ => (if (a2_0.length : Int) > 0 then (Option.bind (workflowlaw07_works K) (fun a4 => some a4)) else some false)))))))
theorem workflowlaw07_TokenOffsets.body {Γ : Ent} {K : Nat} {p0 : List UInt8} {r : Bool} (h : workflowlaw07_TokenOffsets K p0 = some r) : AWp V P 105 100 Γ (Tryd.f6.body.getD .skip) (EndsE P V Tryd.f6 (.B r) []) ⟨args0 0 [.cv (.str p0)], []⟩ := by
 unfold workflowlaw07_TokenOffsets at h
 refine sr0 L 200 [] [] [] (S' := ⟨[(0, .cv (.str p0))], []⟩) ?_
 refine awp_seq ?_
 refine sr0 L 202 [] [] [] (S' := ⟨[(0, .cv (.str p0)), (12, .B (decide ((p0.length : Int) > 400)))], []⟩) ?_
 rcases ite_some h with ⟨c1, h⟩ | ⟨c1, h⟩
 ·refine tt (b := (decide ((p0.length : Int) > 400))) (decide_eq_true c1) ?_
  refine awp_seq ?_
  obtain ⟨a1, h1, h⟩ := bind_some h
  refine ar L 206 [] [(0, .B a1)] [] (cs := [PCall V P 10 [] (.B a1), True]) (S' := ⟨[(2, .B a1)], []⟩) (And.intro (workflowlaw07_works.ok h1) trivial) ?_
  refine awp_ret ?_
  obtain rfl := Option.some.inj h
  exact er (.B a1)
 refine ff (b := (decide ((p0.length : Int) > 400))) (decide_eq_false c1) ?_
 refine awp_skip' ?_
 refine awp_seq ?_
 obtain ⟨⟨a2_0, a2_1, a2_2⟩, h2, h⟩ := bind_some h
 dsimp only at h
 refine ar L 209 [] [(1, .tup [.cv (.ro .t_api_Token a2_0), .I a2_1, .I a2_2])] [] (cs := [PCall V P 11 [.cv (.str p0)] (.tup [.cv (.ro .t_api_Token a2_0), .I a2_1, .I a2_2]), True]) (S' := ⟨[(0, .cv (.str p0)), (3, .cv (.ro .t_api_Token a2_0)), (5, .I a2_2)], []⟩) (And.intro (token_Scan.ok h2) trivial) ?_
 refine awp_seq ?_
 refine sr0 L 219 [] [] [] (S' := ⟨[(0, .cv (.str p0)), (3, .cv (.ro .t_api_Token a2_0)), (21, .B (decide (a2_2 ≠ 0)))], []⟩) ?_
 rcases ite_some h with ⟨c2, h⟩ | ⟨c2, h⟩
 ·refine tt (b := (decide (a2_2 ≠ 0))) (decide_eq_true c2) ?_
  refine awp_seq ?_
  obtain ⟨a3, h3, h⟩ := bind_some h
  refine ar L 222 [] [(0, .B a3)] [] (cs := [PCall V P 10 [] (.B a3), True]) (S' := ⟨[(2, .B a3)], []⟩) (And.intro (workflowlaw07_works.ok h3) trivial) ?_
  refine awp_ret ?_
  obtain rfl := Option.some.inj h
  exact er (.B a3)
 refine ff (b := (decide (a2_2 ≠ 0))) (decide_eq_false c2) ?_
 refine awp_skip' ?_
 refine sr0 L 225 [] [] [] (S' := ⟨[(0, .cv (.str p0)), (3, .cv (.ro .t_api_Token a2_0)), (6, .I (-1))], []⟩) ?_
 refine awp_seq ?_
 refine sr0 L 227 [] [] [] (S' := ⟨[(0, .cv (.str p0)), (3, .cv (.ro .t_api_Token a2_0)), (6, .I (-1)), (23, .cv (.ro .t_api_Token a2_0)), (24, .I (a2_0.length : Int)), (25, .I 0)], []⟩) ?_
 refine awp_block ?_
 refine kp (S' := ⟨[(0, .cv (.str p0)), (3, .cv (.ro .t_api_Token a2_0)), (6, .I (-1)), (23, .cv (.ro .t_api_Token a2_0)), (24, .I (a2_0.length : Int)), (25, .I 0)], []⟩) ?_
 obtain ⟨o2, hp2, h⟩ := obind_some h
 refine awp_conseq (Q' := fun e S => (e = .exit 0 ∧ S = ⟨[(3, .cv (.ro .t_api_Token a2_0))], []⟩ ∧ Out.go () = o2) ∨ (e = .ret ∧ ∃ a, Out.done a = o2 ∧ EndsE P V Tryd.f6 (.B a) [] .ret S)) (awp_loop (fun k S => ∃ xt6_27h : Int, ∃ xt25_27h : Int, S = ⟨[(0, .cv (.str p0)), (3, .cv (.ro .t_api_Token a2_0)), (6, .I xt6_27h), (23, .cv (.ro .t_api_Token a2_0)), (24, .I (a2_0.length : Int)), (25, .I xt25_27h)], []⟩ ∧ workflowlaw07_TokenOffsets.l27 K p0 a2_0 k xt6_27h xt25_27h = some o2) ?_ ⟨_, _, rfl, hp2⟩) ?_
 ·clear h hp2
  intro k S hS
  obtain ⟨xt6_27h, xt25_27h, rfl, h⟩ := hS
  cases k with
  | zero => cases h
  | succ k =>
  unfold workflowlaw07_TokenOffsets.l27 at h
  refine sr0 L 231 [] [] [] (S' := ⟨[(0, .cv (.str p0)), (3, .cv (.ro .t_api_Token a2_0)), (6, .I xt6_27h), (23, .cv (.ro .t_api_Token a2_0)), (24, .I (a2_0.length : Int)), (25, .I xt25_27h), (26, .B (decide (xt25_27h < (a2_0.length : Int))))], []⟩) ?_
  refine awp_seq ?_
  rcases ite_some h with ⟨c3, h⟩ | ⟨c3, h⟩
  ·refine tt (b := (decide (xt25_27h < (a2_0.length : Int)))) (decide_eq_true c3) ?_
   refine awp_skip' ?_
   refine awp_seq ?_
   refine awp_block ?_
   refine awp_seq ?_
   obtain ⟨g1, h⟩ := guard_some h
   refine ar L 233 [] [] [] (cs := [(0 : Int) ≤ xt25_27h, (xt25_27h : Int) < (a2_0.length : Int)]) (S' := ⟨[(0, .cv (.str p0)), (3, .cv (.ro .t_api_Token a2_0)), (6, .I xt6_27h), (7, .I xt25_27h), (8, .P 236), (23, .cv (.ro .t_api_Token a2_0)), (24, .I (a2_0.length : Int)), (25, .I xt25_27h)], [(236, .raw (d_api_Token (a2_0.getD (Int.toNat xt25_27h) z_api_Token)))]⟩) (And.intro g1.1 g1.2) ?_
   refine sr0 L 240 [] [] [] (S' := ⟨[(0, .cv (.str p0)), (3, .cv (.ro .t_api_Token a2_0)), (6, .I xt6_27h), (8, .P 236), (9, .B (decide (xt25_27h = (IntKind.i64.wrap ((a2_0.length : Int) - 1))))), (23, .cv (.ro .t_api_Token a2_0)), (24, .I (a2_0.length : Int)), (25, .I xt25_27h)], [(236, .raw (d_api_Token (a2_0.getD (Int.toNat xt25_27h) z_api_Token)))]⟩) ?_
   obtain ⟨o1, hp1, h⟩ := obind_some h
   refine awp_seq (awp_mono (Q' := fun e S => (e = .normal ∧ S = ⟨[(0, .cv (.str p0)), (3, .cv (.ro .t_api_Token a2_0)), (8, .P 28000), (9, .B (decide (xt25_27h = (IntKind.i64.wrap ((a2_0.length : Int) - 1))))), (23, .cv (.ro .t_api_Token a2_0)), (24, .I (a2_0.length : Int)), (25, .I xt25_27h)], [(28000, .raw (d_api_Token (a2_0.getD (Int.toNat xt25_27h) z_api_Token)))]⟩ ∧ Out.go () = o1) ∨ (e = .ret ∧ ∃ a, Out.done a = o1 ∧ EndsE P V Tryd.f6 (.B a) [] .ret S)) ?_ ?_)
   ·clear h
    replace h := hp1
    refine awp_seq ?_
    rcases ite_some h with ⟨c4, h⟩ | ⟨c4, h⟩
    ·rcases ite_some h with ⟨c5, h⟩ | ⟨c5, h⟩
     ·rcases ite_some h with ⟨c6, h⟩ | ⟨c6, h⟩
      ·refine ar L 247 [(4, true), (8, false), (14, true)] [] [] (cs := [(decide ((a2_0.getD (Int.toNat xt25_27h) z_api_Token).At ≤ xt6_27h)) = true, (!(decide (xt25_27h = (IntKind.i64.wrap ((a2_0.length : Int) - 1))))) = false, (decide ((a2_0.getD (Int.toNat xt25_27h) z_api_Token).At < xt6_27h)) = true]) (S' := ⟨[(0, .cv (.str p0)), (3, .cv (.ro .t_api_Token a2_0)), (8, .P 236), (9, .B (decide (xt25_27h = (IntKind.i64.wrap ((a2_0.length : Int) - 1))))), (23, .cv (.ro .t_api_Token a2_0)), (24, .I (a2_0.length : Int)), (25, .I xt25_27h), (65, .B true)], [(236, .raw (d_api_Token (a2_0.getD (Int.toNat xt25_27h) z_api_Token)))]⟩) (And.intro (decide_eq_true c4) (And.intro (congrArg Bool.not (decide_eq_true c5)) (decide_eq_true c6))) ?_
       refine tt (b := true) (rfl) ?_
       refine sr0 L 279 [] [] [] (S' := ⟨[(2, .B false)], []⟩) ?_
       refine awp_ret ?_
       obtain rfl := Option.some.inj h
       exact .inr ⟨rfl, _, rfl, er (.B false)⟩
      rcases ite_some h with ⟨c7, h⟩ | ⟨c7, h⟩
      ·refine ar L 247 [(4, true), (8, false), (14, false), (21, false), (23, true)] [] [] (cs := [(decide ((a2_0.getD (Int.toNat xt25_27h) z_api_Token).At ≤ xt6_27h)) = true, (!(decide (xt25_27h = (IntKind.i64.wrap ((a2_0.length : Int) - 1))))) = false, (decide ((a2_0.getD (Int.toNat xt25_27h) z_api_Token).At < xt6_27h)) = false, (!(((decide (xt25_27h = (IntKind.i64.wrap ((a2_0.length : Int) - 1)))) == (decide ((a2_0.getD (Int.toNat xt25_27h) z_api_Token).Kind = 0))))) = false, (decide (xt25_27h = (IntKind.i64.wrap ((a2_0.length : Int) - 1)))) = true]) (S' := ⟨[(0, .cv (.str p0)), (3, .cv (.ro .t_api_Token a2_0)), (8, .P 236), (9, .B (decide (xt25_27h = (IntKind.i64.wrap ((a2_0.length : Int) - 1))))), (23, .cv (.ro .t_api_Token a2_0)), (24, .I (a2_0.length : Int)), (25, .I xt25_27h), (65, .B (decide ((a2_0.getD (Int.toNat xt25_27h) z_api_Token).At ≠ (p0.length : Int))))], [(236, .raw (d_api_Token (a2_0.getD (Int.toNat xt25_27h) z_api_Token)))]⟩) (And.intro (decide_eq_true c4) (And.intro (congrArg Bool.not (decide_eq_true c5)) (And.intro (decide_eq_false c6) (And.intro (congrArg Bool.not (c7)) (decide_eq_true c5))))) ?_
       rcases ite_some h with ⟨c8, h⟩ | ⟨c8, h⟩
       ·refine tt (b := (decide ((a2_0.getD (Int.toNat xt25_27h) z_api_Token).At ≠ (p0.length : Int)))) (decide_eq_true c8) ?_
        refine sr0 L 279 [] [] [] (S' := ⟨[(2, .B false)], []⟩) ?_
        refine awp_ret ?_
        obtain rfl := Option.some.inj h
        exact .inr ⟨rfl, _, rfl, er (.B false)⟩
       refine ff (b := (decide ((a2_0.getD (Int.toNat xt25_27h) z_api_Token).At ≠ (p0.length : Int)))) (decide_eq_false c8) ?_
       refine awp_turn (Turns.trans (Turns.kp (S' := ⟨[(0, .cv (.str p0)), (3, .cv (.ro .t_api_Token a2_0)), (8, .P 236), (9, .B (decide (xt25_27h = (IntKind.i64.wrap ((a2_0.length : Int) - 1))))), (23, .cv (.ro .t_api_Token a2_0)), (24, .I (a2_0.length : Int)), (25, .I xt25_27h)], [(236, .raw (d_api_Token (a2_0.getD (Int.toNat xt25_27h) z_api_Token)))]⟩)) (Turns.rn [(236, 28000)] (S' := ⟨[(0, .cv (.str p0)), (3, .cv (.ro .t_api_Token a2_0)), (8, .P 28000), (9, .B (decide (xt25_27h = (IntKind.i64.wrap ((a2_0.length : Int) - 1))))), (23, .cv (.ro .t_api_Token a2_0)), (24, .I (a2_0.length : Int)), (25, .I xt25_27h)], [(28000, .raw (d_api_Token (a2_0.getD (Int.toNat xt25_27h) z_api_Token)))]⟩))) ?_
       refine sk (S' := ⟨[(0, .cv (.str p0)), (3, .cv (.ro .t_api_Token a2_0)), (8, .P 28000), (9, .B (decide (xt25_27h = (IntKind.i64.wrap ((a2_0.length : Int) - 1))))), (23, .cv (.ro .t_api_Token a2_0)), (24, .I (a2_0.length : Int)), (25, .I xt25_27h)], [(28000, .raw (d_api_Token (a2_0.getD (Int.toNat xt25_27h) z_api_Token)))]⟩) ?_
       obtain rfl := Option.some.inj h
       exact .inl ⟨rfl, rfl, rfl⟩
      refine ar L 247 [(4, true), (8, false), (14, false), (21, true)] [] [] (cs := [(decide ((a2_0.getD (Int.toNat xt25_27h) z_api_Token).At ≤ xt6_27h)) = true, (!(decide (xt25_27h = (IntKind.i64.wrap ((a2_0.length : Int) - 1))))) = false, (decide ((a2_0.getD (Int.toNat xt25_27h) z_api_Token).At < xt6_27h)) = false, (!(((decide (xt25_27h = (IntKind.i64.wrap ((a2_0.length : Int) - 1)))) == (decide ((a2_0.getD (Int.toNat xt25_27h) z_api_Token).Kind = 0))))) = true]) (S' := ⟨[(0, .cv (.str p0)), (3, .cv (.ro .t_api_Token a2_0)), (8, .P 236), (9, .B (decide (xt25_27h = (IntKind.i64.wrap ((a2_0.length : Int) - 1))))), (23, .cv (.ro .t_api_Token a2_0)), (24, .I (a2_0.length : Int)), (25, .I xt25_27h), (65, .B true)], [(236, .raw (d_api_Token (a2_0.getD (Int.toNat xt25_27h) z_api_Token)))]⟩) (And.intro (decide_eq_true c4) (And.intro (congrArg Bool.not (decide_eq_true c5)) (And.intro (decide_eq_false c6) (congrArg Bool.not (eq_false_of_ne_true c7))))) ?_
      refine tt (b := true) (rfl) ?_
      refine sr0 L 279 [] [] [] (S' := ⟨[(2, .B false)], []⟩) ?_
      refine awp_ret ?_
      obtain rfl := Option.some.inj h
      exact .inr ⟨rfl, _, rfl, er (.B false)⟩
     refine ar L 247 [(4, true), (8, true)] [] [] (cs := [(decide ((a2_0.getD (Int.toNat xt25_27h) z_api_Token).At ≤ xt6_27h)) = true, (!(decide (xt25_27h = (IntKind.i64.wrap ((a2_0.length : Int) - 1))))) = true]) (S' := ⟨[(0, .cv (.str p0)), (3, .cv (.ro .t_api_Token a2_0)), (8, .P 236), (9, .B (decide (xt25_27h = (IntKind.i64.wrap ((a2_0.length : Int) - 1))))), (23, .cv (.ro .t_api_Token a2_0)), (24, .I (a2_0.length : Int)), (25, .I xt25_27h), (65, .B true)], [(236, .raw (d_api_Token (a2_0.getD (Int.toNat xt25_27h) z_api_Token)))]⟩) (And.intro (decide_eq_true c4) (congrArg Bool.not (decide_eq_false c5))) ?_
     refine tt (b := true) (rfl) ?_
     refine sr0 L 279 [] [] [] (S' := ⟨[(2, .B false)], []⟩) ?_
     refine awp_ret ?_
     obtain rfl := Option.some.inj h
     exact .inr ⟨rfl, _, rfl, er (.B false)⟩
    rcases ite_some h with ⟨c9, h⟩ | ⟨c9, h⟩
    ·refine ar L 247 [(4, false), (14, true)] [] [] (cs := [(decide ((a2_0.getD (Int.toNat xt25_27h) z_api_Token).At ≤ xt6_27h)) = false, (decide ((a2_0.getD (Int.toNat xt25_27h) z_api_Token).At < xt6_27h)) = true]) (S' := ⟨[(0, .cv (.str p0)), (3, .cv (.ro .t_api_Token a2_0)), (8, .P 236), (9, .B (decide (xt25_27h = (IntKind.i64.wrap ((a2_0.length : Int) - 1))))), (23, .cv (.ro .t_api_Token a2_0)), (24, .I (a2_0.length : Int)), (25, .I xt25_27h), (65, .B true)], [(236, .raw (d_api_Token (a2_0.getD (Int.toNat xt25_27h) z_api_Token)))]⟩) (And.intro (decide_eq_false c4) (decide_eq_true c9)) ?_
     refine tt (b := true) (rfl) ?_
     refine sr0 L 279 [] [] [] (S' := ⟨[(2, .B false)], []⟩) ?_
     refine awp_ret ?_
     obtain rfl := Option.some.inj h
     exact .inr ⟨rfl, _, rfl, er (.B false)⟩
    rcases ite_some h with ⟨c10, h⟩ | ⟨c10, h⟩
    ·rcases ite_some h with ⟨c11, h⟩ | ⟨c11, h⟩
     ·refine ar L 247 [(4, false), (14, false), (21, false), (23, true)] [] [] (cs := [(decide ((a2_0.getD (Int.toNat xt25_27h) z_api_Token).At ≤ xt6_27h)) = false, (decide ((a2_0.getD (Int.toNat xt25_27h) z_api_Token).At < xt6_27h)) = false, (!(((decide (xt25_27h = (IntKind.i64.wrap ((a2_0.length : Int) - 1)))) == (decide ((a2_0.getD (Int.toNat xt25_27h) z_api_Token).Kind = 0))))) = false, (decide (xt25_27h = (IntKind.i64.wrap ((a2_0.length : Int) - 1)))) = true]) (S' := ⟨[(0, .cv (.str p0)), (3, .cv (.ro .t_api_Token a2_0)), (8, .P 236), (9, .B (decide (xt25_27h = (IntKind.i64.wrap ((a2_0.length : Int) - 1))))), (23, .cv (.ro .t_api_Token a2_0)), (24, .I (a2_0.length : Int)), (25, .I xt25_27h), (65, .B (decide ((a2_0.getD (Int.toNat xt25_27h) z_api_Token).At ≠ (p0.length : Int))))], [(236, .raw (d_api_Token (a2_0.getD (Int.toNat xt25_27h) z_api_Token)))]⟩) (And.intro (decide_eq_false c4) (And.intro (decide_eq_false c9) (And.intro (congrArg Bool.not (c10)) (decide_eq_true c11)))) ?_
      rcases ite_some h with ⟨c12, h⟩ | ⟨c12, h⟩
      ·refine tt (b := (decide ((a2_0.getD (Int.toNat xt25_27h) z_api_Token).At ≠ (p0.length : Int)))) (decide_eq_true c12) ?_
       refine sr0 L 279 [] [] [] (S' := ⟨[(2, .B false)], []⟩) ?_
       refine awp_ret ?_
       obtain rfl := Option.some.inj h
       exact .inr ⟨rfl, _, rfl, er (.B false)⟩
      refine ff (b := (decide ((a2_0.getD (Int.toNat xt25_27h) z_api_Token).At ≠ (p0.length : Int)))) (decide_eq_false c12) ?_
      refine awp_turn (Turns.trans (Turns.kp (S' := ⟨[(0, .cv (.str p0)), (3, .cv (.ro .t_api_Token a2_0)), (8, .P 236), (9, .B (decide (xt25_27h = (IntKind.i64.wrap ((a2_0.length : Int) - 1))))), (23, .cv (.ro .t_api_Token a2_0)), (24, .I (a2_0.length : Int)), (25, .I xt25_27h)], [(236, .raw (d_api_Token (a2_0.getD (Int.toNat xt25_27h) z_api_Token)))]⟩)) (Turns.rn [(236, 28000)] (S' := ⟨[(0, .cv (.str p0)), (3, .cv (.ro .t_api_Token a2_0)), (8, .P 28000), (9, .B (decide (xt25_27h = (IntKind.i64.wrap ((a2_0.length : Int) - 1))))), (23, .cv (.ro .t_api_Token a2_0)), (24, .I (a2_0.length : Int)), (25, .I xt25_27h)], [(28000, .raw (d_api_Token (a2_0.getD (Int.toNat xt25_27h) z_api_Token)))]⟩))) ?_
      refine sk (S' := ⟨[(0, .cv (.str p0)), (3, .cv (.ro .t_api_Token a2_0)), (8, .P 28000), (9, .B (decide (xt25_27h = (IntKind.i64.wrap ((a2_0.length : Int) - 1))))), (23, .cv (.ro .t_api_Token a2_0)), (24, .I (a2_0.length : Int)), (25, .I xt25_27h)], [(28000, .raw (d_api_Token (a2_0.getD (Int.toNat xt25_27h) z_api_Token)))]⟩) ?_
      obtain rfl := Option.some.inj h
      exact .inl ⟨rfl, rfl, rfl⟩
     refine ar L 247 [(4, false), (14, false), (21, false), (23, false)] [] [] (cs := [(decide ((a2_0.getD (Int.toNat xt25_27h) z_api_Token).At ≤ xt6_27h)) = false, (decide ((a2_0.getD (Int.toNat xt25_27h) z_api_Token).At < xt6_27h)) = false, (!(((decide (xt25_27h = (IntKind.i64.wrap ((a2_0.length : Int) - 1)))) == (decide ((a2_0.getD (Int.toNat xt25_27h) z_api_Token).Kind = 0))))) = false, (decide (xt25_27h = (IntKind.i64.wrap ((a2_0.length : Int) - 1)))) = false]) (S' := ⟨[(0, .cv (.str p0)), (3, .cv (.ro .t_api_Token a2_0)), (8, .P 236), (9, .B (decide (xt25_27h = (IntKind.i64.wrap ((a2_0.length : Int) - 1))))), (23, .cv (.ro .t_api_Token a2_0)), (24, .I (a2_0.length : Int)), (25, .I xt25_27h), (65, .B false)], [(236, .raw (d_api_Token (a2_0.getD (Int.toNat xt25_27h) z_api_Token)))]⟩) (And.intro (decide_eq_false c4) (And.intro (decide_eq_false c9) (And.intro (congrArg Bool.not (c10)) (decide_eq_false c11)))) ?_
     refine ff (b := false) (rfl) ?_
     refine awp_turn (Turns.trans (Turns.kp (S' := ⟨[(0, .cv (.str p0)), (3, .cv (.ro .t_api_Token a2_0)), (8, .P 236), (9, .B (decide (xt25_27h = (IntKind.i64.wrap ((a2_0.length : Int) - 1))))), (23, .cv (.ro .t_api_Token a2_0)), (24, .I (a2_0.length : Int)), (25, .I xt25_27h)], [(236, .raw (d_api_Token (a2_0.getD (Int.toNat xt25_27h) z_api_Token)))]⟩)) (Turns.rn [(236, 28000)] (S' := ⟨[(0, .cv (.str p0)), (3, .cv (.ro .t_api_Token a2_0)), (8, .P 28000), (9, .B (decide (xt25_27h = (IntKind.i64.wrap ((a2_0.length : Int) - 1))))), (23, .cv (.ro .t_api_Token a2_0)), (24, .I (a2_0.length : Int)), (25, .I xt25_27h)], [(28000, .raw (d_api_Token (a2_0.getD (Int.toNat xt25_27h) z_api_Token)))]⟩))) ?_
     refine sk (S' := ⟨[(0, .cv (.str p0)), (3, .cv (.ro .t_api_Token a2_0)), (8, .P 28000), (9, .B (decide (xt25_27h = (IntKind.i64.wrap ((a2_0.length : Int) - 1))))), (23, .cv (.ro .t_api_Token a2_0)), (24, .I (a2_0.length : Int)), (25, .I xt25_27h)], [(28000, .raw (d_api_Token (a2_0.getD (Int.toNat xt25_27h) z_api_Token)))]⟩) ?_
     obtain rfl := Option.some.inj h
     exact .inl ⟨rfl, rfl, rfl⟩
    refine ar L 247 [(4, false), (14, false), (21, true)] [] [] (cs := [(decide ((a2_0.getD (Int.toNat xt25_27h) z_api_Token).At ≤ xt6_27h)) = false, (decide ((a2_0.getD (Int.toNat xt25_27h) z_api_Token).At < xt6_27h)) = false, (!(((decide (xt25_27h = (IntKind.i64.wrap ((a2_0.length : Int) - 1)))) == (decide ((a2_0.getD (Int.toNat xt25_27h) z_api_Token).Kind = 0))))) = true]) (S' := ⟨[(0, .cv (.str p0)), (3, .cv (.ro .t_api_Token a2_0)), (8, .P 236), (9, .B (decide (xt25_27h = (IntKind.i64.wrap ((a2_0.length : Int) - 1))))), (23, .cv (.ro .t_api_Token a2_0)), (24, .I (a2_0.length : Int)), (25, .I xt25_27h), (65, .B true)], [(236, .raw (d_api_Token (a2_0.getD (Int.toNat xt25_27h) z_api_Token)))]⟩) (And.intro (decide_eq_false c4) (And.intro (decide_eq_false c9) (congrArg Bool.not (eq_false_of_ne_true c10)))) ?_
    refine tt (b := true) (rfl) ?_
    refine sr0 L 279 [] [] [] (S' := ⟨[(2, .B false)], []⟩) ?_
    refine awp_ret ?_
    obtain rfl := Option.some.inj h
    exact .inr ⟨rfl, _, rfl, er (.B false)⟩
   ·rintro e S (⟨rfl, rfl, rfl⟩ | ⟨rfl, a, rfl, hr⟩)
    ·rcases h with ⟨_, e1, h⟩ | ⟨_, e1, h⟩
     ·cases e1
     ·have e2 := Out.go.inj e1
      subst e2
      refine awp_seq ?_
      refine awp_seq ?_
      rcases ite_some h with ⟨c13, h⟩ | ⟨c13, h⟩
      ·refine ar L 281 [(2, false)] [] [] (cs := [(!(decide (xt25_27h = (IntKind.i64.wrap ((a2_0.length : Int) - 1))))) = false]) (S' := ⟨[(0, .cv (.str p0)), (3, .cv (.ro .t_api_Token a2_0)), (8, .P 28000), (23, .cv (.ro .t_api_Token a2_0)), (24, .I (a2_0.length : Int)), (25, .I xt25_27h), (95, .B false)], [(28000, .raw (d_api_Token (a2_0.getD (Int.toNat xt25_27h) z_api_Token)))]⟩) (congrArg Bool.not (decide_eq_true c13)) ?_
       refine ff (b := false) (rfl) ?_
       refine awp_skip' ?_
       refine ar0 L 314 [] [] [] (S' := ⟨[(0, .cv (.str p0)), (3, .cv (.ro .t_api_Token a2_0)), (6, .I ((a2_0.getD (Int.toNat xt25_27h) z_api_Token).At)), (23, .cv (.ro .t_api_Token a2_0)), (24, .I (a2_0.length : Int)), (25, .I xt25_27h)], []⟩) ?_
       refine ar0 L 318 [] [] [] (S' := ⟨[(0, .cv (.str p0)), (3, .cv (.ro .t_api_Token a2_0)), (6, .I ((a2_0.getD (Int.toNat xt25_27h) z_api_Token).At)), (23, .cv (.ro .t_api_Token a2_0)), (24, .I (a2_0.length : Int)), (25, .I (IntKind.i64.wrap (xt25_27h + 1)))], []⟩) ?_
       exact ⟨k, Nat.lt_succ_self k, _, _, rfl, h⟩
      rcases ite_some h with ⟨c14, h⟩ | ⟨c14, h⟩
      ·refine ar L 281 [(2, true), (8, true)] [] [] (cs := [(!(decide (xt25_27h = (IntKind.i64.wrap ((a2_0.length : Int) - 1))))) = true, (decide ((a2_0.getD (Int.toNat xt25_27h) z_api_Token).At ≥ (p0.length : Int))) = true]) (S' := ⟨[(0, .cv (.str p0)), (3, .cv (.ro .t_api_Token a2_0)), (8, .P 28000), (23, .cv (.ro .t_api_Token a2_0)), (24, .I (a2_0.length : Int)), (25, .I xt25_27h), (95, .B true)], [(28000, .raw (d_api_Token (a2_0.getD (Int.toNat xt25_27h) z_api_Token)))]⟩) (And.intro (congrArg Bool.not (decide_eq_false c13)) (decide_eq_true c14)) ?_
       refine tt (b := true) (rfl) ?_
       refine sr0 L 312 [] [] [] (S' := ⟨[(2, .B false)], []⟩) ?_
       refine awp_ret ?_
       obtain rfl := Option.some.inj h
       exact .inr ⟨rfl, _, rfl, er (.B false)⟩
      obtain ⟨g2, h⟩ := guard_some h
      rcases ite_some h with ⟨c15, h⟩ | ⟨c15, h⟩
      ·refine ar L 281 [(2, true), (8, false), (15, true)] [] [] (cs := [(!(decide (xt25_27h = (IntKind.i64.wrap ((a2_0.length : Int) - 1))))) = true, (decide ((a2_0.getD (Int.toNat xt25_27h) z_api_Token).At ≥ (p0.length : Int))) = false, (0 : Int) ≤ (a2_0.getD (Int.toNat xt25_27h) z_api_Token).At, ((a2_0.getD (Int.toNat xt25_27h) z_api_Token).At : Int) < (p0.length : Int), (decide (((p0.getD (Int.toNat ((a2_0.getD (Int.toNat xt25_27h) z_api_Token).At)) 0).toNat : Int) = 32)) = true]) (S' := ⟨[(0, .cv (.str p0)), (3, .cv (.ro .t_api_Token a2_0)), (8, .P 28000), (23, .cv (.ro .t_api_Token a2_0)), (24, .I (a2_0.length : Int)), (25, .I xt25_27h), (95, .B true)], [(28000, .raw (d_api_Token (a2_0.getD (Int.toNat xt25_27h) z_api_Token)))]⟩) (And.intro (congrArg Bool.not (decide_eq_false c13)) (And.intro (decide_eq_false c14) (And.intro g2.1 (And.intro g2.2 (decide_eq_true c15))))) ?_
       refine tt (b := true) (rfl) ?_
       refine sr0 L 312 [] [] [] (S' := ⟨[(2, .B false)], []⟩) ?_
       refine awp_ret ?_
       obtain rfl := Option.some.inj h
       exact .inr ⟨rfl, _, rfl, er (.B false)⟩
      rcases ite_some h with ⟨c16, h⟩ | ⟨c16, h⟩
      ·refine ar L 281 [(2, true), (8, false), (15, false), (22, true)] [] [] (cs := [(!(decide (xt25_27h = (IntKind.i64.wrap ((a2_0.length : Int) - 1))))) = true, (decide ((a2_0.getD (Int.toNat xt25_27h) z_api_Token).At ≥ (p0.length : Int))) = false, (0 : Int) ≤ (a2_0.getD (Int.toNat xt25_27h) z_api_Token).At, ((a2_0.getD (Int.toNat xt25_27h) z_api_Token).At : Int) < (p0.length : Int), (decide (((p0.getD (Int.toNat ((a2_0.getD (Int.toNat xt25_27h) z_api_Token).At)) 0).toNat : Int) = 32)) = false, (0 : Int) ≤ (a2_0.getD (Int.toNat xt25_27h) z_api_Token).At, ((a2_0.getD (Int.toNat xt25_27h) z_api_Token).At : Int) < (p0.length : Int), (decide (((p0.getD (Int.toNat ((a2_0.getD (Int.toNat xt25_27h) z_api_Token).At)) 0).toNat : Int) = 10)) = true]) (S' := ⟨[(0, .cv (.str p0)), (3, .cv (.ro .t_api_Token a2_0)), (8, .P 28000), (23, .cv (.ro .t_api_Token a2_0)), (24, .I (a2_0.length : Int)), (25, .I xt25_27h), (95, .B true)], [(28000, .raw (d_api_Token (a2_0.getD (Int.toNat xt25_27h) z_api_Token)))]⟩) (And.intro (congrArg Bool.not (decide_eq_false c13)) (And.intro (decide_eq_false c14) (And.intro g2.1 (And.intro g2.2 (And.intro (decide_eq_false c15) (And.intro g2.1 (And.intro g2.2 (decide_eq_true c16)))))))) ?_
       refine tt (b := true) (rfl) ?_
       refine sr0 L 312 [] [] [] (S' := ⟨[(2, .B false)], []⟩) ?_
       refine awp_ret ?_
       obtain rfl := Option.some.inj h
       exact .inr ⟨rfl, _, rfl, er (.B false)⟩
      refine ar L 281 [(2, true), (8, false), (15, false), (22, false)] [] [] (cs := [(!(decide (xt25_27h = (IntKind.i64.wrap ((a2_0.length : Int) - 1))))) = true, (decide ((a2_0.getD (Int.toNat xt25_27h) z_api_Token).At ≥ (p0.length : Int))) = false, (0 : Int) ≤ (a2_0.getD (Int.toNat xt25_27h) z_api_Token).At, ((a2_0.getD (Int.toNat xt25_27h) z_api_Token).At : Int) < (p0.length : Int), (decide (((p0.getD (Int.toNat ((a2_0.getD (Int.toNat xt25_27h) z_api_Token).At)) 0).toNat : Int) = 32)) = false, (0 : Int) ≤ (a2_0.getD (Int.toNat xt25_27h) z_api_Token).At, ((a2_0.getD (Int.toNat xt25_27h) z_api_Token).At : Int) < (p0.length : Int), (decide (((p0.getD (Int.toNat ((a2_0.getD (Int.toNat xt25_27h) z_api_Token).At)) 0).toNat : Int) = 10)) = false, (0 : Int) ≤ (a2_0.getD (Int.toNat xt25_27h) z_api_Token).At, ((a2_0.getD (Int.toNat xt25_27h) z_api_Token).At : Int) < (p0.length : Int)]) (S' := ⟨[(0, .cv (.str p0)), (3, .cv (.ro .t_api_Token a2_0)), (8, .P 28000), (23, .cv (.ro .t_api_Token a2_0)), (24, .I (a2_0.length : Int)), (25, .I xt25_27h), (95, .B ((decide (((p0.getD (Int.toNat ((a2_0.getD (Int.toNat xt25_27h) z_api_Token).At)) 0).toNat : Int) = 9))))], [(28000, .raw (d_api_Token (a2_0.getD (Int.toNat xt25_27h) z_api_Token)))]⟩) (And.intro (congrArg Bool.not (decide_eq_false c13)) (And.intro (decide_eq_false c14) (And.intro g2.1 (And.intro g2.2 (And.intro (decide_eq_false c15) (And.intro g2.1 (And.intro g2.2 (And.intro (decide_eq_false c16) (And.intro g2.1 g2.2))))))))) ?_
      rcases ite_some h with ⟨c17, h⟩ | ⟨c17, h⟩
      ·refine tt (b := (decide (((p0.getD (Int.toNat ((a2_0.getD (Int.toNat xt25_27h) z_api_Token).At)) 0).toNat : Int) = 9))) (decide_eq_true c17) ?_
       refine sr0 L 312 [] [] [] (S' := ⟨[(2, .B false)], []⟩) ?_
       refine awp_ret ?_
       obtain rfl := Option.some.inj h
       exact .inr ⟨rfl, _, rfl, er (.B false)⟩
      refine ff (b := (decide (((p0.getD (Int.toNat ((a2_0.getD (Int.toNat xt25_27h) z_api_Token).At)) 0).toNat : Int) = 9))) (decide_eq_false c17) ?_
      refine awp_skip' ?_
      refine ar0 L 314 [] [] [] (S' := ⟨[(0, .cv (.str p0)), (3, .cv (.ro .t_api_Token a2_0)), (6, .I ((a2_0.getD (Int.toNat xt25_27h) z_api_Token).At)), (23, .cv (.ro .t_api_Token a2_0)), (24, .I (a2_0.length : Int)), (25, .I xt25_27h)], []⟩) ?_
      refine ar0 L 318 [] [] [] (S' := ⟨[(0, .cv (.str p0)), (3, .cv (.ro .t_api_Token a2_0)), (6, .I ((a2_0.getD (Int.toNat xt25_27h) z_api_Token).At)), (23, .cv (.ro .t_api_Token a2_0)), (24, .I (a2_0.length : Int)), (25, .I (IntKind.i64.wrap (xt25_27h + 1)))], []⟩) ?_
      exact ⟨k, Nat.lt_succ_self k, _, _, rfl, h⟩
    ·rcases h with ⟨_, e1, h⟩ | ⟨_, e1, h⟩
     ·have e2 := Out.done.inj e1
      subst e2
      subst h
      exact .inr ⟨rfl, _, rfl, hr⟩
     ·cases e1
  refine ff (b := (decide (xt25_27h < (a2_0.length : Int)))) (decide_eq_false c3) ?_
  refine ex (S' := ⟨[(3, .cv (.ro .t_api_Token a2_0))], []⟩) ?_
  obtain rfl := Option.some.inj h
  exact .inl ⟨rfl, rfl, rfl⟩
 ·rintro e S (⟨rfl, rfl, rfl⟩ | ⟨rfl, a, rfl, hr⟩)
  ·rcases h with ⟨_, e1, h⟩ | ⟨_, e1, h⟩
   ·cases e1
   ·have e2 := Out.go.inj e1
    subst e2
    refine ⟨_, Turns.refl, ?_⟩
    refine awp_seq ?_
    rcases ite_some h with ⟨c18, h⟩ | ⟨c18, h⟩
    ·obtain ⟨a4, h4, h⟩ := bind_some h
     refine ar L 321 [(3, true)] [(4, .B a4)] [] (cs := [(decide ((a2_0.length : Int) > 0)) = true, PCall V P 10 [] (.B a4), True]) (S' := ⟨[(2, .B a4)], []⟩) (And.intro (decide_eq_true c18) (And.intro (workflowlaw07_works.ok h4) trivial)) ?_
     refine awp_ret ?_
     obtain rfl := Option.some.inj h
     exact er (.B a4)
    refine ar L 321 [(3, false)] [] [] (cs := [(decide ((a2_0.length : Int) > 0)) = false]) (S' := ⟨[(2, .B false)], []⟩) (decide_eq_false c18) ?_
    refine awp_ret ?_
    obtain rfl := Option.some.inj h
    exact er (.B false)
  ·rcases h with ⟨_, e1, h⟩ | ⟨_, e1, h⟩
   ·have e2 := Out.done.inj e1
    subst e2
    subst h
    exact ⟨_, Turns.refl, hr⟩
   ·cases e1
theorem workflowlaw07_TokenOffsets.ok {K : Nat} {p0 : List UInt8} {r : Bool} (h : workflowlaw07_TokenOffsets K p0 = some r) : PCall V P 6 [.cv (.str p0)] (.B r) := ECall.pcall (eo (fn := Tryd.f6) (n := 105) (m := 100) fun Γ => workflowlaw07_TokenOffsets.body h) (by kernel_rfl)
def workflowlaw07_same.l15 (K : Nat) (p0 : List api_Token) (p1 : List api_Token) : Nat → Int → Option (Out Bool Unit)
 | 0, _ => none
 | k + 1, xt13_15h => (if xt13_15h < (p0.length : Int) then (if (0 : Int) ≤ xt13_15h ∧ (xt13_15h : Int) < (p0.length : Int) then (if (xt13_15h : Int) < (p1.length : Int) then (if (p0.getD (Int.toNat xt13_15h) z_api_Token).Kind ≠ (p1.getD (Int.toNat xt13_15h) z_api_Token).Kind then some (Out.done false) else (if (p0.getD (Int.toNat xt13_15h) z_api_Token).Text ≠ (p1.getD (Int.toNat xt13_15h) z_api_Token).Text then some (Out.done false) else (if (p0.getD (Int.toNat xt13_15h) z_api_Token).Int ≠ (p1.getD (Int.toNat xt13_15h) z_api_Token).Int then some (Out.done false) else workflowlaw07_same.l15 K p0 p1 k (IntKind.i64.wrap (xt13_15h + 1))))) else none) else none) else some (Out.go ()))
def workflowlaw07_same (K : Nat) (p0 : List api_Token) (p1 : List api_Token) : Option Bool := (if (p0.length : Int) ≠ (p1.length : Int) then some false else (obind (workflowlaw07_same.l15 K p0 p1 K 0 : Option (Out Bool Unit)) (fun r => r) (fun _ => some true)))
theorem workflowlaw07_same.body {Γ : Ent} {K : Nat} {p0 : List api_Token} {p1 : List api_Token} {r : Bool} (h : workflowlaw07_same K p0 p1 = some r) : AWp V P 54 100 Γ (Tryd.f17.body.getD .skip) (EndsE P V Tryd.f17 (.B r) []) ⟨args0 0 [.cv (.ro .t_api_Token p0), .cv (.ro .t_api_Token p1)], []⟩ := by
 unfold workflowlaw07_same at h
 refine sr0 L 200 [] [] [] (S' := ⟨[(0, .cv (.ro .t_api_Token p0)), (1, .cv (.ro .t_api_Token p1))], []⟩) ?_
 refine awp_seq ?_
 refine sr0 L 202 [] [] [] (S' := ⟨[(0, .cv (.ro .t_api_Token p0)), (1, .cv (.ro .t_api_Token p1)), (10, .B (decide ((p0.length : Int) ≠ (p1.length : Int))))], []⟩) ?_
 rcases ite_some h with ⟨c1, h⟩ | ⟨c1, h⟩
 ·refine tt (b := (decide ((p0.length : Int) ≠ (p1.length : Int)))) (decide_eq_true c1) ?_
  refine sr0 L 208 [] [] [] (S' := ⟨[(4, .B false)], []⟩) ?_
  refine awp_ret ?_
  obtain rfl := Option.some.inj h
  exact er (.B false)
 refine ff (b := (decide ((p0.length : Int) ≠ (p1.length : Int)))) (decide_eq_false c1) ?_
 refine awp_skip' ?_
 refine awp_seq ?_
 refine sr0 L 210 [] [] [] (S' := ⟨[(0, .cv (.ro .t_api_Token p0)), (1, .cv (.ro .t_api_Token p1)), (12, .I (p0.length : Int)), (13, .I 0)], []⟩) ?_
 refine awp_block ?_
 refine kp (S' := ⟨[(0, .cv (.ro .t_api_Token p0)), (1, .cv (.ro .t_api_Token p1)), (12, .I (p0.length : Int)), (13, .I 0)], []⟩) ?_
 obtain ⟨o1, hp1, h⟩ := obind_some h
 refine awp_conseq (Q' := fun e S => (e = .exit 0 ∧ S = ⟨[], []⟩ ∧ Out.go () = o1) ∨ (e = .ret ∧ ∃ a, Out.done a = o1 ∧ EndsE P V Tryd.f17 (.B a) [] .ret S)) (awp_loop (fun k S => ∃ xt13_15h : Int, S = ⟨[(0, .cv (.ro .t_api_Token p0)), (1, .cv (.ro .t_api_Token p1)), (12, .I (p0.length : Int)), (13, .I xt13_15h)], []⟩ ∧ workflowlaw07_same.l15 K p0 p1 k xt13_15h = some o1) ?_ ⟨_, rfl, hp1⟩) ?_
 ·clear h hp1
  intro k S hS
  obtain ⟨xt13_15h, rfl, h⟩ := hS
  cases k with
  | zero => cases h
  | succ k =>
  unfold workflowlaw07_same.l15 at h
  refine sr0 L 214 [] [] [] (S' := ⟨[(0, .cv (.ro .t_api_Token p0)), (1, .cv (.ro .t_api_Token p1)), (12, .I (p0.length : Int)), (13, .I xt13_15h), (14, .B (decide (xt13_15h < (p0.length : Int))))], []⟩) ?_
  refine awp_seq ?_
  rcases ite_some h with ⟨c2, h⟩ | ⟨c2, h⟩
  ·refine tt (b := (decide (xt13_15h < (p0.length : Int)))) (decide_eq_true c2) ?_
   refine awp_skip' ?_
   refine awp_seq ?_
   refine awp_block ?_
   refine sr0 L 216 [] [] [] (S' := ⟨[(0, .cv (.ro .t_api_Token p0)), (1, .cv (.ro .t_api_Token p1)), (5, .I xt13_15h), (12, .I (p0.length : Int)), (13, .I xt13_15h)], []⟩) ?_
   refine awp_seq ?_
   obtain ⟨g1, h⟩ := guard_some h
   obtain ⟨g2, h⟩ := guard_some h
   rcases ite_some h with ⟨c3, h⟩ | ⟨c3, h⟩
   ·refine ad L mixed 219 [(11, true)] [] [] [] 37 (cs := [(0 : Int) ≤ xt13_15h, (xt13_15h : Int) < (p0.length : Int), (0 : Int) ≤ xt13_15h, (xt13_15h : Int) < (p1.length : Int), (decide ((p0.getD (Int.toNat xt13_15h) z_api_Token).Kind ≠ (p1.getD (Int.toNat xt13_15h) z_api_Token).Kind)) = true]) (S' := ⟨[(0, .cv (.ro .t_api_Token p0)), (1, .cv (.ro .t_api_Token p1)), (12, .I (p0.length : Int)), (13, .I xt13_15h), (52, .B true)], []⟩) (And.intro g1.1 (And.intro g1.2 (And.intro g1.1 (And.intro g2 (decide_eq_true c3))))) ?_
    refine tt (b := true) (rfl) ?_
    refine sr0 L 257 [] [] [] (S' := ⟨[(4, .B false)], []⟩) ?_
    refine awp_ret ?_
    obtain rfl := Option.some.inj h
    exact .inr ⟨rfl, _, rfl, er (.B false)⟩
   rcases ite_some h with ⟨c4, h⟩ | ⟨c4, h⟩
   ·refine ad L mixed 219 [(11, false), (24, true)] [] [] [] 37 (cs := [(0 : Int) ≤ xt13_15h, (xt13_15h : Int) < (p0.length : Int), (0 : Int) ≤ xt13_15h, (xt13_15h : Int) < (p1.length : Int), (decide ((p0.getD (Int.toNat xt13_15h) z_api_Token).Kind ≠ (p1.getD (Int.toNat xt13_15h) z_api_Token).Kind)) = false, (0 : Int) ≤ xt13_15h, (xt13_15h : Int) < (p0.length : Int), (0 : Int) ≤ xt13_15h, (xt13_15h : Int) < (p1.length : Int), (decide ((p0.getD (Int.toNat xt13_15h) z_api_Token).Text ≠ (p1.getD (Int.toNat xt13_15h) z_api_Token).Text)) = true]) (S' := ⟨[(0, .cv (.ro .t_api_Token p0)), (1, .cv (.ro .t_api_Token p1)), (12, .I (p0.length : Int)), (13, .I xt13_15h), (52, .B true)], []⟩) (And.intro g1.1 (And.intro g1.2 (And.intro g1.1 (And.intro g2 (And.intro (decide_eq_false c3) (And.intro g1.1 (And.intro g1.2 (And.intro g1.1 (And.intro g2 (decide_eq_true c4)))))))))) ?_
    refine tt (b := true) (rfl) ?_
    refine sr0 L 257 [] [] [] (S' := ⟨[(4, .B false)], []⟩) ?_
    refine awp_ret ?_
    obtain rfl := Option.some.inj h
    exact .inr ⟨rfl, _, rfl, er (.B false)⟩
   refine ad L mixed 219 [(11, false), (24, false)] [] [] [] 37 (cs := [(0 : Int) ≤ xt13_15h, (xt13_15h : Int) < (p0.length : Int), (0 : Int) ≤ xt13_15h, (xt13_15h : Int) < (p1.length : Int), (decide ((p0.getD (Int.toNat xt13_15h) z_api_Token).Kind ≠ (p1.getD (Int.toNat xt13_15h) z_api_Token).Kind)) = false, (0 : Int) ≤ xt13_15h, (xt13_15h : Int) < (p0.length : Int), (0 : Int) ≤ xt13_15h, (xt13_15h : Int) < (p1.length : Int), (decide ((p0.getD (Int.toNat xt13_15h) z_api_Token).Text ≠ (p1.getD (Int.toNat xt13_15h) z_api_Token).Text)) = false, (0 : Int) ≤ xt13_15h, (xt13_15h : Int) < (p0.length : Int), (0 : Int) ≤ xt13_15h, (xt13_15h : Int) < (p1.length : Int)]) (S' := ⟨[(0, .cv (.ro .t_api_Token p0)), (1, .cv (.ro .t_api_Token p1)), (12, .I (p0.length : Int)), (13, .I xt13_15h), (52, .B (decide ((p0.getD (Int.toNat xt13_15h) z_api_Token).Int ≠ (p1.getD (Int.toNat xt13_15h) z_api_Token).Int)))], []⟩) (And.intro g1.1 (And.intro g1.2 (And.intro g1.1 (And.intro g2 (And.intro (decide_eq_false c3) (And.intro g1.1 (And.intro g1.2 (And.intro g1.1 (And.intro g2 (And.intro (decide_eq_false c4) (And.intro g1.1 (And.intro g1.2 (And.intro g1.1 g2))))))))))))) ?_
   rcases ite_some h with ⟨c5, h⟩ | ⟨c5, h⟩
   ·refine tt (b := (decide ((p0.getD (Int.toNat xt13_15h) z_api_Token).Int ≠ (p1.getD (Int.toNat xt13_15h) z_api_Token).Int))) (decide_eq_true c5) ?_
    refine sr0 L 257 [] [] [] (S' := ⟨[(4, .B false)], []⟩) ?_
    refine awp_ret ?_
    obtain rfl := Option.some.inj h
    exact .inr ⟨rfl, _, rfl, er (.B false)⟩
   refine ff (b := (decide ((p0.getD (Int.toNat xt13_15h) z_api_Token).Int ≠ (p1.getD (Int.toNat xt13_15h) z_api_Token).Int))) (decide_eq_false c5) ?_
   refine awp_skip' ?_
   refine ar0 L 259 [] [] [] (S' := ⟨[(0, .cv (.ro .t_api_Token p0)), (1, .cv (.ro .t_api_Token p1)), (12, .I (p0.length : Int)), (13, .I (IntKind.i64.wrap (xt13_15h + 1)))], []⟩) ?_
   exact ⟨k, Nat.lt_succ_self k, _, rfl, h⟩
  refine ff (b := (decide (xt13_15h < (p0.length : Int)))) (decide_eq_false c2) ?_
  refine ex (S' := ⟨[], []⟩) ?_
  obtain rfl := Option.some.inj h
  exact .inl ⟨rfl, rfl, rfl⟩
 ·rintro e S (⟨rfl, rfl, rfl⟩ | ⟨rfl, a, rfl, hr⟩)
  ·rcases h with ⟨_, e1, h⟩ | ⟨_, e1, h⟩
   ·cases e1
   ·have e2 := Out.go.inj e1
    subst e2
    refine ⟨_, Turns.refl, ?_⟩
    refine sr0 L 262 [] [] [] (S' := ⟨[(4, .B true)], []⟩) ?_
    refine awp_ret ?_
    obtain rfl := Option.some.inj h
    exact er (.B true)
  ·rcases h with ⟨_, e1, h⟩ | ⟨_, e1, h⟩
   ·have e2 := Out.done.inj e1
    subst e2
    subst h
    exact ⟨_, Turns.refl, hr⟩
   ·cases e1
theorem workflowlaw07_same.ok {K : Nat} {p0 : List api_Token} {p1 : List api_Token} {r : Bool} (h : workflowlaw07_same K p0 p1 = some r) : PCall V P 17 [.cv (.ro .t_api_Token p0), .cv (.ro .t_api_Token p1)] (.B r) := ECall.pcall (eo (fn := Tryd.f17) (n := 54) (m := 100) fun Γ => workflowlaw07_same.body h) (by kernel_rfl)
def workflowlaw07_TokenBlanks.l19 (K : Nat) (p1 : Int) : Nat → (List UInt8) → Int → Option (List UInt8)
 | 0, _, _ => none
 | k + 1, xt6_19h, xt7_19h => (if xt7_19h < (Int.tmod (IntKind.i64.wrap p1) 20) then (if xt6_19h.length + ([32] : List UInt8).length ≤ 9223372036854775807 then workflowlaw07_TokenBlanks.l19 K p1 k (xt6_19h ++ ([32] : List UInt8)) (IntKind.i64.wrap (xt7_19h + 1)) else none) else some xt6_19h)
def workflowlaw07_TokenBlanks.l46 (K : Nat) (p1 : Int) (a2_0 : List api_Token) (a3_0 : List api_Token) : Nat → Int → Option (Out Bool Unit)
 | 0, _ => none
 | k + 1, xt69_46h => (if xt69_46h < (a2_0.length : Int) then (if (0 : Int) ≤ xt69_46h ∧ (xt69_46h : Int) < (a2_0.length : Int) then (if (xt69_46h : Int) < (a3_0.length : Int) then (if (a2_0.getD (Int.toNat xt69_46h) z_api_Token).At ≠ (IntKind.i64.wrap ((a3_0.getD (Int.toNat xt69_46h) z_api_Token).At - (Int.tmod (IntKind.i64.wrap p1) 20))) then some (Out.done false) else workflowlaw07_TokenBlanks.l46 K p1 a2_0 a3_0 k (IntKind.i64.wrap (xt69_46h + 1))) else none) else none) else some (Out.go ()))
def workflowlaw07_TokenBlanks (K : Nat) (p0 : List UInt8) (p1 : Int) : Option Bool := (if (p0.length : Int) > 400 then (Option.bind (workflowlaw07_works K) (fun a1 => some a1)) else (Option.bind (workflowlaw07_TokenBlanks.l19 K p1 K ([] : List UInt8) 0 : Option (List UInt8)) (fun xt6_19 => (Option.bind (token_Scan K p0) (fun (a2_0, a2_1, a2_2) => (if xt6_19.length + p0.length ≤ 9223372036854775807 then (Option.bind (token_Scan K (xt6_19 ++ p0)) (fun (a3_0, a3_1, a3_2) => (obind (((if a2_2 ≠ a3_2 then some (Out.done false) else (if a2_2 = 0 then (Option.bind (workflowlaw07_same K a2_0 a3_0) (fun a4 => (if a4 = true then (if a2_2 ≠ 0 then (if (IntKind.i64.wrap (a3_1 - (Int.tmod (IntKind.i64.wrap p1) 20))) ≠ a2_1 then some (Out.done false) else some (Out.go ())) else some (Out.go ())) else some (Out.done false)))) else (if a2_2 ≠ 0 then (if (IntKind.i64.wrap (a3_1 - (Int.tmod (IntKind.i64.wrap p1) 20))) ≠ a2_1 then some (Out.done false) else some (Out.go ())) else some (Out.go ()))))) : Option (Out Bool Unit)) (fun r => r) (fun _ => (obind (workflowlaw07_TokenBlanks.l46 K p1 a2_0 a3_0 K 0 : Option (Out Bool Unit)) (fun r => r) (fun _ => (Option.bind (workflowlaw07_works K) (fun a5 => some a5)))))))) else none))))))
theorem workflowlaw07_TokenBlanks.body {Γ : Ent} {K : Nat} {p0 : List UInt8} {p1 : Int} {r : Bool} (h : workflowlaw07_TokenBlanks K p0 p1 = some r) : AWp V P 87 100 Γ (Tryd.f7.body.getD .skip) (EndsE P V Tryd.f7 (.B r) []) ⟨args0 0 [.cv (.str p0), .cv (.lit (.int .u8 p1))], []⟩ := by
 unfold workflowlaw07_TokenBlanks at h
 refine sr0 L 200 [] [] [] (S' := ⟨[(0, .cv (.str p0)), (1, .cv (.lit (.int .u8 p1)))], []⟩) ?_
 refine awp_seq ?_
 refine sr0 L 202 [] [] [] (S' := ⟨[(0, .cv (.str p0)), (1, .cv (.lit (.int .u8 p1))), (17, .B (decide ((p0.length : Int) > 400)))], []⟩) ?_
 rcases ite_some h with ⟨c1, h⟩ | ⟨c1, h⟩
 ·refine tt (b := (decide ((p0.length : Int) > 400))) (decide_eq_true c1) ?_
  refine awp_seq ?_
  obtain ⟨a1, h1, h⟩ := bind_some h
  refine ar L 206 [] [(0, .B a1)] [] (cs := [PCall V P 10 [] (.B a1), True]) (S' := ⟨[(4, .B a1)], []⟩) (And.intro (workflowlaw07_works.ok h1) trivial) ?_
  refine awp_ret ?_
  obtain rfl := Option.some.inj h
  exact er (.B a1)
 refine ff (b := (decide ((p0.length : Int) > 400))) (decide_eq_false c1) ?_
 refine awp_skip' ?_
 refine sr L 209 [] [] [] (cs := [20 ≠ (0 : Int)]) (S' := ⟨[(0, .cv (.str p0)), (5, .I (Int.tmod (IntKind.i64.wrap p1) 20))], []⟩) (show 20 ≠ (0 : Int) from by decide) ?_
 refine sr0 L 214 [] [] [] (S' := ⟨[(0, .cv (.str p0)), (5, .I (Int.tmod (IntKind.i64.wrap p1) 20)), (6, .cv (.str ([] : List UInt8)))], []⟩) ?_
 refine awp_seq ?_
 refine sr0 L 216 [] [] [] (S' := ⟨[(0, .cv (.str p0)), (5, .I (Int.tmod (IntKind.i64.wrap p1) 20)), (6, .cv (.str ([] : List UInt8))), (7, .I 0)], []⟩) ?_
 refine awp_block ?_
 refine kp (S' := ⟨[(0, .cv (.str p0)), (5, .I (Int.tmod (IntKind.i64.wrap p1) 20)), (6, .cv (.str ([] : List UInt8))), (7, .I 0)], []⟩) ?_
 obtain ⟨o1, hp1, h⟩ := bind_some h
 refine awp_conseq (Q' := fun e S => (e = .exit 0 ∧ ∃ xt6_19 : List UInt8, S = ⟨[(0, .cv (.str p0)), (5, .I (Int.tmod (IntKind.i64.wrap p1) 20)), (6, .cv (.str xt6_19))], []⟩ ∧ xt6_19 = o1)) (awp_loop (fun k S => ∃ xt6_19h : List UInt8, ∃ xt7_19h : Int, S = ⟨[(0, .cv (.str p0)), (5, .I (Int.tmod (IntKind.i64.wrap p1) 20)), (6, .cv (.str xt6_19h)), (7, .I xt7_19h)], []⟩ ∧ workflowlaw07_TokenBlanks.l19 K p1 k xt6_19h xt7_19h = some o1) ?_ ⟨_, _, rfl, hp1⟩) ?_
 ·clear h hp1
  intro k S hS
  obtain ⟨xt6_19h, xt7_19h, rfl, h⟩ := hS
  cases k with
  | zero => cases h
  | succ k =>
  unfold workflowlaw07_TokenBlanks.l19 at h
  refine awp_seq ?_
  refine sr0 L 218 [] [] [] (S' := ⟨[(0, .cv (.str p0)), (5, .I (Int.tmod (IntKind.i64.wrap p1) 20)), (6, .cv (.str xt6_19h)), (7, .I xt7_19h), (24, .B (decide (xt7_19h < (Int.tmod (IntKind.i64.wrap p1) 20))))], []⟩) ?_
  rcases ite_some h with ⟨c2, h⟩ | ⟨c2, h⟩
  ·refine tt (b := (decide (xt7_19h < (Int.tmod (IntKind.i64.wrap p1) 20)))) (decide_eq_true c2) ?_
   refine awp_skip' ?_
   refine awp_seq ?_
   refine awp_block ?_
   obtain ⟨g1, h⟩ := guard_some h
   refine ar L 222 [] [] [] (cs := [xt6_19h.length + ([32] : List UInt8).length ≤ 9223372036854775807]) (S' := ⟨[(0, .cv (.str p0)), (5, .I (Int.tmod (IntKind.i64.wrap p1) 20)), (6, .cv (.str (xt6_19h ++ ([32] : List UInt8)))), (7, .I xt7_19h)], []⟩) g1 ?_
   refine ar0 L 226 [] [] [] (S' := ⟨[(0, .cv (.str p0)), (5, .I (Int.tmod (IntKind.i64.wrap p1) 20)), (6, .cv (.str (xt6_19h ++ ([32] : List UInt8)))), (7, .I (IntKind.i64.wrap (xt7_19h + 1)))], []⟩) ?_
   exact ⟨k, Nat.lt_succ_self k, _, _, rfl, h⟩
  refine ff (b := (decide (xt7_19h < (Int.tmod (IntKind.i64.wrap p1) 20)))) (decide_eq_false c2) ?_
  refine ex (S' := ⟨[(0, .cv (.str p0)), (5, .I (Int.tmod (IntKind.i64.wrap p1) 20)), (6, .cv (.str xt6_19h))], []⟩) ?_
  obtain rfl := Option.some.inj h
  exact ⟨rfl, _, rfl, rfl⟩
 ·rintro e S ⟨rfl, xt6_19, rfl, rfl⟩
  refine ⟨_, Turns.refl, ?_⟩
  refine awp_seq ?_
  obtain ⟨⟨a2_0, a2_1, a2_2⟩, h2, h⟩ := bind_some h
  dsimp only at h
  refine ar L 230 [] [(1, .tup [.cv (.ro .t_api_Token a2_0), .I a2_1, .I a2_2])] [] (cs := [PCall V P 11 [.cv (.str p0)] (.tup [.cv (.ro .t_api_Token a2_0), .I a2_1, .I a2_2]), True]) (S' := ⟨[(0, .cv (.str p0)), (5, .I (Int.tmod (IntKind.i64.wrap p1) 20)), (6, .cv (.str xt6_19)), (8, .cv (.ro .t_api_Token a2_0)), (9, .I a2_1), (10, .I a2_2)], []⟩) (And.intro (token_Scan.ok h2) trivial) ?_
  refine awp_seq ?_
  obtain ⟨g2, h⟩ := guard_some h
  obtain ⟨⟨a3_0, a3_1, a3_2⟩, h3, h⟩ := bind_some h
  dsimp only at h
  refine ar L 240 [] [(3, .tup [.cv (.ro .t_api_Token a3_0), .I a3_1, .I a3_2])] [] (cs := [xt6_19.length + p0.length ≤ 9223372036854775807, PCall V P 11 [.cv (.str (xt6_19 ++ p0))] (.tup [.cv (.ro .t_api_Token a3_0), .I a3_1, .I a3_2]), True]) (S' := ⟨[(5, .I (Int.tmod (IntKind.i64.wrap p1) 20)), (8, .cv (.ro .t_api_Token a2_0)), (9, .I a2_1), (10, .I a2_2), (11, .cv (.ro .t_api_Token a3_0)), (12, .I a3_1), (13, .I a3_2)], []⟩) (And.intro g2 (And.intro (token_Scan.ok h3) trivial)) ?_
  obtain ⟨o2, hp2, h⟩ := obind_some h
  refine awp_seq (awp_mono (Q' := fun e S => (e = .normal ∧ S = ⟨[(5, .I (Int.tmod (IntKind.i64.wrap p1) 20)), (8, .cv (.ro .t_api_Token a2_0)), (11, .cv (.ro .t_api_Token a3_0))], []⟩ ∧ Out.go () = o2) ∨ (e = .ret ∧ ∃ a, Out.done a = o2 ∧ EndsE P V Tryd.f7 (.B a) [] .ret S)) ?_ ?_)
  ·clear h
   replace h := hp2
   refine awp_seq ?_
   rcases ite_some h with ⟨c3, h⟩ | ⟨c3, h⟩
   ·refine ar L 252 [(3, true)] [] [] (cs := [(decide (a2_2 ≠ a3_2)) = true]) (S' := ⟨[(5, .I (Int.tmod (IntKind.i64.wrap p1) 20)), (8, .cv (.ro .t_api_Token a2_0)), (11, .cv (.ro .t_api_Token a3_0)), (66, .B true)], []⟩) (decide_eq_true c3) ?_
    refine tt (b := true) (rfl) ?_
    refine sr0 L 277 [] [] [] (S' := ⟨[(4, .B false)], []⟩) ?_
    refine awp_ret ?_
    obtain rfl := Option.some.inj h
    exact .inr ⟨rfl, _, rfl, er (.B false)⟩
   rcases ite_some h with ⟨c4, h⟩ | ⟨c4, h⟩
   ·obtain ⟨a4, h4, h⟩ := bind_some h
    rcases ite_some h with ⟨c5, h⟩ | ⟨c5, h⟩
    ·rcases ite_some h with ⟨c6, h⟩ | ⟨c6, h⟩
     ·refine ar L 252 [(3, false), (6, true), (13, false), (16, true)] [(9, .B a4)] [] (cs := [(decide (a2_2 ≠ a3_2)) = false, (decide (a2_2 = 0)) = true, PCall V P 17 [.cv (.ro .t_api_Token a2_0), .cv (.ro .t_api_Token a3_0)] (.B a4), True, (!a4) = false, (decide (a2_2 ≠ 0)) = true]) (S' := ⟨[(5, .I (Int.tmod (IntKind.i64.wrap p1) 20)), (8, .cv (.ro .t_api_Token a2_0)), (11, .cv (.ro .t_api_Token a3_0)), (66, .B ((decide ((IntKind.i64.wrap (a3_1 - (Int.tmod (IntKind.i64.wrap p1) 20))) ≠ a2_1))))], []⟩) (And.intro (decide_eq_false c3) (And.intro (decide_eq_true c4) (And.intro (workflowlaw07_same.ok h4) (And.intro trivial (And.intro (congrArg Bool.not (c5)) (decide_eq_true c6)))))) ?_
      rcases ite_some h with ⟨c7, h⟩ | ⟨c7, h⟩
      ·refine tt (b := (decide ((IntKind.i64.wrap (a3_1 - (Int.tmod (IntKind.i64.wrap p1) 20))) ≠ a2_1))) (decide_eq_true c7) ?_
       refine sr0 L 277 [] [] [] (S' := ⟨[(4, .B false)], []⟩) ?_
       refine awp_ret ?_
       obtain rfl := Option.some.inj h
       exact .inr ⟨rfl, _, rfl, er (.B false)⟩
      refine ff (b := (decide ((IntKind.i64.wrap (a3_1 - (Int.tmod (IntKind.i64.wrap p1) 20))) ≠ a2_1))) (decide_eq_false c7) ?_
      refine sk (S' := ⟨[(5, .I (Int.tmod (IntKind.i64.wrap p1) 20)), (8, .cv (.ro .t_api_Token a2_0)), (11, .cv (.ro .t_api_Token a3_0))], []⟩) ?_
      obtain rfl := Option.some.inj h
      exact .inl ⟨rfl, rfl, rfl⟩
     refine ar L 252 [(3, false), (6, true), (13, false), (16, false)] [(9, .B a4)] [] (cs := [(decide (a2_2 ≠ a3_2)) = false, (decide (a2_2 = 0)) = true, PCall V P 17 [.cv (.ro .t_api_Token a2_0), .cv (.ro .t_api_Token a3_0)] (.B a4), True, (!a4) = false, (decide (a2_2 ≠ 0)) = false]) (S' := ⟨[(5, .I (Int.tmod (IntKind.i64.wrap p1) 20)), (8, .cv (.ro .t_api_Token a2_0)), (11, .cv (.ro .t_api_Token a3_0)), (66, .B false)], []⟩) (And.intro (decide_eq_false c3) (And.intro (decide_eq_true c4) (And.intro (workflowlaw07_same.ok h4) (And.intro trivial (And.intro (congrArg Bool.not (c5)) (decide_eq_false c6)))))) ?_
     refine ff (b := false) (rfl) ?_
     refine sk (S' := ⟨[(5, .I (Int.tmod (IntKind.i64.wrap p1) 20)), (8, .cv (.ro .t_api_Token a2_0)), (11, .cv (.ro .t_api_Token a3_0))], []⟩) ?_
     obtain rfl := Option.some.inj h
     exact .inl ⟨rfl, rfl, rfl⟩
    refine ar L 252 [(3, false), (6, true), (13, true)] [(9, .B a4)] [] (cs := [(decide (a2_2 ≠ a3_2)) = false, (decide (a2_2 = 0)) = true, PCall V P 17 [.cv (.ro .t_api_Token a2_0), .cv (.ro .t_api_Token a3_0)] (.B a4), True, (!a4) = true]) (S' := ⟨[(5, .I (Int.tmod (IntKind.i64.wrap p1) 20)), (8, .cv (.ro .t_api_Token a2_0)), (11, .cv (.ro .t_api_Token a3_0)), (66, .B true)], []⟩) (And.intro (decide_eq_false c3) (And.intro (decide_eq_true c4) (And.intro (workflowlaw07_same.ok h4) (And.intro trivial (congrArg Bool.not (eq_false_of_ne_true c5)))))) ?_
    refine tt (b := true) (rfl) ?_
    refine sr0 L 277 [] [] [] (S' := ⟨[(4, .B false)], []⟩) ?_
    refine awp_ret ?_
    obtain rfl := Option.some.inj h
    exact .inr ⟨rfl, _, rfl, er (.B false)⟩
   rcases ite_some h with ⟨c8, h⟩ | ⟨c8, h⟩
   ·refine ar L 252 [(3, false), (6, false), (16, true)] [] [] (cs := [(decide (a2_2 ≠ a3_2)) = false, (decide (a2_2 = 0)) = false, (decide (a2_2 ≠ 0)) = true]) (S' := ⟨[(5, .I (Int.tmod (IntKind.i64.wrap p1) 20)), (8, .cv (.ro .t_api_Token a2_0)), (11, .cv (.ro .t_api_Token a3_0)), (66, .B ((decide ((IntKind.i64.wrap (a3_1 - (Int.tmod (IntKind.i64.wrap p1) 20))) ≠ a2_1))))], []⟩) (And.intro (decide_eq_false c3) (And.intro (decide_eq_false c4) (decide_eq_true c8))) ?_
    rcases ite_some h with ⟨c9, h⟩ | ⟨c9, h⟩
    ·refine tt (b := (decide ((IntKind.i64.wrap (a3_1 - (Int.tmod (IntKind.i64.wrap p1) 20))) ≠ a2_1))) (decide_eq_true c9) ?_
     refine sr0 L 277 [] [] [] (S' := ⟨[(4, .B false)], []⟩) ?_
     refine awp_ret ?_
     obtain rfl := Option.some.inj h
     exact .inr ⟨rfl, _, rfl, er (.B false)⟩
    refine ff (b := (decide ((IntKind.i64.wrap (a3_1 - (Int.tmod (IntKind.i64.wrap p1) 20))) ≠ a2_1))) (decide_eq_false c9) ?_
    refine sk (S' := ⟨[(5, .I (Int.tmod (IntKind.i64.wrap p1) 20)), (8, .cv (.ro .t_api_Token a2_0)), (11, .cv (.ro .t_api_Token a3_0))], []⟩) ?_
    obtain rfl := Option.some.inj h
    exact .inl ⟨rfl, rfl, rfl⟩
   refine ar L 252 [(3, false), (6, false), (16, false)] [] [] (cs := [(decide (a2_2 ≠ a3_2)) = false, (decide (a2_2 = 0)) = false, (decide (a2_2 ≠ 0)) = false]) (S' := ⟨[(5, .I (Int.tmod (IntKind.i64.wrap p1) 20)), (8, .cv (.ro .t_api_Token a2_0)), (11, .cv (.ro .t_api_Token a3_0)), (66, .B false)], []⟩) (And.intro (decide_eq_false c3) (And.intro (decide_eq_false c4) (decide_eq_false c8))) ?_
   refine ff (b := false) (rfl) ?_
   refine sk (S' := ⟨[(5, .I (Int.tmod (IntKind.i64.wrap p1) 20)), (8, .cv (.ro .t_api_Token a2_0)), (11, .cv (.ro .t_api_Token a3_0))], []⟩) ?_
   obtain rfl := Option.some.inj h
   exact .inl ⟨rfl, rfl, rfl⟩
  ·rintro e S (⟨rfl, rfl, rfl⟩ | ⟨rfl, a, rfl, hr⟩)
   ·rcases h with ⟨_, e1, h⟩ | ⟨_, e1, h⟩
    ·cases e1
    ·have e2 := Out.go.inj e1
     subst e2
     refine awp_seq ?_
     refine sr0 L 279 [] [] [] (S' := ⟨[(5, .I (Int.tmod (IntKind.i64.wrap p1) 20)), (8, .cv (.ro .t_api_Token a2_0)), (11, .cv (.ro .t_api_Token a3_0)), (68, .I (a2_0.length : Int)), (69, .I 0)], []⟩) ?_
     refine awp_block ?_
     refine kp (S' := ⟨[(5, .I (Int.tmod (IntKind.i64.wrap p1) 20)), (8, .cv (.ro .t_api_Token a2_0)), (11, .cv (.ro .t_api_Token a3_0)), (68, .I (a2_0.length : Int)), (69, .I 0)], []⟩) ?_
     obtain ⟨o3, hp3, h⟩ := obind_some h
     refine awp_conseq (Q' := fun e S => (e = .exit 2 ∧ S = ⟨[], []⟩ ∧ Out.go () = o3) ∨ (e = .ret ∧ ∃ a, Out.done a = o3 ∧ EndsE P V Tryd.f7 (.B a) [] .ret S)) (awp_loop (fun k S => ∃ xt69_46h : Int, S = ⟨[(5, .I (Int.tmod (IntKind.i64.wrap p1) 20)), (8, .cv (.ro .t_api_Token a2_0)), (11, .cv (.ro .t_api_Token a3_0)), (68, .I (a2_0.length : Int)), (69, .I xt69_46h)], []⟩ ∧ workflowlaw07_TokenBlanks.l46 K p1 a2_0 a3_0 k xt69_46h = some o3) ?_ ⟨_, rfl, hp3⟩) ?_
     ·clear h hp3
      intro k S hS
      obtain ⟨xt69_46h, rfl, h⟩ := hS
      cases k with
      | zero => cases h
      | succ k =>
      unfold workflowlaw07_TokenBlanks.l46 at h
      refine sr0 L 283 [] [] [] (S' := ⟨[(5, .I (Int.tmod (IntKind.i64.wrap p1) 20)), (8, .cv (.ro .t_api_Token a2_0)), (11, .cv (.ro .t_api_Token a3_0)), (68, .I (a2_0.length : Int)), (69, .I xt69_46h), (70, .B (decide (xt69_46h < (a2_0.length : Int))))], []⟩) ?_
      refine awp_seq ?_
      rcases ite_some h with ⟨c10, h⟩ | ⟨c10, h⟩
      ·refine tt (b := (decide (xt69_46h < (a2_0.length : Int)))) (decide_eq_true c10) ?_
       refine awp_skip' ?_
       refine awp_seq ?_
       refine awp_block ?_
       refine sr0 L 285 [] [] [] (S' := ⟨[(5, .I (Int.tmod (IntKind.i64.wrap p1) 20)), (8, .cv (.ro .t_api_Token a2_0)), (11, .cv (.ro .t_api_Token a3_0)), (14, .I xt69_46h), (68, .I (a2_0.length : Int)), (69, .I xt69_46h)], []⟩) ?_
       refine awp_seq ?_
       obtain ⟨g3, h⟩ := guard_some h
       obtain ⟨g4, h⟩ := guard_some h
       refine ad L mixed 288 [] [] [] [] 13 (cs := [(0 : Int) ≤ xt69_46h, (xt69_46h : Int) < (a2_0.length : Int), (0 : Int) ≤ xt69_46h, (xt69_46h : Int) < (a3_0.length : Int)]) (S' := ⟨[(5, .I (Int.tmod (IntKind.i64.wrap p1) 20)), (8, .cv (.ro .t_api_Token a2_0)), (11, .cv (.ro .t_api_Token a3_0)), (68, .I (a2_0.length : Int)), (69, .I xt69_46h), (84, .B ((decide ((a2_0.getD (Int.toNat xt69_46h) z_api_Token).At ≠ (IntKind.i64.wrap ((a3_0.getD (Int.toNat xt69_46h) z_api_Token).At - (Int.tmod (IntKind.i64.wrap p1) 20)))))))], []⟩) (And.intro g3.1 (And.intro g3.2 (And.intro g3.1 g4))) ?_
       rcases ite_some h with ⟨c11, h⟩ | ⟨c11, h⟩
       ·refine tt (b := (decide ((a2_0.getD (Int.toNat xt69_46h) z_api_Token).At ≠ (IntKind.i64.wrap ((a3_0.getD (Int.toNat xt69_46h) z_api_Token).At - (Int.tmod (IntKind.i64.wrap p1) 20)))))) (decide_eq_true c11) ?_
        refine sr0 L 302 [] [] [] (S' := ⟨[(4, .B false)], []⟩) ?_
        refine awp_ret ?_
        obtain rfl := Option.some.inj h
        exact .inr ⟨rfl, _, rfl, er (.B false)⟩
       refine ff (b := (decide ((a2_0.getD (Int.toNat xt69_46h) z_api_Token).At ≠ (IntKind.i64.wrap ((a3_0.getD (Int.toNat xt69_46h) z_api_Token).At - (Int.tmod (IntKind.i64.wrap p1) 20)))))) (decide_eq_false c11) ?_
       refine awp_skip' ?_
       refine ar0 L 304 [] [] [] (S' := ⟨[(5, .I (Int.tmod (IntKind.i64.wrap p1) 20)), (8, .cv (.ro .t_api_Token a2_0)), (11, .cv (.ro .t_api_Token a3_0)), (68, .I (a2_0.length : Int)), (69, .I (IntKind.i64.wrap (xt69_46h + 1)))], []⟩) ?_
       exact ⟨k, Nat.lt_succ_self k, _, rfl, h⟩
      refine ff (b := (decide (xt69_46h < (a2_0.length : Int)))) (decide_eq_false c10) ?_
      refine ex (S' := ⟨[], []⟩) ?_
      obtain rfl := Option.some.inj h
      exact .inl ⟨rfl, rfl, rfl⟩
     ·rintro e S (⟨rfl, rfl, rfl⟩ | ⟨rfl, a, rfl, hr⟩)
      ·rcases h with ⟨_, e1, h⟩ | ⟨_, e1, h⟩
       ·cases e1
       ·have e2 := Out.go.inj e1
        subst e2
        refine ⟨_, Turns.refl, ?_⟩
        refine awp_seq ?_
        obtain ⟨a5, h5, h⟩ := bind_some h
        refine ar L 307 [] [(0, .B a5)] [] (cs := [PCall V P 10 [] (.B a5), True]) (S' := ⟨[(4, .B a5)], []⟩) (And.intro (workflowlaw07_works.ok h5) trivial) ?_
        refine awp_ret ?_
        obtain rfl := Option.some.inj h
        exact er (.B a5)
      ·rcases h with ⟨_, e1, h⟩ | ⟨_, e1, h⟩
       ·have e2 := Out.done.inj e1
        subst e2
        subst h
        exact ⟨_, Turns.refl, hr⟩
       ·cases e1
   ·rcases h with ⟨_, e1, h⟩ | ⟨_, e1, h⟩
    ·have e2 := Out.done.inj e1
     subst e2
     subst h
     exact hr
    ·cases e1
theorem workflowlaw07_TokenBlanks.ok {K : Nat} {p0 : List UInt8} {p1 : Int} {r : Bool} (h : workflowlaw07_TokenBlanks K p0 p1 = some r) : PCall V P 7 [.cv (.str p0), .cv (.lit (.int .u8 p1))] (.B r) := ECall.pcall (eo (fn := Tryd.f7) (n := 87) (m := 100) fun Γ => workflowlaw07_TokenBlanks.body h) (by kernel_rfl)
def token_Spell.l9 (K : Nat) (p0 : List api_Token) : Nat → Int → (List (List UInt8)) → Option (List (List UInt8))
 | 0, _, _ => none
 | k + 1, xt8_9h, x21900 => (if xt8_9h < (p0.length : Int) then (if (0 : Int) ≤ xt8_9h ∧ (xt8_9h : Int) < (p0.length : Int) then (Option.bind (((if (p0.getD (Int.toNat xt8_9h) z_api_Token).Kind = 1 then some (decide ((p0.getD (Int.toNat xt8_9h) z_api_Token).Kind = 1)) else (if (p0.getD (Int.toNat xt8_9h) z_api_Token).Kind = 2 then some (decide ((p0.getD (Int.toNat xt8_9h) z_api_Token).Kind = 2)) else some (decide ((p0.getD (Int.toNat xt8_9h) z_api_Token).Kind = 5))))) : Option Bool) (fun xt14_23 => (if xt14_23 = true then (if (x21900.length + ([(p0.getD (Int.toNat xt8_9h) z_api_Token).Text] : List (List UInt8)).length) * 16 ≤ 140737488355328 then token_Spell.l9 K p0 k (IntKind.i64.wrap (xt8_9h + 1)) (x21900 ++ ([(p0.getD (Int.toNat xt8_9h) z_api_Token).Text] : List (List UInt8))) else none) else (if (p0.getD (Int.toNat xt8_9h) z_api_Token).Kind = 3 then (if (-9223372036854775808 : Int) ≤ (p0.getD (Int.toNat xt8_9h) z_api_Token).Int ∧ ((p0.getD (Int.toNat xt8_9h) z_api_Token).Int : Int) ≤ 9223372036854775807 then (if (x21900.length + ([(Lib.itoa ((p0.getD (Int.toNat xt8_9h) z_api_Token).Int))] : List (List UInt8)).length) * 16 ≤ 140737488355328 then token_Spell.l9 K p0 k (IntKind.i64.wrap (xt8_9h + 1)) ((x21900 ++ ([(Lib.itoa ((p0.getD (Int.toNat xt8_9h) z_api_Token).Int))] : List (List UInt8)))) else none) else none) else (if (p0.getD (Int.toNat xt8_9h) z_api_Token).Kind = 4 then (Option.bind (token_Quote K ((p0.getD (Int.toNat xt8_9h) z_api_Token).Text)) (fun a1 => (if (x21900.length + ([a1] : List (List UInt8)).length) * 16 ≤ 140737488355328 then token_Spell.l9 K p0 k (IntKind.i64.wrap (xt8_9h + 1)) (x21900 ++ ([a1] : List (List UInt8))) else none))) else token_Spell.l9 K p0 k (IntKind.i64.wrap (xt8_9h + 1)) x21900))))) else none) else some x21900)
def token_Spell (K : Nat) (p0 : List api_Token) : Option (List UInt8) := (Option.bind (token_Spell.l9 K p0 K 0 ([] : List (List UInt8)) : Option (List (List UInt8))) (fun x21800 => (if x21800.length ≤ 140737488355328 ∧ (Lib.join x21800 ([32] : List UInt8)).length ≤ 140737488355328 then some (Lib.join x21800 ([32] : List UInt8)) else none)))
theorem token_Spell.body {Γ : Ent} {K : Nat} {p0 : List api_Token} {r : List UInt8} (h : token_Spell K p0 = some r) : AWp V P 42 100 Γ (Tryd.f18.body.getD .skip) (EndsE P V Tryd.f18 (.cv (.str r)) []) ⟨args0 0 [.cv (.ro .t_api_Token p0)], []⟩ := by
 unfold token_Spell at h
 refine sr0 L 200 [] [] [] (S' := ⟨[(0, .cv (.ro .t_api_Token p0))], []⟩) ?_
 refine sr0 L 202 [] [] [] (S' := ⟨[(0, .cv (.ro .t_api_Token p0)), (3, .N)], []⟩) ?_
 refine awp_seq ?_
 refine sr0 L 204 [] [] [] (S' := ⟨[(3, .N), (6, .cv (.ro .t_api_Token p0)), (7, .I (p0.length : Int)), (8, .I 0)], []⟩) ?_
 refine awp_block ?_
 refine awp_turn (Turns.trans (Turns.kp (S' := ⟨[(3, .N), (6, .cv (.ro .t_api_Token p0)), (7, .I (p0.length : Int)), (8, .I 0)], []⟩)) (Turns.trans (Turns.nilown 3 9500 Tag.t_string (by kernel_rfl) (by kernel_rfl) (S' := ⟨[(3, .cv (.own .t_string 9500)), (6, .cv (.ro .t_api_Token p0)), (7, .I (p0.length : Int)), (8, .I 0)], [(9500, .lst .t_string ([] : List (List UInt8)))]⟩) (by kernel_rfl)) (Turns.trans (Turns.kp (S' := ⟨[(3, .cv (.own .t_string 9500)), (6, .cv (.ro .t_api_Token p0)), (7, .I (p0.length : Int)), (8, .I 0)], [(9500, .lst .t_string ([] : List (List UInt8)))]⟩)) (Turns.rn [(9500, 21900)] (S' := ⟨[(3, .cv (.own .t_string 21900)), (6, .cv (.ro .t_api_Token p0)), (7, .I (p0.length : Int)), (8, .I 0)], [(21900, .lst .t_string ([] : List (List UInt8)))]⟩))))) ?_
 refine kp (S' := ⟨[(3, .cv (.own .t_string 21900)), (6, .cv (.ro .t_api_Token p0)), (7, .I (p0.length : Int)), (8, .I 0)], [(21900, .lst .t_string ([] : List (List UInt8)))]⟩) ?_
 obtain ⟨o2, hp2, h⟩ := bind_some h
 refine awp_conseq (Q' := fun e S => (e = .exit 0 ∧ ∃ x21800 : List (List UInt8), S = ⟨[(3, .cv (.own .t_string 21800))], [(21800, .lst .t_string x21800)]⟩ ∧ x21800 = o2)) (awp_loop (fun k S => ∃ xt8_9h : Int, ∃ x21900 : List (List UInt8), S = ⟨[(3, .cv (.own .t_string 21900)), (6, .cv (.ro .t_api_Token p0)), (7, .I (p0.length : Int)), (8, .I xt8_9h)], [(21900, .lst .t_string x21900)]⟩ ∧ token_Spell.l9 K p0 k xt8_9h x21900 = some o2) ?_ ⟨_, _, rfl, hp2⟩) ?_
 ·clear h hp2
  intro k S hS
  obtain ⟨xt8_9h, x21900, rfl, h⟩ := hS
  cases k with
  | zero => cases h
  | succ k =>
  unfold token_Spell.l9 at h
  refine sr0 L 208 [] [] [] (S' := ⟨[(3, .cv (.own .t_string 21900)), (6, .cv (.ro .t_api_Token p0)), (7, .I (p0.length : Int)), (8, .I xt8_9h), (9, .B (decide (xt8_9h < (p0.length : Int))))], [(21900, .lst .t_string x21900)]⟩) ?_
  refine awp_seq ?_
  rcases ite_some h with ⟨c1, h⟩ | ⟨c1, h⟩
  ·refine tt (b := (decide (xt8_9h < (p0.length : Int)))) (decide_eq_true c1) ?_
   refine awp_skip' ?_
   refine awp_seq ?_
   refine awp_block ?_
   refine awp_seq ?_
   obtain ⟨g1, h⟩ := guard_some h
   refine ar L 210 [] [] [] (cs := [(0 : Int) ≤ xt8_9h, (xt8_9h : Int) < (p0.length : Int)]) (S' := ⟨[(3, .cv (.own .t_string 21900)), (5, .P 212), (6, .cv (.ro .t_api_Token p0)), (7, .I (p0.length : Int)), (8, .I xt8_9h)], [(212, .raw (d_api_Token (p0.getD (Int.toNat xt8_9h) z_api_Token))), (21900, .lst .t_string x21900)]⟩) (And.intro g1.1 g1.2) ?_
   refine sr0 L 215 [] [] [] (S' := ⟨[(3, .cv (.own .t_string 21900)), (5, .P 212), (6, .cv (.ro .t_api_Token p0)), (7, .I (p0.length : Int)), (8, .I xt8_9h), (13, .I ((p0.getD (Int.toNat xt8_9h) z_api_Token).Kind))], [(212, .raw (d_api_Token (p0.getD (Int.toNat xt8_9h) z_api_Token))), (21900, .lst .t_string x21900)]⟩) ?_
   refine awp_block ?_
   obtain ⟨o1, hp1, h⟩ := bind_some h
   refine awp_seq (awp_mono (Q' := fun e S => (e = .normal ∧ ∃ xt14_23 : Bool, S = ⟨[(3, .cv (.own .t_string 24600)), (5, .P 24601), (6, .cv (.ro .t_api_Token p0)), (7, .I (p0.length : Int)), (8, .I xt8_9h), (13, .I ((p0.getD (Int.toNat xt8_9h) z_api_Token).Kind)), (14, .B xt14_23)], [(24600, .lst .t_string x21900), (24601, .raw (d_api_Token (p0.getD (Int.toNat xt8_9h) z_api_Token)))]⟩ ∧ xt14_23 = o1)) ?_ ?_)
   ·clear h
    replace h := hp1
    refine sr0 L 218 [] [] [] (S' := ⟨[(3, .cv (.own .t_string 21900)), (5, .P 212), (6, .cv (.ro .t_api_Token p0)), (7, .I (p0.length : Int)), (8, .I xt8_9h), (13, .I ((p0.getD (Int.toNat xt8_9h) z_api_Token).Kind)), (14, .B (decide ((p0.getD (Int.toNat xt8_9h) z_api_Token).Kind = 1)))], [(212, .raw (d_api_Token (p0.getD (Int.toNat xt8_9h) z_api_Token))), (21900, .lst .t_string x21900)]⟩) ?_
    rcases ite_some h with ⟨c2, h⟩ | ⟨c2, h⟩
    ·refine tt (b := (decide ((p0.getD (Int.toNat xt8_9h) z_api_Token).Kind = 1))) (decide_eq_true c2) ?_
     refine awp_turn (Turns.trans (Turns.kp (S' := ⟨[(3, .cv (.own .t_string 21900)), (5, .P 212), (6, .cv (.ro .t_api_Token p0)), (7, .I (p0.length : Int)), (8, .I xt8_9h), (13, .I ((p0.getD (Int.toNat xt8_9h) z_api_Token).Kind)), (14, .B (decide ((p0.getD (Int.toNat xt8_9h) z_api_Token).Kind = 1)))], [(212, .raw (d_api_Token (p0.getD (Int.toNat xt8_9h) z_api_Token))), (21900, .lst .t_string x21900)]⟩)) (Turns.rn [(212, 24601), (21900, 24600)] (S' := ⟨[(3, .cv (.own .t_string 24600)), (5, .P 24601), (6, .cv (.ro .t_api_Token p0)), (7, .I (p0.length : Int)), (8, .I xt8_9h), (13, .I ((p0.getD (Int.toNat xt8_9h) z_api_Token).Kind)), (14, .B (decide ((p0.getD (Int.toNat xt8_9h) z_api_Token).Kind = 1)))], [(24601, .raw (d_api_Token (p0.getD (Int.toNat xt8_9h) z_api_Token))), (24600, .lst .t_string x21900)]⟩))) ?_
     refine sk (S' := ⟨[(3, .cv (.own .t_string 24600)), (5, .P 24601), (6, .cv (.ro .t_api_Token p0)), (7, .I (p0.length : Int)), (8, .I xt8_9h), (13, .I ((p0.getD (Int.toNat xt8_9h) z_api_Token).Kind)), (14, .B (decide ((p0.getD (Int.toNat xt8_9h) z_api_Token).Kind = 1)))], [(24600, .lst .t_string x21900), (24601, .raw (d_api_Token (p0.getD (Int.toNat xt8_9h) z_api_Token)))]⟩) ?_
     obtain rfl := Option.some.inj h
     exact ⟨rfl, _, rfl, rfl⟩
    refine ff (b := (decide ((p0.getD (Int.toNat xt8_9h) z_api_Token).Kind = 1))) (decide_eq_false c2) ?_
    refine sr0 L 221 [] [] [] (S' := ⟨[(3, .cv (.own .t_string 21900)), (5, .P 212), (6, .cv (.ro .t_api_Token p0)), (7, .I (p0.length : Int)), (8, .I xt8_9h), (13, .I ((p0.getD (Int.toNat xt8_9h) z_api_Token).Kind)), (14, .B (decide ((p0.getD (Int.toNat xt8_9h) z_api_Token).Kind = 2)))], [(212, .raw (d_api_Token (p0.getD (Int.toNat xt8_9h) z_api_Token))), (21900, .lst .t_string x21900)]⟩) ?_
    rcases ite_some h with ⟨c3, h⟩ | ⟨c3, h⟩
    ·refine tt (b := (decide ((p0.getD (Int.toNat xt8_9h) z_api_Token).Kind = 2))) (decide_eq_true c3) ?_
     refine awp_turn (Turns.trans (Turns.kp (S' := ⟨[(3, .cv (.own .t_string 21900)), (5, .P 212), (6, .cv (.ro .t_api_Token p0)), (7, .I (p0.length : Int)), (8, .I xt8_9h), (13, .I ((p0.getD (Int.toNat xt8_9h) z_api_Token).Kind)), (14, .B (decide ((p0.getD (Int.toNat xt8_9h) z_api_Token).Kind = 2)))], [(212, .raw (d_api_Token (p0.getD (Int.toNat xt8_9h) z_api_Token))), (21900, .lst .t_string x21900)]⟩)) (Turns.rn [(212, 24601), (21900, 24600)] (S' := ⟨[(3, .cv (.own .t_string 24600)), (5, .P 24601), (6, .cv (.ro .t_api_Token p0)), (7, .I (p0.length : Int)), (8, .I xt8_9h), (13, .I ((p0.getD (Int.toNat xt8_9h) z_api_Token).Kind)), (14, .B (decide ((p0.getD (Int.toNat xt8_9h) z_api_Token).Kind = 2)))], [(24601, .raw (d_api_Token (p0.getD (Int.toNat xt8_9h) z_api_Token))), (24600, .lst .t_string x21900)]⟩))) ?_
     refine sk (S' := ⟨[(3, .cv (.own .t_string 24600)), (5, .P 24601), (6, .cv (.ro .t_api_Token p0)), (7, .I (p0.length : Int)), (8, .I xt8_9h), (13, .I ((p0.getD (Int.toNat xt8_9h) z_api_Token).Kind)), (14, .B (decide ((p0.getD (Int.toNat xt8_9h) z_api_Token).Kind = 2)))], [(24600, .lst .t_string x21900), (24601, .raw (d_api_Token (p0.getD (Int.toNat xt8_9h) z_api_Token)))]⟩) ?_
     obtain rfl := Option.some.inj h
     exact ⟨rfl, _, rfl, rfl⟩
    refine ff (b := (decide ((p0.getD (Int.toNat xt8_9h) z_api_Token).Kind = 2))) (decide_eq_false c3) ?_
    refine awp_post (ar0 L 224 [] [] [] (S' := ⟨[(3, .cv (.own .t_string 21900)), (5, .P 212), (6, .cv (.ro .t_api_Token p0)), (7, .I (p0.length : Int)), (8, .I xt8_9h), (13, .I ((p0.getD (Int.toNat xt8_9h) z_api_Token).Kind)), (14, .B (decide ((p0.getD (Int.toNat xt8_9h) z_api_Token).Kind = 5)))], [(212, .raw (d_api_Token (p0.getD (Int.toNat xt8_9h) z_api_Token))), (21900, .lst .t_string x21900)]⟩) ⟨rfl, rfl⟩) (Turns.trans (Turns.kp (S' := ⟨[(3, .cv (.own .t_string 21900)), (5, .P 212), (6, .cv (.ro .t_api_Token p0)), (7, .I (p0.length : Int)), (8, .I xt8_9h), (13, .I ((p0.getD (Int.toNat xt8_9h) z_api_Token).Kind)), (14, .B (decide ((p0.getD (Int.toNat xt8_9h) z_api_Token).Kind = 5)))], [(212, .raw (d_api_Token (p0.getD (Int.toNat xt8_9h) z_api_Token))), (21900, .lst .t_string x21900)]⟩)) (Turns.trans (Turns.rn [(212, 24601), (21900, 24600)] (S' := ⟨[(3, .cv (.own .t_string 24600)), (5, .P 24601), (6, .cv (.ro .t_api_Token p0)), (7, .I (p0.length : Int)), (8, .I xt8_9h), (13, .I ((p0.getD (Int.toNat xt8_9h) z_api_Token).Kind)), (14, .B (decide ((p0.getD (Int.toNat xt8_9h) z_api_Token).Kind = 5)))], [(24601, .raw (d_api_Token (p0.getD (Int.toNat xt8_9h) z_api_Token))), (24600, .lst .t_string x21900)]⟩)) (Turns.kp (S' := ⟨[(3, .cv (.own .t_string 24600)), (5, .P 24601), (6, .cv (.ro .t_api_Token p0)), (7, .I (p0.length : Int)), (8, .I xt8_9h), (13, .I ((p0.getD (Int.toNat xt8_9h) z_api_Token).Kind)), (14, .B (decide ((p0.getD (Int.toNat xt8_9h) z_api_Token).Kind = 5)))], [(24600, .lst .t_string x21900), (24601, .raw (d_api_Token (p0.getD (Int.toNat xt8_9h) z_api_Token)))]⟩)))) ?_
    obtain rfl := Option.some.inj h
    exact ⟨rfl, _, rfl, rfl⟩
   ·rintro e S ⟨rfl, xt14_23, rfl, rfl⟩
    rcases ite_some h with ⟨c4, h⟩ | ⟨c4, h⟩
    ·refine tt (b := xt14_23) (c4) ?_
     obtain ⟨g2, h⟩ := guard_some h
     refine ar L 227 [] [] [] (cs := [(x21900.length + ([(p0.getD (Int.toNat xt8_9h) z_api_Token).Text] : List (List UInt8)).length) * 16 ≤ 140737488355328, True]) (S' := ⟨[(3, .cv (.own .t_string 24600)), (6, .cv (.ro .t_api_Token p0)), (7, .I (p0.length : Int)), (8, .I xt8_9h)], [(24600, .lst .t_string (x21900 ++ ([(p0.getD (Int.toNat xt8_9h) z_api_Token).Text] : List (List UInt8))))]⟩) (And.intro g2 trivial) ?_
     refine awp_post (ar0 L 256 [] [] [] (S' := ⟨[(3, .cv (.own .t_string 24600)), (6, .cv (.ro .t_api_Token p0)), (7, .I (p0.length : Int)), (8, .I (IntKind.i64.wrap (xt8_9h + 1)))], [(24600, .lst .t_string (x21900 ++ ([(p0.getD (Int.toNat xt8_9h) z_api_Token).Text] : List (List UInt8))))]⟩) ⟨rfl, rfl⟩) (Turns.trans (Turns.kp (S' := ⟨[(3, .cv (.own .t_string 24600)), (6, .cv (.ro .t_api_Token p0)), (7, .I (p0.length : Int)), (8, .I (IntKind.i64.wrap (xt8_9h + 1)))], [(24600, .lst .t_string (x21900 ++ ([(p0.getD (Int.toNat xt8_9h) z_api_Token).Text] : List (List UInt8))))]⟩)) (Turns.trans (Turns.rn [(24600, 21900)] (S' := ⟨[(3, .cv (.own .t_string 21900)), (6, .cv (.ro .t_api_Token p0)), (7, .I (p0.length : Int)), (8, .I (IntKind.i64.wrap (xt8_9h + 1)))], [(21900, .lst .t_string (x21900 ++ ([(p0.getD (Int.toNat xt8_9h) z_api_Token).Text] : List (List UInt8))))]⟩)) (Turns.kp (S' := ⟨[(3, .cv (.own .t_string 21900)), (6, .cv (.ro .t_api_Token p0)), (7, .I (p0.length : Int)), (8, .I (IntKind.i64.wrap (xt8_9h + 1)))], [(21900, .lst .t_string (x21900 ++ ([(p0.getD (Int.toNat xt8_9h) z_api_Token).Text] : List (List UInt8))))]⟩)))) ?_
     exact ⟨k, Nat.lt_succ_self k, _, _, rfl, h⟩
    refine ff (b := xt14_23) (eq_false_of_ne_true c4) ?_
    refine sr0 L 234 [] [] [] (S' := ⟨[(3, .cv (.own .t_string 24600)), (5, .P 24601), (6, .cv (.ro .t_api_Token p0)), (7, .I (p0.length : Int)), (8, .I xt8_9h), (13, .I ((p0.getD (Int.toNat xt8_9h) z_api_Token).Kind)), (23, .B (decide ((p0.getD (Int.toNat xt8_9h) z_api_Token).Kind = 3)))], [(24600, .lst .t_string x21900), (24601, .raw (d_api_Token (p0.getD (Int.toNat xt8_9h) z_api_Token)))]⟩) ?_
    rcases ite_some h with ⟨c5, h⟩ | ⟨c5, h⟩
    ·refine tt (b := (decide ((p0.getD (Int.toNat xt8_9h) z_api_Token).Kind = 3))) (decide_eq_true c5) ?_
     obtain ⟨g3, h⟩ := guard_some h
     obtain ⟨g4, h⟩ := guard_some h
     refine ar L 237 [] [(3, .cv (.str (Lib.itoa ((p0.getD (Int.toNat xt8_9h) z_api_Token).Int))))] [] (cs := [PCall V P 31 [.I ((p0.getD (Int.toNat xt8_9h) z_api_Token).Int)] (.cv (.str (Lib.itoa ((p0.getD (Int.toNat xt8_9h) z_api_Token).Int)))), True, (x21900.length + ([(Lib.itoa ((p0.getD (Int.toNat xt8_9h) z_api_Token).Int))] : List (List UInt8)).length) * 16 ≤ 140737488355328, True]) (S' := ⟨[(3, .cv (.own .t_string 24600)), (6, .cv (.ro .t_api_Token p0)), (7, .I (p0.length : Int)), (8, .I xt8_9h)], [(24600, .lst .t_string ((x21900 ++ ([(Lib.itoa ((p0.getD (Int.toNat xt8_9h) z_api_Token).Int))] : List (List UInt8)))))]⟩) (And.intro (strconv_Itoa.ok ((p0.getD (Int.toNat xt8_9h) z_api_Token).Int) g3.1 g3.2) (And.intro trivial (And.intro g4 trivial))) ?_
     refine awp_post (ar0 L 256 [] [] [] (S' := ⟨[(3, .cv (.own .t_string 24600)), (6, .cv (.ro .t_api_Token p0)), (7, .I (p0.length : Int)), (8, .I (IntKind.i64.wrap (xt8_9h + 1)))], [(24600, .lst .t_string ((x21900 ++ ([(Lib.itoa ((p0.getD (Int.toNat xt8_9h) z_api_Token).Int))] : List (List UInt8)))))]⟩) ⟨rfl, rfl⟩) (Turns.trans (Turns.kp (S' := ⟨[(3, .cv (.own .t_string 24600)), (6, .cv (.ro .t_api_Token p0)), (7, .I (p0.length : Int)), (8, .I (IntKind.i64.wrap (xt8_9h + 1)))], [(24600, .lst .t_string ((x21900 ++ ([(Lib.itoa ((p0.getD (Int.toNat xt8_9h) z_api_Token).Int))] : List (List UInt8)))))]⟩)) (Turns.trans (Turns.rn [(24600, 21900)] (S' := ⟨[(3, .cv (.own .t_string 21900)), (6, .cv (.ro .t_api_Token p0)), (7, .I (p0.length : Int)), (8, .I (IntKind.i64.wrap (xt8_9h + 1)))], [(21900, .lst .t_string ((x21900 ++ ([(Lib.itoa ((p0.getD (Int.toNat xt8_9h) z_api_Token).Int))] : List (List UInt8)))))]⟩)) (Turns.kp (S' := ⟨[(3, .cv (.own .t_string 21900)), (6, .cv (.ro .t_api_Token p0)), (7, .I (p0.length : Int)), (8, .I (IntKind.i64.wrap (xt8_9h + 1)))], [(21900, .lst .t_string ((x21900 ++ ([(Lib.itoa ((p0.getD (Int.toNat xt8_9h) z_api_Token).Int))] : List (List UInt8)))))]⟩)))) ?_
     exact ⟨k, Nat.lt_succ_self k, _, _, rfl, h⟩
    refine ff (b := (decide ((p0.getD (Int.toNat xt8_9h) z_api_Token).Kind = 3))) (decide_eq_false c5) ?_
    refine sr0 L 245 [] [] [] (S' := ⟨[(3, .cv (.own .t_string 24600)), (5, .P 24601), (6, .cv (.ro .t_api_Token p0)), (7, .I (p0.length : Int)), (8, .I xt8_9h), (31, .B (decide ((p0.getD (Int.toNat xt8_9h) z_api_Token).Kind = 4)))], [(24600, .lst .t_string x21900), (24601, .raw (d_api_Token (p0.getD (Int.toNat xt8_9h) z_api_Token)))]⟩) ?_
    rcases ite_some h with ⟨c6, h⟩ | ⟨c6, h⟩
    ·refine tt (b := (decide ((p0.getD (Int.toNat xt8_9h) z_api_Token).Kind = 4))) (decide_eq_true c6) ?_
     obtain ⟨a1, h1, h⟩ := bind_some h
     obtain ⟨g5, h⟩ := guard_some h
     refine ar L 248 [] [(3, .cv (.str a1))] [] (cs := [PCall V P 16 [.cv (.str ((p0.getD (Int.toNat xt8_9h) z_api_Token).Text))] (.cv (.str a1)), True, (x21900.length + ([a1] : List (List UInt8)).length) * 16 ≤ 140737488355328, True]) (S' := ⟨[(3, .cv (.own .t_string 24600)), (6, .cv (.ro .t_api_Token p0)), (7, .I (p0.length : Int)), (8, .I xt8_9h)], [(24600, .lst .t_string (x21900 ++ ([a1] : List (List UInt8))))]⟩) (And.intro (token_Quote.ok h1) (And.intro trivial (And.intro g5 trivial))) ?_
     refine awp_post (ar0 L 256 [] [] [] (S' := ⟨[(3, .cv (.own .t_string 24600)), (6, .cv (.ro .t_api_Token p0)), (7, .I (p0.length : Int)), (8, .I (IntKind.i64.wrap (xt8_9h + 1)))], [(24600, .lst .t_string (x21900 ++ ([a1] : List (List UInt8))))]⟩) ⟨rfl, rfl⟩) (Turns.trans (Turns.kp (S' := ⟨[(3, .cv (.own .t_string 24600)), (6, .cv (.ro .t_api_Token p0)), (7, .I (p0.length : Int)), (8, .I (IntKind.i64.wrap (xt8_9h + 1)))], [(24600, .lst .t_string (x21900 ++ ([a1] : List (List UInt8))))]⟩)) (Turns.trans (Turns.rn [(24600, 21900)] (S' := ⟨[(3, .cv (.own .t_string 21900)), (6, .cv (.ro .t_api_Token p0)), (7, .I (p0.length : Int)), (8, .I (IntKind.i64.wrap (xt8_9h + 1)))], [(21900, .lst .t_string (x21900 ++ ([a1] : List (List UInt8))))]⟩)) (Turns.kp (S' := ⟨[(3, .cv (.own .t_string 21900)), (6, .cv (.ro .t_api_Token p0)), (7, .I (p0.length : Int)), (8, .I (IntKind.i64.wrap (xt8_9h + 1)))], [(21900, .lst .t_string (x21900 ++ ([a1] : List (List UInt8))))]⟩)))) ?_
     exact ⟨k, Nat.lt_succ_self k, _, _, rfl, h⟩
    refine ff (b := (decide ((p0.getD (Int.toNat xt8_9h) z_api_Token).Kind = 4))) (decide_eq_false c6) ?_
    refine awp_skip' ?_
    refine awp_post (ar0 L 256 [] [] [] (S' := ⟨[(3, .cv (.own .t_string 24600)), (6, .cv (.ro .t_api_Token p0)), (7, .I (p0.length : Int)), (8, .I (IntKind.i64.wrap (xt8_9h + 1)))], [(24600, .lst .t_string x21900)]⟩) ⟨rfl, rfl⟩) (Turns.trans (Turns.kp (S' := ⟨[(3, .cv (.own .t_string 24600)), (6, .cv (.ro .t_api_Token p0)), (7, .I (p0.length : Int)), (8, .I (IntKind.i64.wrap (xt8_9h + 1)))], [(24600, .lst .t_string x21900)]⟩)) (Turns.trans (Turns.rn [(24600, 21900)] (S' := ⟨[(3, .cv (.own .t_string 21900)), (6, .cv (.ro .t_api_Token p0)), (7, .I (p0.length : Int)), (8, .I (IntKind.i64.wrap (xt8_9h + 1)))], [(21900, .lst .t_string x21900)]⟩)) (Turns.kp (S' := ⟨[(3, .cv (.own .t_string 21900)), (6, .cv (.ro .t_api_Token p0)), (7, .I (p0.length : Int)), (8, .I (IntKind.i64.wrap (xt8_9h + 1)))], [(21900, .lst .t_string x21900)]⟩)))) ?_
    exact ⟨k, Nat.lt_succ_self k, _, _, rfl, h⟩
  refine ff (b := (decide (xt8_9h < (p0.length : Int)))) (decide_eq_false c1) ?_
  refine awp_turn (Turns.trans (Turns.kp (S' := ⟨[(3, .cv (.own .t_string 21900))], [(21900, .lst .t_string x21900)]⟩)) (Turns.rn [(21900, 21800)] (S' := ⟨[(3, .cv (.own .t_string 21800))], [(21800, .lst .t_string x21900)]⟩))) ?_
  refine ex (S' := ⟨[(3, .cv (.own .t_string 21800))], [(21800, .lst .t_string x21900)]⟩) ?_
  obtain rfl := Option.some.inj h
  exact ⟨rfl, _, rfl, rfl⟩
 ·rintro e S ⟨rfl, x21800, rfl, rfl⟩
  refine ⟨_, Turns.refl, ?_⟩
  refine awp_seq ?_
  obtain ⟨g6, h⟩ := guard_some h
  refine ar L 259 [] [(1, .cv (.str (Lib.join x21800 ([32] : List UInt8))))] [] (cs := [PCall V P 32 [.cv (.ro .t_string x21800), .cv (.str ([32] : List UInt8))] (.cv (.str (Lib.join x21800 ([32] : List UInt8)))), True]) (S' := ⟨[(2, .cv (.str (Lib.join x21800 ([32] : List UInt8))))], []⟩) (And.intro (strings_Join.ok x21800 ([32] : List UInt8) g6.1 g6.2) trivial) ?_
  refine awp_ret ?_
  obtain rfl := Option.some.inj h
  exact er (.cv (.str (Lib.join x21800 ([32] : List UInt8))))
theorem token_Spell.ok {K : Nat} {p0 : List api_Token} {r : List UInt8} (h : token_Spell K p0 = some r) : PCall V P 18 [.cv (.ro .t_api_Token p0)] (.cv (.str r)) := ECall.pcall (eo (fn := Tryd.f18) (n := 42) (m := 100) fun Γ => token_Spell.body h) (by kernel_rfl)
def workflowref07_decimal.l9 (K : Nat) : Nat → (List UInt8) → Int → Option (List UInt8)
 | 0, _, _ => none
 | k + 1, xt3_9h, xt4_9h => (Option.bind ((if (Int.tmod xt4_9h 10) < 0 then some (IntKind.i64.wrap (0 - (Int.tmod xt4_9h 10))) else some (Int.tmod xt4_9h 10)) : Option Int) (fun xt5_14 => (if (0 : Int) ≤ xt5_14 ∧ xt5_14 ≤ (IntKind.i64.wrap (xt5_14 + 1)) ∧ (IntKind.i64.wrap (xt5_14 + 1)) ≤ (([48, 49, 50, 51, 52, 53, 54, 55, 56, 57] : List UInt8).length : Int) then (if (slc ([48, 49, 50, 51, 52, 53, 54, 55, 56, 57] : List UInt8) xt5_14 (IntKind.i64.wrap (xt5_14 + 1))).length + xt3_9h.length ≤ 9223372036854775807 then (if (IntKind.i64.wrap (Int.tdiv xt4_9h 10)) = 0 then some ((slc ([48, 49, 50, 51, 52, 53, 54, 55, 56, 57] : List UInt8) xt5_14 (IntKind.i64.wrap (xt5_14 + 1))) ++ xt3_9h) else workflowref07_decimal.l9 K k ((slc ([48, 49, 50, 51, 52, 53, 54, 55, 56, 57] : List UInt8) xt5_14 (IntKind.i64.wrap (xt5_14 + 1))) ++ xt3_9h) (IntKind.i64.wrap (Int.tdiv xt4_9h 10))) else none) else none)))
def workflowref07_decimal (K : Nat) (p0 : Int) : Option (List UInt8) := (Option.bind (workflowref07_decimal.l9 K K ([] : List UInt8) p0 : Option (List UInt8)) (fun xt3_9 => (if p0 < 0 then (if ([45] : List UInt8).length + xt3_9.length ≤ 9223372036854775807 then some (([45] : List UInt8) ++ xt3_9) else none) else some xt3_9)))
theorem workflowref07_decimal.body {Γ : Ent} {K : Nat} {p0 : Int} {r : List UInt8} (h : workflowref07_decimal K p0 = some r) : AWp V P 29 100 Γ (Tryd.f33.body.getD .skip) (EndsE P V Tryd.f33 (.cv (.str r)) []) ⟨args0 0 [.I p0], []⟩ := by
 unfold workflowref07_decimal at h
 refine sr0 L 200 [] [] [] (S' := ⟨[(0, .I p0)], []⟩) ?_
 refine sr0 L 202 [] [] [] (S' := ⟨[(0, .I p0), (3, .cv (.str ([] : List UInt8)))], []⟩) ?_
 refine awp_seq ?_
 refine sr0 L 204 [] [] [] (S' := ⟨[(0, .I p0), (3, .cv (.str ([] : List UInt8))), (4, .I p0)], []⟩) ?_
 refine awp_block ?_
 refine kp (S' := ⟨[(0, .I p0), (3, .cv (.str ([] : List UInt8))), (4, .I p0)], []⟩) ?_
 obtain ⟨o2, hp2, h⟩ := bind_some h
 refine awp_conseq (Q' := fun e S => (e = .exit 0 ∧ ∃ xt3_9 : List UInt8, S = ⟨[(0, .I p0), (3, .cv (.str xt3_9))], []⟩ ∧ xt3_9 = o2)) (awp_loop (fun k S => ∃ xt3_9h : List UInt8, ∃ xt4_9h : Int, S = ⟨[(0, .I p0), (3, .cv (.str xt3_9h)), (4, .I xt4_9h)], []⟩ ∧ workflowref07_decimal.l9 K k xt3_9h xt4_9h = some o2) ?_ ⟨_, _, rfl, hp2⟩) ?_
 ·clear h hp2
  intro k S hS
  obtain ⟨xt3_9h, xt4_9h, rfl, h⟩ := hS
  cases k with
  | zero => cases h
  | succ k =>
  unfold workflowref07_decimal.l9 at h
  refine awp_seq ?_
  refine awp_block ?_
  refine sr L 207 [] [] [] (cs := [10 ≠ (0 : Int)]) (S' := ⟨[(0, .I p0), (3, .cv (.str xt3_9h)), (4, .I xt4_9h), (5, .I (Int.tmod xt4_9h 10))], []⟩) (show 10 ≠ (0 : Int) from by decide) ?_
  obtain ⟨o1, hp1, h⟩ := bind_some h
  refine awp_seq (awp_mono (Q' := fun e S => (e = .normal ∧ ∃ xt5_14 : Int, S = ⟨[(0, .I p0), (3, .cv (.str xt3_9h)), (4, .I xt4_9h), (5, .I xt5_14)], []⟩ ∧ xt5_14 = o1)) ?_ ?_)
  ·clear h
   replace h := hp1
   refine sr0 L 211 [] [] [] (S' := ⟨[(0, .I p0), (3, .cv (.str xt3_9h)), (4, .I xt4_9h), (5, .I (Int.tmod xt4_9h 10)), (12, .B (decide ((Int.tmod xt4_9h 10) < 0)))], []⟩) ?_
   rcases ite_some h with ⟨c1, h⟩ | ⟨c1, h⟩
   ·refine tt (b := (decide ((Int.tmod xt4_9h 10) < 0))) (decide_eq_true c1) ?_
    refine ar0 L 214 [] [] [] (S' := ⟨[(0, .I p0), (3, .cv (.str xt3_9h)), (4, .I xt4_9h), (5, .I (IntKind.i64.wrap (0 - (Int.tmod xt4_9h 10))))], []⟩) ?_
    obtain rfl := Option.some.inj h
    exact ⟨rfl, _, rfl, rfl⟩
   refine ff (b := (decide ((Int.tmod xt4_9h 10) < 0))) (decide_eq_false c1) ?_
   refine sk (S' := ⟨[(0, .I p0), (3, .cv (.str xt3_9h)), (4, .I xt4_9h), (5, .I (Int.tmod xt4_9h 10))], []⟩) ?_
   obtain rfl := Option.some.inj h
   exact ⟨rfl, _, rfl, rfl⟩
  ·rintro e S ⟨rfl, xt5_14, rfl, rfl⟩
   refine awp_seq ?_
   obtain ⟨g1, h⟩ := guard_some h
   obtain ⟨g2, h⟩ := guard_some h
   refine ar L 218 [] [] [] (cs := [(0 : Int) ≤ xt5_14, xt5_14 ≤ (IntKind.i64.wrap (xt5_14 + 1)), (IntKind.i64.wrap (xt5_14 + 1)) ≤ (([48, 49, 50, 51, 52, 53, 54, 55, 56, 57] : List UInt8).length : Int), (slc ([48, 49, 50, 51, 52, 53, 54, 55, 56, 57] : List UInt8) xt5_14 (IntKind.i64.wrap (xt5_14 + 1))).length + xt3_9h.length ≤ 9223372036854775807]) (S' := ⟨[(0, .I p0), (3, .cv (.str ((slc ([48, 49, 50, 51, 52, 53, 54, 55, 56, 57] : List UInt8) xt5_14 (IntKind.i64.wrap (xt5_14 + 1))) ++ xt3_9h))), (4, .I xt4_9h)], []⟩) (And.intro g1.1 (And.intro g1.2.1 (And.intro g1.2.2 g2))) ?_
   refine sr L 226 [] [] [] (cs := [10 ≠ (0 : Int)]) (S' := ⟨[(0, .I p0), (3, .cv (.str ((slc ([48, 49, 50, 51, 52, 53, 54, 55, 56, 57] : List UInt8) xt5_14 (IntKind.i64.wrap (xt5_14 + 1))) ++ xt3_9h))), (4, .I xt4_9h), (23, .B (decide ((IntKind.i64.wrap (Int.tdiv xt4_9h 10)) = 0)))], []⟩) (show 10 ≠ (0 : Int) from by decide) ?_
   rcases ite_some h with ⟨c2, h⟩ | ⟨c2, h⟩
   ·refine tt (b := (decide ((IntKind.i64.wrap (Int.tdiv xt4_9h 10)) = 0))) (decide_eq_true c2) ?_
    refine ex (S' := ⟨[(0, .I p0), (3, .cv (.str ((slc ([48, 49, 50, 51, 52, 53, 54, 55, 56, 57] : List UInt8) xt5_14 (IntKind.i64.wrap (xt5_14 + 1))) ++ xt3_9h)))], []⟩) ?_
    obtain rfl := Option.some.inj h
    exact ⟨rfl, _, rfl, rfl⟩
   refine ff (b := (decide ((IntKind.i64.wrap (Int.tdiv xt4_9h 10)) = 0))) (decide_eq_false c2) ?_
   refine awp_skip' ?_
   refine ar L 230 [] [] [] (cs := [10 ≠ (0 : Int)]) (S' := ⟨[(0, .I p0), (3, .cv (.str ((slc ([48, 49, 50, 51, 52, 53, 54, 55, 56, 57] : List UInt8) xt5_14 (IntKind.i64.wrap (xt5_14 + 1))) ++ xt3_9h))), (4, .I (IntKind.i64.wrap (Int.tdiv xt4_9h 10)))], []⟩) (show 10 ≠ (0 : Int) from by decide) ?_
   exact ⟨k, Nat.lt_succ_self k, _, _, rfl, h⟩
 ·rintro e S ⟨rfl, xt3_9, rfl, rfl⟩
  refine ⟨_, Turns.refl, ?_⟩
  refine awp_seq ?_
  refine sr0 L 234 [] [] [] (S' := ⟨[(3, .cv (.str xt3_9)), (25, .B (decide (p0 < 0)))], []⟩) ?_
  rcases ite_some h with ⟨c3, h⟩ | ⟨c3, h⟩
  ·refine tt (b := (decide (p0 < 0))) (decide_eq_true c3) ?_
   obtain ⟨g3, h⟩ := guard_some h
   refine ar L 237 [] [] [] (cs := [([45] : List UInt8).length + xt3_9.length ≤ 9223372036854775807]) (S' := ⟨[(3, .cv (.str (([45] : List UInt8) ++ xt3_9)))], []⟩) g3 ?_
   refine sr0 L 241 [] [] [] (S' := ⟨[(2, .cv (.str (([45] : List UInt8) ++ xt3_9)))], []⟩) ?_
   refine awp_ret ?_
   obtain rfl := Option.some.inj h
   exact er (.cv (.str (([45] : List UInt8) ++ xt3_9)))
  refine ff (b := (decide (p0 < 0))) (decide_eq_false c3) ?_
  refine awp_skip' ?_
  refine sr0 L 241 [] [] [] (S' := ⟨[(2, .cv (.str xt3_9))], []⟩) ?_
  refine awp_ret ?_
  obtain rfl := Option.some.inj h
  exact er (.cv (.str xt3_9))
theorem workflowref07_decimal.ok {K : Nat} {p0 : Int} {r : List UInt8} (h : workflowref07_decimal K p0 = some r) : PCall V P 33 [.I p0] (.cv (.str r)) := ECall.pcall (eo (fn := Tryd.f33) (n := 29) (m := 100) fun Γ => workflowref07_decimal.body h) (by kernel_rfl)
def workflowref07_Quote.l11 (K : Nat) (p0 : List UInt8) : Nat → (List UInt8) → Int → Option (List UInt8)
 | 0, _, _ => none
 | k + 1, xt4_11h, xt5_11h => (if xt5_11h < (p0.length : Int) then (if (0 : Int) ≤ xt5_11h ∧ (xt5_11h : Int) < (p0.length : Int) then (Option.bind (((if ((p0.getD (Int.toNat xt5_11h) 0).toNat : Int) = 34 then some true else some (decide (((p0.getD (Int.toNat xt5_11h) 0).toNat : Int) = 92)))) : Option Bool) (fun xt34_23 => (if xt34_23 = true then (if xt4_11h.length + ([92] : List UInt8).length ≤ 9223372036854775807 then (if xt5_11h ≤ (IntKind.i64.wrap (xt5_11h + 1)) ∧ (IntKind.i64.wrap (xt5_11h + 1)) ≤ (p0.length : Int) then (if (xt4_11h ++ ([92] : List UInt8)).length + (slc p0 xt5_11h (IntKind.i64.wrap (xt5_11h + 1))).length ≤ 9223372036854775807 then workflowref07_Quote.l11 K p0 k ((xt4_11h ++ ([92] : List UInt8)) ++ (slc p0 xt5_11h (IntKind.i64.wrap (xt5_11h + 1)))) (IntKind.i64.wrap (xt5_11h + 1)) else none) else none) else none) else (if ((p0.getD (Int.toNat xt5_11h) 0).toNat : Int) = 10 then (if xt4_11h.length + ([92, 110] : List UInt8).length ≤ 9223372036854775807 then workflowref07_Quote.l11 K p0 k (xt4_11h ++ ([92, 110] : List UInt8)) (IntKind.i64.wrap (xt5_11h + 1)) else none) else (if ((p0.getD (Int.toNat xt5_11h) 0).toNat : Int) = 9 then (if xt4_11h.length + ([92, 116] : List UInt8).length ≤ 9223372036854775807 then workflowref07_Quote.l11 K p0 k (xt4_11h ++ ([92, 116] : List UInt8)) (IntKind.i64.wrap (xt5_11h + 1)) else none) else (Option.bind (((if ((p0.getD (Int.toNat xt5_11h) 0).toNat : Int) ≥ 32 then some (decide (((p0.getD (Int.toNat xt5_11h) 0).toNat : Int) ≤ 126)) else some false)) : Option Bool) (fun xt59_35 => (if xt59_35 = true then (if xt5_11h ≤ (IntKind.i64.wrap (xt5_11h + 1)) ∧ (IntKind.i64.wrap (xt5_11h + 1)) ≤ (p0.length : Int) then (if xt4_11h.length + (slc p0 xt5_11h (IntKind.i64.wrap (xt5_11h + 1))).length ≤ 9223372036854775807 then workflowref07_Quote.l11 K p0 k (xt4_11h ++ (slc p0 xt5_11h (IntKind.i64.wrap (xt5_11h + 1)))) (IntKind.i64.wrap (xt5_11h + 1)) else none) else none) else (if xt4_11h.length + ([92, 120] : List UInt8).length ≤ 9223372036854775807 then (if (0 : Int) ≤ (IntKind.u8.wrap (Int.tdiv ((p0.getD (Int.toNat xt5_11h) 0).toNat : Int) 16)) ∧ (IntKind.u8.wrap (Int.tdiv ((p0.getD (Int.toNat xt5_11h) 0).toNat : Int) 16)) ≤ (IntKind.u8.wrap ((IntKind.u8.wrap (Int.tdiv ((p0.getD (Int.toNat xt5_11h) 0).toNat : Int) 16)) + 1)) ∧ ((IntKind.u8.wrap ((IntKind.u8.wrap (Int.tdiv ((p0.getD (Int.toNat xt5_11h) 0).toNat : Int) 16)) + 1))) ≤ (([48, 49, 50, 51, 52, 53, 54, 55, 56, 57, 97, 98, 99, 100, 101, 102] : List UInt8).length : Int) then (if (xt4_11h ++ ([92, 120] : List UInt8)).length + ((slc ([48, 49, 50, 51, 52, 53, 54, 55, 56, 57, 97, 98, 99, 100, 101, 102] : List UInt8) (IntKind.u8.wrap (Int.tdiv ((p0.getD (Int.toNat xt5_11h) 0).toNat : Int) 16)) ((IntKind.u8.wrap ((IntKind.u8.wrap (Int.tdiv ((p0.getD (Int.toNat xt5_11h) 0).toNat : Int) 16)) + 1))))).length ≤ 9223372036854775807 then (if (0 : Int) ≤ (Int.tmod ((p0.getD (Int.toNat xt5_11h) 0).toNat : Int) 16) ∧ (Int.tmod ((p0.getD (Int.toNat xt5_11h) 0).toNat : Int) 16) ≤ (IntKind.u8.wrap ((Int.tmod ((p0.getD (Int.toNat xt5_11h) 0).toNat : Int) 16) + 1)) ∧ ((IntKind.u8.wrap ((Int.tmod ((p0.getD (Int.toNat xt5_11h) 0).toNat : Int) 16) + 1))) ≤ (([48, 49, 50, 51, 52, 53, 54, 55, 56, 57, 97, 98, 99, 100, 101, 102] : List UInt8).length : Int) then (if (((xt4_11h ++ ([92, 120] : List UInt8)) ++ (slc ([48, 49, 50, 51, 52, 53, 54, 55, 56, 57, 97, 98, 99, 100, 101, 102] : List UInt8) (IntKind.u8.wrap (Int.tdiv ((p0.getD (Int.toNat xt5_11h) 0).toNat : Int) 16)) ((IntKind.u8.wrap ((IntKind.u8.wrap (Int.tdiv ((p0.getD (Int.toNat xt5_11h) 0).toNat : Int) 16)) + 1)))))).length + ((slc ([48, 49, 50, 51, 52, 53, 54, 55, 56, 57, 97, 98, 99, 100, 101, 102] : List UInt8) (Int.tmod ((p0.getD (Int.toNat xt5_11h) 0).toNat : Int) 16) ((IntKind.u8.wrap ((Int.tmod ((p0.getD (Int.toNat xt5_11h) 0).toNat : Int) 16) + 1))))).length ≤ 9223372036854775807 then workflowref07_Quote.l11 K p0 k ((((xt4_11h ++ ([92, 120] : List UInt8)) ++ (slc ([48, 49, 50, 51, 52, 53, 54, 55, 56, 57, 97, 98, 99, 100, 101, 102] : List UInt8) (IntKind.u8.wrap (Int.tdiv ((p0.getD (Int.toNat xt5_11h) 0).toNat : Int) 16)) ((IntKind.u8.wrap ((IntKind.u8.wrap (Int.tdiv ((p0.getD (Int.toNat xt5_11h) 0).toNat : Int) 16)) + 1))))) ++ (slc ([48, 49, 50, 51, 52, 53, 54, 55, 56, 57, 97, 98, 99, 100, 101, 102] : List UInt8) (Int.tmod ((p0.getD (Int.toNat xt5_11h) 0).toNat : Int) 16) ((IntKind.u8.wrap ((Int.tmod ((p0.getD (Int.toNat xt5_11h) 0).toNat : Int) 16) + 1)))))) (IntKind.i64.wrap (xt5_11h + 1)) else none) else none) else none) else none) else none))))))))) else none) else some xt4_11h)
def workflowref07_Quote (K : Nat) (p0 : List UInt8) : Option (List UInt8) := (Option.bind (workflowref07_Quote.l11 K p0 K ([34] : List UInt8) 0 : Option (List UInt8)) (fun xt4_11 => (if xt4_11.length + ([34] : List UInt8).length ≤ 9223372036854775807 then some (xt4_11 ++ ([34] : List UInt8)) else none)))
theorem workflowref07_Quote.body {Γ : Ent} {K : Nat} {p0 : List UInt8} {r : List UInt8} (h : workflowref07_Quote K p0 = some r) : AWp V P 75 100 Γ (Tryd.f20.body.getD .skip) (EndsE P V Tryd.f20 (.cv (.str r)) []) ⟨args0 0 [.cv (.str p0)], []⟩ := by
 unfold workflowref07_Quote at h
 refine sr0 L 200 [] [] [] (S' := ⟨[(0, .cv (.str p0))], []⟩) ?_
 refine sr0 L 202 [] [] [] (S' := ⟨[(0, .cv (.str p0)), (3, .cv (.str ([48, 49, 50, 51, 52, 53, 54, 55, 56, 57, 97, 98, 99, 100, 101, 102] : List UInt8)))], []⟩) ?_
 refine sr0 L 204 [] [] [] (S' := ⟨[(0, .cv (.str p0)), (3, .cv (.str ([48, 49, 50, 51, 52, 53, 54, 55, 56, 57, 97, 98, 99, 100, 101, 102] : List UInt8))), (4, .cv (.str ([34] : List UInt8)))], []⟩) ?_
 refine awp_seq ?_
 refine sr0 L 206 [] [] [] (S' := ⟨[(0, .cv (.str p0)), (3, .cv (.str ([48, 49, 50, 51, 52, 53, 54, 55, 56, 57, 97, 98, 99, 100, 101, 102] : List UInt8))), (4, .cv (.str ([34] : List UInt8))), (5, .I 0)], []⟩) ?_
 refine awp_block ?_
 refine kp (S' := ⟨[(0, .cv (.str p0)), (3, .cv (.str ([48, 49, 50, 51, 52, 53, 54, 55, 56, 57, 97, 98, 99, 100, 101, 102] : List UInt8))), (4, .cv (.str ([34] : List UInt8))), (5, .I 0)], []⟩) ?_
 obtain ⟨o3, hp3, h⟩ := bind_some h
 refine awp_conseq (Q' := fun e S => (e = .exit 0 ∧ ∃ xt4_11 : List UInt8, S = ⟨[(4, .cv (.str xt4_11))], []⟩ ∧ xt4_11 = o3)) (awp_loop (fun k S => ∃ xt4_11h : List UInt8, ∃ xt5_11h : Int, S = ⟨[(0, .cv (.str p0)), (3, .cv (.str ([48, 49, 50, 51, 52, 53, 54, 55, 56, 57, 97, 98, 99, 100, 101, 102] : List UInt8))), (4, .cv (.str xt4_11h)), (5, .I xt5_11h)], []⟩ ∧ workflowref07_Quote.l11 K p0 k xt4_11h xt5_11h = some o3) ?_ ⟨_, _, rfl, hp3⟩) ?_
 ·clear h hp3
  intro k S hS
  obtain ⟨xt4_11h, xt5_11h, rfl, h⟩ := hS
  cases k with
  | zero => cases h
  | succ k =>
  unfold workflowref07_Quote.l11 at h
  refine awp_seq ?_
  refine sr0 L 208 [] [] [] (S' := ⟨[(0, .cv (.str p0)), (3, .cv (.str ([48, 49, 50, 51, 52, 53, 54, 55, 56, 57, 97, 98, 99, 100, 101, 102] : List UInt8))), (4, .cv (.str xt4_11h)), (5, .I xt5_11h), (10, .B (decide (xt5_11h < (p0.length : Int))))], []⟩) ?_
  rcases ite_some h with ⟨c1, h⟩ | ⟨c1, h⟩
  ·refine tt (b := (decide (xt5_11h < (p0.length : Int)))) (decide_eq_true c1) ?_
   refine awp_skip' ?_
   refine awp_seq ?_
   refine awp_block ?_
   refine awp_seq ?_
   obtain ⟨g1, h⟩ := guard_some h
   refine ar L 213 [] [] [] (cs := [(0 : Int) ≤ xt5_11h, (xt5_11h : Int) < (p0.length : Int)]) (S' := ⟨[(0, .cv (.str p0)), (3, .cv (.str ([48, 49, 50, 51, 52, 53, 54, 55, 56, 57, 97, 98, 99, 100, 101, 102] : List UInt8))), (4, .cv (.str xt4_11h)), (5, .I xt5_11h), (6, .cv (.lit (.int .u8 ((p0.getD (Int.toNat xt5_11h) 0).toNat : Int))))], []⟩) (And.intro g1.1 g1.2) ?_
   refine awp_block ?_
   obtain ⟨o1, hp1, h⟩ := bind_some h
   refine awp_seq (awp_mono (Q' := fun e S => (e = .normal ∧ ∃ xt34_23 : Bool, S = ⟨[(0, .cv (.str p0)), (3, .cv (.str ([48, 49, 50, 51, 52, 53, 54, 55, 56, 57, 97, 98, 99, 100, 101, 102] : List UInt8))), (4, .cv (.str xt4_11h)), (5, .I xt5_11h), (6, .cv (.lit (.int .u8 ((p0.getD (Int.toNat xt5_11h) 0).toNat : Int)))), (34, .B xt34_23)], []⟩ ∧ xt34_23 = o1)) ?_ ?_)
   ·clear h
    replace h := hp1
    rcases ite_some h with ⟨c2, h⟩ | ⟨c2, h⟩
    ·refine ar L 218 [(2, true)] [] [] (cs := [(decide (((p0.getD (Int.toNat xt5_11h) 0).toNat : Int) = 34)) = true]) (S' := ⟨[(0, .cv (.str p0)), (3, .cv (.str ([48, 49, 50, 51, 52, 53, 54, 55, 56, 57, 97, 98, 99, 100, 101, 102] : List UInt8))), (4, .cv (.str xt4_11h)), (5, .I xt5_11h), (6, .cv (.lit (.int .u8 ((p0.getD (Int.toNat xt5_11h) 0).toNat : Int)))), (34, .B true)], []⟩) (decide_eq_true c2) ?_
     obtain rfl := Option.some.inj h
     exact ⟨rfl, _, rfl, rfl⟩
    refine ar L 218 [(2, false)] [] [] (cs := [(decide (((p0.getD (Int.toNat xt5_11h) 0).toNat : Int) = 34)) = false]) (S' := ⟨[(0, .cv (.str p0)), (3, .cv (.str ([48, 49, 50, 51, 52, 53, 54, 55, 56, 57, 97, 98, 99, 100, 101, 102] : List UInt8))), (4, .cv (.str xt4_11h)), (5, .I xt5_11h), (6, .cv (.lit (.int .u8 ((p0.getD (Int.toNat xt5_11h) 0).toNat : Int)))), (34, .B (decide (((p0.getD (Int.toNat xt5_11h) 0).toNat : Int) = 92)))], []⟩) (decide_eq_false c2) ?_
    obtain rfl := Option.some.inj h
    exact ⟨rfl, _, rfl, rfl⟩
   ·rintro e S ⟨rfl, xt34_23, rfl, rfl⟩
    rcases ite_some h with ⟨c3, h⟩ | ⟨c3, h⟩
    ·refine tt (b := xt34_23) (c3) ?_
     obtain ⟨g2, h⟩ := guard_some h
     obtain ⟨g3, h⟩ := guard_some h
     obtain ⟨g4, h⟩ := guard_some h
     refine ar L 226 [] [] [] (cs := [xt4_11h.length + ([92] : List UInt8).length ≤ 9223372036854775807, (0 : Int) ≤ xt5_11h, xt5_11h ≤ (IntKind.i64.wrap (xt5_11h + 1)), (IntKind.i64.wrap (xt5_11h + 1)) ≤ (p0.length : Int), (xt4_11h ++ ([92] : List UInt8)).length + (slc p0 xt5_11h (IntKind.i64.wrap (xt5_11h + 1))).length ≤ 9223372036854775807]) (S' := ⟨[(0, .cv (.str p0)), (3, .cv (.str ([48, 49, 50, 51, 52, 53, 54, 55, 56, 57, 97, 98, 99, 100, 101, 102] : List UInt8))), (4, .cv (.str ((xt4_11h ++ ([92] : List UInt8)) ++ (slc p0 xt5_11h (IntKind.i64.wrap (xt5_11h + 1)))))), (5, .I xt5_11h)], []⟩) (And.intro g2 (And.intro g1.1 (And.intro g3.1 (And.intro g3.2 g4)))) ?_
     refine ar0 L 289 [] [] [] (S' := ⟨[(0, .cv (.str p0)), (3, .cv (.str ([48, 49, 50, 51, 52, 53, 54, 55, 56, 57, 97, 98, 99, 100, 101, 102] : List UInt8))), (4, .cv (.str ((xt4_11h ++ ([92] : List UInt8)) ++ (slc p0 xt5_11h (IntKind.i64.wrap (xt5_11h + 1)))))), (5, .I (IntKind.i64.wrap (xt5_11h + 1)))], []⟩) ?_
     exact ⟨k, Nat.lt_succ_self k, _, _, rfl, h⟩
    refine ff (b := xt34_23) (eq_false_of_ne_true c3) ?_
    refine sr0 L 236 [] [] [] (S' := ⟨[(0, .cv (.str p0)), (3, .cv (.str ([48, 49, 50, 51, 52, 53, 54, 55, 56, 57, 97, 98, 99, 100, 101, 102] : List UInt8))), (4, .cv (.str xt4_11h)), (5, .I xt5_11h), (6, .cv (.lit (.int .u8 ((p0.getD (Int.toNat xt5_11h) 0).toNat : Int)))), (49, .B (decide (((p0.getD (Int.toNat xt5_11h) 0).toNat : Int) = 10)))], []⟩) ?_
    rcases ite_some h with ⟨c4, h⟩ | ⟨c4, h⟩
    ·refine tt (b := (decide (((p0.getD (Int.toNat xt5_11h) 0).toNat : Int) = 10))) (decide_eq_true c4) ?_
     obtain ⟨g5, h⟩ := guard_some h
     refine ar L 240 [] [] [] (cs := [xt4_11h.length + ([92, 110] : List UInt8).length ≤ 9223372036854775807]) (S' := ⟨[(0, .cv (.str p0)), (3, .cv (.str ([48, 49, 50, 51, 52, 53, 54, 55, 56, 57, 97, 98, 99, 100, 101, 102] : List UInt8))), (4, .cv (.str (xt4_11h ++ ([92, 110] : List UInt8)))), (5, .I xt5_11h)], []⟩) g5 ?_
     refine ar0 L 289 [] [] [] (S' := ⟨[(0, .cv (.str p0)), (3, .cv (.str ([48, 49, 50, 51, 52, 53, 54, 55, 56, 57, 97, 98, 99, 100, 101, 102] : List UInt8))), (4, .cv (.str (xt4_11h ++ ([92, 110] : List UInt8)))), (5, .I (IntKind.i64.wrap (xt5_11h + 1)))], []⟩) ?_
     exact ⟨k, Nat.lt_succ_self k, _, _, rfl, h⟩
    refine ff (b := (decide (((p0.getD (Int.toNat xt5_11h) 0).toNat : Int) = 10))) (decide_eq_false c4) ?_
    refine sr0 L 244 [] [] [] (S' := ⟨[(0, .cv (.str p0)), (3, .cv (.str ([48, 49, 50, 51, 52, 53, 54, 55, 56, 57, 97, 98, 99, 100, 101, 102] : List UInt8))), (4, .cv (.str xt4_11h)), (5, .I xt5_11h), (6, .cv (.lit (.int .u8 ((p0.getD (Int.toNat xt5_11h) 0).toNat : Int)))), (54, .B (decide (((p0.getD (Int.toNat xt5_11h) 0).toNat : Int) = 9)))], []⟩) ?_
    rcases ite_some h with ⟨c5, h⟩ | ⟨c5, h⟩
    ·refine tt (b := (decide (((p0.getD (Int.toNat xt5_11h) 0).toNat : Int) = 9))) (decide_eq_true c5) ?_
     obtain ⟨g6, h⟩ := guard_some h
     refine ar L 248 [] [] [] (cs := [xt4_11h.length + ([92, 116] : List UInt8).length ≤ 9223372036854775807]) (S' := ⟨[(0, .cv (.str p0)), (3, .cv (.str ([48, 49, 50, 51, 52, 53, 54, 55, 56, 57, 97, 98, 99, 100, 101, 102] : List UInt8))), (4, .cv (.str (xt4_11h ++ ([92, 116] : List UInt8)))), (5, .I xt5_11h)], []⟩) g6 ?_
     refine ar0 L 289 [] [] [] (S' := ⟨[(0, .cv (.str p0)), (3, .cv (.str ([48, 49, 50, 51, 52, 53, 54, 55, 56, 57, 97, 98, 99, 100, 101, 102] : List UInt8))), (4, .cv (.str (xt4_11h ++ ([92, 116] : List UInt8)))), (5, .I (IntKind.i64.wrap (xt5_11h + 1)))], []⟩) ?_
     exact ⟨k, Nat.lt_succ_self k, _, _, rfl, h⟩
    refine ff (b := (decide (((p0.getD (Int.toNat xt5_11h) 0).toNat : Int) = 9))) (decide_eq_false c5) ?_
    obtain ⟨o2, hp2, h⟩ := bind_some h
    refine awp_seq (awp_mono (Q' := fun e S => (e = .normal ∧ ∃ xt59_35 : Bool, S = ⟨[(0, .cv (.str p0)), (3, .cv (.str ([48, 49, 50, 51, 52, 53, 54, 55, 56, 57, 97, 98, 99, 100, 101, 102] : List UInt8))), (4, .cv (.str xt4_11h)), (5, .I xt5_11h), (6, .cv (.lit (.int .u8 ((p0.getD (Int.toNat xt5_11h) 0).toNat : Int)))), (59, .B xt59_35)], []⟩ ∧ xt59_35 = o2)) ?_ ?_)
    ·clear h
     replace h := hp2
     rcases ite_some h with ⟨c6, h⟩ | ⟨c6, h⟩
     ·refine ar L 252 [(2, true)] [] [] (cs := [(decide (((p0.getD (Int.toNat xt5_11h) 0).toNat : Int) ≥ 32)) = true]) (S' := ⟨[(0, .cv (.str p0)), (3, .cv (.str ([48, 49, 50, 51, 52, 53, 54, 55, 56, 57, 97, 98, 99, 100, 101, 102] : List UInt8))), (4, .cv (.str xt4_11h)), (5, .I xt5_11h), (6, .cv (.lit (.int .u8 ((p0.getD (Int.toNat xt5_11h) 0).toNat : Int)))), (59, .B (decide (((p0.getD (Int.toNat xt5_11h) 0).toNat : Int) ≤ 126)))], []⟩) (decide_eq_true c6) ?_
      obtain rfl := Option.some.inj h
      exact ⟨rfl, _, rfl, rfl⟩
     refine ar L 252 [(2, false)] [] [] (cs := [(decide (((p0.getD (Int.toNat xt5_11h) 0).toNat : Int) ≥ 32)) = false]) (S' := ⟨[(0, .cv (.str p0)), (3, .cv (.str ([48, 49, 50, 51, 52, 53, 54, 55, 56, 57, 97, 98, 99, 100, 101, 102] : List UInt8))), (4, .cv (.str xt4_11h)), (5, .I xt5_11h), (6, .cv (.lit (.int .u8 ((p0.getD (Int.toNat xt5_11h) 0).toNat : Int)))), (59, .B false)], []⟩) (decide_eq_false c6) ?_
     obtain rfl := Option.some.inj h
     exact ⟨rfl, _, rfl, rfl⟩
    ·rintro e S ⟨rfl, xt59_35, rfl, rfl⟩
     rcases ite_some h with ⟨c7, h⟩ | ⟨c7, h⟩
     ·refine tt (b := xt59_35) (c7) ?_
      obtain ⟨g7, h⟩ := guard_some h
      obtain ⟨g8, h⟩ := guard_some h
      refine ar L 260 [] [] [] (cs := [(0 : Int) ≤ xt5_11h, xt5_11h ≤ (IntKind.i64.wrap (xt5_11h + 1)), (IntKind.i64.wrap (xt5_11h + 1)) ≤ (p0.length : Int), xt4_11h.length + (slc p0 xt5_11h (IntKind.i64.wrap (xt5_11h + 1))).length ≤ 9223372036854775807]) (S' := ⟨[(0, .cv (.str p0)), (3, .cv (.str ([48, 49, 50, 51, 52, 53, 54, 55, 56, 57, 97, 98, 99, 100, 101, 102] : List UInt8))), (4, .cv (.str (xt4_11h ++ (slc p0 xt5_11h (IntKind.i64.wrap (xt5_11h + 1)))))), (5, .I xt5_11h)], []⟩) (And.intro g1.1 (And.intro g7.1 (And.intro g7.2 g8))) ?_
      refine ar0 L 289 [] [] [] (S' := ⟨[(0, .cv (.str p0)), (3, .cv (.str ([48, 49, 50, 51, 52, 53, 54, 55, 56, 57, 97, 98, 99, 100, 101, 102] : List UInt8))), (4, .cv (.str (xt4_11h ++ (slc p0 xt5_11h (IntKind.i64.wrap (xt5_11h + 1)))))), (5, .I (IntKind.i64.wrap (xt5_11h + 1)))], []⟩) ?_
      exact ⟨k, Nat.lt_succ_self k, _, _, rfl, h⟩
     refine ff (b := xt59_35) (eq_false_of_ne_true c7) ?_
     obtain ⟨g9, h⟩ := guard_some h
     obtain ⟨g10, h⟩ := guard_some h
     obtain ⟨g11, h⟩ := guard_some h
     obtain ⟨g12, h⟩ := guard_some h
     obtain ⟨g13, h⟩ := guard_some h
     refine ad L mixed 269 [] [] [] [] 18 (cs := [xt4_11h.length + ([92, 120] : List UInt8).length ≤ 9223372036854775807, 16 ≠ (0 : Int), 16 ≠ (0 : Int), (0 : Int) ≤ (IntKind.u8.wrap (Int.tdiv ((p0.getD (Int.toNat xt5_11h) 0).toNat : Int) 16)), (IntKind.u8.wrap (Int.tdiv ((p0.getD (Int.toNat xt5_11h) 0).toNat : Int) 16)) ≤ (IntKind.u8.wrap ((IntKind.u8.wrap (Int.tdiv ((p0.getD (Int.toNat xt5_11h) 0).toNat : Int) 16)) + 1)), ((IntKind.u8.wrap ((IntKind.u8.wrap (Int.tdiv ((p0.getD (Int.toNat xt5_11h) 0).toNat : Int) 16)) + 1))) ≤ (([48, 49, 50, 51, 52, 53, 54, 55, 56, 57, 97, 98, 99, 100, 101, 102] : List UInt8).length : Int), (xt4_11h ++ ([92, 120] : List UInt8)).length + ((slc ([48, 49, 50, 51, 52, 53, 54, 55, 56, 57, 97, 98, 99, 100, 101, 102] : List UInt8) (IntKind.u8.wrap (Int.tdiv ((p0.getD (Int.toNat xt5_11h) 0).toNat : Int) 16)) ((IntKind.u8.wrap ((IntKind.u8.wrap (Int.tdiv ((p0.getD (Int.toNat xt5_11h) 0).toNat : Int) 16)) + 1))))).length ≤ 9223372036854775807, 16 ≠ (0 : Int), 16 ≠ (0 : Int), (0 : Int) ≤ (Int.tmod ((p0.getD (Int.toNat xt5_11h) 0).toNat : Int) 16), (Int.tmod ((p0.getD (Int.toNat xt5_11h) 0).toNat : Int) 16) ≤ (IntKind.u8.wrap ((Int.tmod ((p0.getD (Int.toNat xt5_11h) 0).toNat : Int) 16) + 1)), ((IntKind.u8.wrap ((Int.tmod ((p0.getD (Int.toNat xt5_11h) 0).toNat : Int) 16) + 1))) ≤ (([48, 49, 50, 51, 52, 53, 54, 55, 56, 57, 97, 98, 99, 100, 101, 102] : List UInt8).length : Int), (((xt4_11h ++ ([92, 120] : List UInt8)) ++ (slc ([48, 49, 50, 51, 52, 53, 54, 55, 56, 57, 97, 98, 99, 100, 101, 102] : List UInt8) (IntKind.u8.wrap (Int.tdiv ((p0.getD (Int.toNat xt5_11h) 0).toNat : Int) 16)) ((IntKind.u8.wrap ((IntKind.u8.wrap (Int.tdiv ((p0.getD (Int.toNat xt5_11h) 0).toNat : Int) 16)) + 1)))))).length + ((slc ([48, 49, 50, 51, 52, 53, 54, 55, 56, 57, 97, 98, 99, 100, 101, 102] : List UInt8) (Int.tmod ((p0.getD (Int.toNat xt5_11h) 0).toNat : Int) 16) ((IntKind.u8.wrap ((Int.tmod ((p0.getD (Int.toNat xt5_11h) 0).toNat : Int) 16) + 1))))).length ≤ 9223372036854775807]) (S' := ⟨[(0, .cv (.str p0)), (3, .cv (.str ([48, 49, 50, 51, 52, 53, 54, 55, 56, 57, 97, 98, 99, 100, 101, 102] : List UInt8))), (4, .cv (.str ((((xt4_11h ++ ([92, 120] : List UInt8)) ++ (slc ([48, 49, 50, 51, 52, 53, 54, 55, 56, 57, 97, 98, 99, 100, 101, 102] : List UInt8) (IntKind.u8.wrap (Int.tdiv ((p0.getD (Int.toNat xt5_11h) 0).toNat : Int) 16)) ((IntKind.u8.wrap ((IntKind.u8.wrap (Int.tdiv ((p0.getD (Int.toNat xt5_11h) 0).toNat : Int) 16)) + 1))))) ++ (slc ([48, 49, 50, 51, 52, 53, 54, 55, 56, 57, 97, 98, 99, 100, 101, 102] : List UInt8) (Int.tmod ((p0.getD (Int.toNat xt5_11h) 0).toNat : Int) 16) ((IntKind.u8.wrap ((Int.tmod ((p0.getD (Int.toNat xt5_11h) 0).toNat : Int) 16) + 1)))))))), (5, .I xt5_11h)], []⟩) (And.intro g9 (And.intro (show 16 ≠ (0 : Int) from by decide) (And.intro (show 16 ≠ (0 : Int) from by decide) (And.intro g10.1 (And.intro g10.2.1 (And.intro g10.2.2 (And.intro g11 (And.intro (show 16 ≠ (0 : Int) from by decide) (And.intro (show 16 ≠ (0 : Int) from by decide) (And.intro g12.1 (And.intro g12.2.1 (And.intro g12.2.2 g13)))))))))))) ?_
     refine ar0 L 289 [] [] [] (S' := ⟨[(0, .cv (.str p0)), (3, .cv (.str ([48, 49, 50, 51, 52, 53, 54, 55, 56, 57, 97, 98, 99, 100, 101, 102] : List UInt8))), (4, .cv (.str ((((xt4_11h ++ ([92, 120] : List UInt8)) ++ (slc ([48, 49, 50, 51, 52, 53, 54, 55, 56, 57, 97, 98, 99, 100, 101, 102] : List UInt8) (IntKind.u8.wrap (Int.tdiv ((p0.getD (Int.toNat xt5_11h) 0).toNat : Int) 16)) ((IntKind.u8.wrap ((IntKind.u8.wrap (Int.tdiv ((p0.getD (Int.toNat xt5_11h) 0).toNat : Int) 16)) + 1))))) ++ (slc ([48, 49, 50, 51, 52, 53, 54, 55, 56, 57, 97, 98, 99, 100, 101, 102] : List UInt8) (Int.tmod ((p0.getD (Int.toNat xt5_11h) 0).toNat : Int) 16) ((IntKind.u8.wrap ((Int.tmod ((p0.getD (Int.toNat xt5_11h) 0).toNat : Int) 16) + 1)))))))), (5, .I (IntKind.i64.wrap (xt5_11h + 1)))], []⟩) ?_
     exact ⟨k, Nat.lt_succ_self k, _, _, rfl, h⟩
  refine ff (b := (decide (xt5_11h < (p0.length : Int)))) (decide_eq_false c1) ?_
  refine ex (S' := ⟨[(4, .cv (.str xt4_11h))], []⟩) ?_
  obtain rfl := Option.some.inj h
  exact ⟨rfl, _, rfl, rfl⟩
 ·rintro e S ⟨rfl, xt4_11, rfl, rfl⟩
  refine ⟨_, Turns.refl, ?_⟩
  refine awp_seq ?_
  obtain ⟨g14, h⟩ := guard_some h
  refine ar L 293 [] [] [] (cs := [xt4_11.length + ([34] : List UInt8).length ≤ 9223372036854775807]) (S' := ⟨[(2, .cv (.str (xt4_11 ++ ([34] : List UInt8))))], []⟩) g14 ?_
  refine awp_ret ?_
  obtain rfl := Option.some.inj h
  exact er (.cv (.str (xt4_11 ++ ([34] : List UInt8))))
theorem workflowref07_Quote.ok {K : Nat} {p0 : List UInt8} {r : List UInt8} (h : workflowref07_Quote K p0 = some r) : PCall V P 20 [.cv (.str p0)] (.cv (.str r)) := ECall.pcall (eo (fn := Tryd.f20) (n := 75) (m := 100) fun Γ => workflowref07_Quote.body h) (by kernel_rfl)
def workflowref07_Spell.l11 (K : Nat) (p0 : List api_Token) : Nat → (List UInt8) → Bool → Int → Option (List UInt8)
 | 0, _, _, _ => none
 | k + 1, xt3_11h, xt4_11h, xt10_11h => (if xt10_11h < (p0.length : Int) then (if (0 : Int) ≤ xt10_11h ∧ (xt10_11h : Int) < (p0.length : Int) then (Option.bind (((if (p0.getD (Int.toNat xt10_11h) z_api_Token).Kind = 1 then some (decide ((p0.getD (Int.toNat xt10_11h) z_api_Token).Kind = 1)) else (if (p0.getD (Int.toNat xt10_11h) z_api_Token).Kind = 2 then some (decide ((p0.getD (Int.toNat xt10_11h) z_api_Token).Kind = 2)) else some (decide ((p0.getD (Int.toNat xt10_11h) z_api_Token).Kind = 5))))) : Option Bool) (fun xt18_28 => (if xt18_28 = true then (if xt4_11h = true then (if xt3_11h.length + ((p0.getD (Int.toNat xt10_11h) z_api_Token).Text).length ≤ 9223372036854775807 then workflowref07_Spell.l11 K p0 k (xt3_11h ++ (p0.getD (Int.toNat xt10_11h) z_api_Token).Text) false (IntKind.i64.wrap (xt10_11h + 1)) else none) else (if xt3_11h.length + ([32] : List UInt8).length ≤ 9223372036854775807 then (if (xt3_11h ++ ([32] : List UInt8)).length + ((p0.getD (Int.toNat xt10_11h) z_api_Token).Text).length ≤ 9223372036854775807 then workflowref07_Spell.l11 K p0 k ((xt3_11h ++ ([32] : List UInt8)) ++ (p0.getD (Int.toNat xt10_11h) z_api_Token).Text) false (IntKind.i64.wrap (xt10_11h + 1)) else none) else none)) else (if (p0.getD (Int.toNat xt10_11h) z_api_Token).Kind = 3 then (Option.bind (workflowref07_decimal K ((p0.getD (Int.toNat xt10_11h) z_api_Token).Int)) (fun a1 => (if xt4_11h = true then (if xt3_11h.length + a1.length ≤ 9223372036854775807 then workflowref07_Spell.l11 K p0 k (xt3_11h ++ a1) false (IntKind.i64.wrap (xt10_11h + 1)) else none) else (if xt3_11h.length + ([32] : List UInt8).length ≤ 9223372036854775807 then (if (xt3_11h ++ ([32] : List UInt8)).length + a1.length ≤ 9223372036854775807 then workflowref07_Spell.l11 K p0 k ((xt3_11h ++ ([32] : List UInt8)) ++ a1) false (IntKind.i64.wrap (xt10_11h + 1)) else none) else none)))) else (if (p0.getD (Int.toNat xt10_11h) z_api_Token).Kind = 4 then (Option.bind (workflowref07_Quote K ((p0.getD (Int.toNat xt10_11h) z_api_Token).Text)) (fun a2 => (if xt4_11h = true then (if xt3_11h.length + a2.length ≤ 9223372036854775807 then workflowref07_Spell.l11 K p0 k (xt3_11h ++ a2) false (IntKind.i64.wrap (xt10_11h + 1)) else none) else (if xt3_11h.length + ([32] : List UInt8).length ≤ 9223372036854775807 then (if (xt3_11h ++ ([32] : List UInt8)).length + a2.length ≤ 9223372036854775807 then workflowref07_Spell.l11 K p0 k ((xt3_11h ++ ([32] : List UInt8)) ++ a2) false (IntKind.i64.wrap (xt10_11h + 1)) else none) else none)))) else workflowref07_Spell.l11 K p0 k xt3_11h xt4_11h (IntKind.i64.wrap (xt10_11h + 1))))))) else none) else some xt3_11h)
def workflowref07_Spell (K : Nat) (p0 : List api_Token) : Option (List UInt8) := (Option.bind (workflowref07_Spell.l11 K p0 K ([] : List UInt8) true 0 : Option (List UInt8)) (fun xt3_11 => some xt3_11))
theorem workflowref07_Spell.body {Γ : Ent} {K : Nat} {p0 : List api_Token} {r : List UInt8} (h : workflowref07_Spell K p0 = some r) : AWp V P 41 100 Γ (Tryd.f19.body.getD .skip) (EndsE P V Tryd.f19 (.cv (.str r)) []) ⟨args0 0 [.cv (.ro .t_api_Token p0)], []⟩ := by
 unfold workflowref07_Spell at h
 refine sr0 L 200 [] [] [] (S' := ⟨[(0, .cv (.ro .t_api_Token p0))], []⟩) ?_
 refine sr0 L 202 [] [] [] (S' := ⟨[(0, .cv (.ro .t_api_Token p0)), (3, .cv (.str ([] : List UInt8)))], []⟩) ?_
 refine sr0 L 204 [] [] [] (S' := ⟨[(0, .cv (.ro .t_api_Token p0)), (3, .cv (.str ([] : List UInt8))), (4, .B true)], []⟩) ?_
 refine awp_seq ?_
 refine sr0 L 206 [] [] [] (S' := ⟨[(3, .cv (.str ([] : List UInt8))), (4, .B true), (8, .cv (.ro .t_api_Token p0)), (9, .I (p0.length : Int)), (10, .I 0)], []⟩) ?_
 refine awp_block ?_
 refine kp (S' := ⟨[(3, .cv (.str ([] : List UInt8))), (4, .B true), (8, .cv (.ro .t_api_Token p0)), (9, .I (p0.length : Int)), (10, .I 0)], []⟩) ?_
 obtain ⟨o2, hp2, h⟩ := bind_some h
 refine awp_conseq (Q' := fun e S => (e = .exit 0 ∧ ∃ xt3_11 : List UInt8, S = ⟨[(3, .cv (.str xt3_11))], []⟩ ∧ xt3_11 = o2)) (awp_loop (fun k S => ∃ xt3_11h : List UInt8, ∃ xt4_11h : Bool, ∃ xt10_11h : Int, S = ⟨[(3, .cv (.str xt3_11h)), (4, .B xt4_11h), (8, .cv (.ro .t_api_Token p0)), (9, .I (p0.length : Int)), (10, .I xt10_11h)], []⟩ ∧ workflowref07_Spell.l11 K p0 k xt3_11h xt4_11h xt10_11h = some o2) ?_ ⟨_, _, _, rfl, hp2⟩) ?_
 ·clear h hp2
  intro k S hS
  obtain ⟨xt3_11h, xt4_11h, xt10_11h, rfl, h⟩ := hS
  cases k with
  | zero => cases h
  | succ k =>
  unfold workflowref07_Spell.l11 at h
  refine sr0 L 210 [] [] [] (S' := ⟨[(3, .cv (.str xt3_11h)), (4, .B xt4_11h), (8, .cv (.ro .t_api_Token p0)), (9, .I (p0.length : Int)), (10, .I xt10_11h), (11, .B (decide (xt10_11h < (p0.length : Int))))], []⟩) ?_
  refine awp_seq ?_
  rcases ite_some h with ⟨c1, h⟩ | ⟨c1, h⟩
  ·refine tt (b := (decide (xt10_11h < (p0.length : Int)))) (decide_eq_true c1) ?_
   refine awp_skip' ?_
   refine awp_seq ?_
   refine awp_block ?_
   refine awp_seq ?_
   obtain ⟨g1, h⟩ := guard_some h
   refine ar L 212 [] [] [] (cs := [(0 : Int) ≤ xt10_11h, (xt10_11h : Int) < (p0.length : Int)]) (S' := ⟨[(3, .cv (.str xt3_11h)), (4, .B xt4_11h), (6, .P 214), (8, .cv (.ro .t_api_Token p0)), (9, .I (p0.length : Int)), (10, .I xt10_11h)], [(214, .raw (d_api_Token (p0.getD (Int.toNat xt10_11h) z_api_Token)))]⟩) (And.intro g1.1 g1.2) ?_
   refine sr0 L 217 [] [] [] (S' := ⟨[(3, .cv (.str xt3_11h)), (4, .B xt4_11h), (6, .P 214), (7, .cv (.str ((p0.getD (Int.toNat xt10_11h) z_api_Token).Text))), (8, .cv (.ro .t_api_Token p0)), (9, .I (p0.length : Int)), (10, .I xt10_11h)], [(214, .raw (d_api_Token (p0.getD (Int.toNat xt10_11h) z_api_Token)))]⟩) ?_
   refine awp_seq ?_
   refine sr0 L 221 [] [] [] (S' := ⟨[(3, .cv (.str xt3_11h)), (4, .B xt4_11h), (6, .P 214), (7, .cv (.str ((p0.getD (Int.toNat xt10_11h) z_api_Token).Text))), (8, .cv (.ro .t_api_Token p0)), (9, .I (p0.length : Int)), (10, .I xt10_11h), (17, .I ((p0.getD (Int.toNat xt10_11h) z_api_Token).Kind))], [(214, .raw (d_api_Token (p0.getD (Int.toNat xt10_11h) z_api_Token)))]⟩) ?_
   refine awp_block ?_
   obtain ⟨o1, hp1, h⟩ := bind_some h
   refine awp_seq (awp_mono (Q' := fun e S => (e = .normal ∧ ∃ xt18_28 : Bool, S = ⟨[(3, .cv (.str xt3_11h)), (4, .B xt4_11h), (6, .P 25600), (7, .cv (.str ((p0.getD (Int.toNat xt10_11h) z_api_Token).Text))), (8, .cv (.ro .t_api_Token p0)), (9, .I (p0.length : Int)), (10, .I xt10_11h), (17, .I ((p0.getD (Int.toNat xt10_11h) z_api_Token).Kind)), (18, .B xt18_28)], [(25600, .raw (d_api_Token (p0.getD (Int.toNat xt10_11h) z_api_Token)))]⟩ ∧ xt18_28 = o1)) ?_ ?_)
   ·clear h
    replace h := hp1
    refine sr0 L 224 [] [] [] (S' := ⟨[(3, .cv (.str xt3_11h)), (4, .B xt4_11h), (6, .P 214), (7, .cv (.str ((p0.getD (Int.toNat xt10_11h) z_api_Token).Text))), (8, .cv (.ro .t_api_Token p0)), (9, .I (p0.length : Int)), (10, .I xt10_11h), (17, .I ((p0.getD (Int.toNat xt10_11h) z_api_Token).Kind)), (18, .B (decide ((p0.getD (Int.toNat xt10_11h) z_api_Token).Kind = 1)))], [(214, .raw (d_api_Token (p0.getD (Int.toNat xt10_11h) z_api_Token)))]⟩) ?_
    rcases ite_some h with ⟨c2, h⟩ | ⟨c2, h⟩
    ·refine tt (b := (decide ((p0.getD (Int.toNat xt10_11h) z_api_Token).Kind = 1))) (decide_eq_true c2) ?_
     refine awp_turn (Turns.trans (Turns.kp (S' := ⟨[(3, .cv (.str xt3_11h)), (4, .B xt4_11h), (6, .P 214), (7, .cv (.str ((p0.getD (Int.toNat xt10_11h) z_api_Token).Text))), (8, .cv (.ro .t_api_Token p0)), (9, .I (p0.length : Int)), (10, .I xt10_11h), (17, .I ((p0.getD (Int.toNat xt10_11h) z_api_Token).Kind)), (18, .B (decide ((p0.getD (Int.toNat xt10_11h) z_api_Token).Kind = 1)))], [(214, .raw (d_api_Token (p0.getD (Int.toNat xt10_11h) z_api_Token)))]⟩)) (Turns.rn [(214, 25600)] (S' := ⟨[(3, .cv (.str xt3_11h)), (4, .B xt4_11h), (6, .P 25600), (7, .cv (.str ((p0.getD (Int.toNat xt10_11h) z_api_Token).Text))), (8, .cv (.ro .t_api_Token p0)), (9, .I (p0.length : Int)), (10, .I xt10_11h), (17, .I ((p0.getD (Int.toNat xt10_11h) z_api_Token).Kind)), (18, .B (decide ((p0.getD (Int.toNat xt10_11h) z_api_Token).Kind = 1)))], [(25600, .raw (d_api_Token (p0.getD (Int.toNat xt10_11h) z_api_Token)))]⟩))) ?_
     refine sk (S' := ⟨[(3, .cv (.str xt3_11h)), (4, .B xt4_11h), (6, .P 25600), (7, .cv (.str ((p0.getD (Int.toNat xt10_11h) z_api_Token).Text))), (8, .cv (.ro .t_api_Token p0)), (9, .I (p0.length : Int)), (10, .I xt10_11h), (17, .I ((p0.getD (Int.toNat xt10_11h) z_api_Token).Kind)), (18, .B (decide ((p0.getD (Int.toNat xt10_11h) z_api_Token).Kind = 1)))], [(25600, .raw (d_api_Token (p0.getD (Int.toNat xt10_11h) z_api_Token)))]⟩) ?_
     obtain rfl := Option.some.inj h
     exact ⟨rfl, _, rfl, rfl⟩
    refine ff (b := (decide ((p0.getD (Int.toNat xt10_11h) z_api_Token).Kind = 1))) (decide_eq_false c2) ?_
    refine sr0 L 227 [] [] [] (S' := ⟨[(3, .cv (.str xt3_11h)), (4, .B xt4_11h), (6, .P 214), (7, .cv (.str ((p0.getD (Int.toNat xt10_11h) z_api_Token).Text))), (8, .cv (.ro .t_api_Token p0)), (9, .I (p0.length : Int)), (10, .I xt10_11h), (17, .I ((p0.getD (Int.toNat xt10_11h) z_api_Token).Kind)), (18, .B (decide ((p0.getD (Int.toNat xt10_11h) z_api_Token).Kind = 2)))], [(214, .raw (d_api_Token (p0.getD (Int.toNat xt10_11h) z_api_Token)))]⟩) ?_
    rcases ite_some h with ⟨c3, h⟩ | ⟨c3, h⟩
    ·refine tt (b := (decide ((p0.getD (Int.toNat xt10_11h) z_api_Token).Kind = 2))) (decide_eq_true c3) ?_
     refine awp_turn (Turns.trans (Turns.kp (S' := ⟨[(3, .cv (.str xt3_11h)), (4, .B xt4_11h), (6, .P 214), (7, .cv (.str ((p0.getD (Int.toNat xt10_11h) z_api_Token).Text))), (8, .cv (.ro .t_api_Token p0)), (9, .I (p0.length : Int)), (10, .I xt10_11h), (17, .I ((p0.getD (Int.toNat xt10_11h) z_api_Token).Kind)), (18, .B (decide ((p0.getD (Int.toNat xt10_11h) z_api_Token).Kind = 2)))], [(214, .raw (d_api_Token (p0.getD (Int.toNat xt10_11h) z_api_Token)))]⟩)) (Turns.rn [(214, 25600)] (S' := ⟨[(3, .cv (.str xt3_11h)), (4, .B xt4_11h), (6, .P 25600), (7, .cv (.str ((p0.getD (Int.toNat xt10_11h) z_api_Token).Text))), (8, .cv (.ro .t_api_Token p0)), (9, .I (p0.length : Int)), (10, .I xt10_11h), (17, .I ((p0.getD (Int.toNat xt10_11h) z_api_Token).Kind)), (18, .B (decide ((p0.getD (Int.toNat xt10_11h) z_api_Token).Kind = 2)))], [(25600, .raw (d_api_Token (p0.getD (Int.toNat xt10_11h) z_api_Token)))]⟩))) ?_
     refine sk (S' := ⟨[(3, .cv (.str xt3_11h)), (4, .B xt4_11h), (6, .P 25600), (7, .cv (.str ((p0.getD (Int.toNat xt10_11h) z_api_Token).Text))), (8, .cv (.ro .t_api_Token p0)), (9, .I (p0.length : Int)), (10, .I xt10_11h), (17, .I ((p0.getD (Int.toNat xt10_11h) z_api_Token).Kind)), (18, .B (decide ((p0.getD (Int.toNat xt10_11h) z_api_Token).Kind = 2)))], [(25600, .raw (d_api_Token (p0.getD (Int.toNat xt10_11h) z_api_Token)))]⟩) ?_
     obtain rfl := Option.some.inj h
     exact ⟨rfl, _, rfl, rfl⟩
    refine ff (b := (decide ((p0.getD (Int.toNat xt10_11h) z_api_Token).Kind = 2))) (decide_eq_false c3) ?_
    refine awp_post (ar0 L 230 [] [] [] (S' := ⟨[(3, .cv (.str xt3_11h)), (4, .B xt4_11h), (6, .P 214), (7, .cv (.str ((p0.getD (Int.toNat xt10_11h) z_api_Token).Text))), (8, .cv (.ro .t_api_Token p0)), (9, .I (p0.length : Int)), (10, .I xt10_11h), (17, .I ((p0.getD (Int.toNat xt10_11h) z_api_Token).Kind)), (18, .B (decide ((p0.getD (Int.toNat xt10_11h) z_api_Token).Kind = 5)))], [(214, .raw (d_api_Token (p0.getD (Int.toNat xt10_11h) z_api_Token)))]⟩) ⟨rfl, rfl⟩) (Turns.trans (Turns.kp (S' := ⟨[(3, .cv (.str xt3_11h)), (4, .B xt4_11h), (6, .P 214), (7, .cv (.str ((p0.getD (Int.toNat xt10_11h) z_api_Token).Text))), (8, .cv (.ro .t_api_Token p0)), (9, .I (p0.length : Int)), (10, .I xt10_11h), (17, .I ((p0.getD (Int.toNat xt10_11h) z_api_Token).Kind)), (18, .B (decide ((p0.getD (Int.toNat xt10_11h) z_api_Token).Kind = 5)))], [(214, .raw (d_api_Token (p0.getD (Int.toNat xt10_11h) z_api_Token)))]⟩)) (Turns.trans (Turns.rn [(214, 25600)] (S' := ⟨[(3, .cv (.str xt3_11h)), (4, .B xt4_11h), (6, .P 25600), (7, .cv (.str ((p0.getD (Int.toNat xt10_11h) z_api_Token).Text))), (8, .cv (.ro .t_api_Token p0)), (9, .I (p0.length : Int)), (10, .I xt10_11h), (17, .I ((p0.getD (Int.toNat xt10_11h) z_api_Token).Kind)), (18, .B (decide ((p0.getD (Int.toNat xt10_11h) z_api_Token).Kind = 5)))], [(25600, .raw (d_api_Token (p0.getD (Int.toNat xt10_11h) z_api_Token)))]⟩)) (Turns.kp (S' := ⟨[(3, .cv (.str xt3_11h)), (4, .B xt4_11h), (6, .P 25600), (7, .cv (.str ((p0.getD (Int.toNat xt10_11h) z_api_Token).Text))), (8, .cv (.ro .t_api_Token p0)), (9, .I (p0.length : Int)), (10, .I xt10_11h), (17, .I ((p0.getD (Int.toNat xt10_11h) z_api_Token).Kind)), (18, .B (decide ((p0.getD (Int.toNat xt10_11h) z_api_Token).Kind = 5)))], [(25600, .raw (d_api_Token (p0.getD (Int.toNat xt10_11h) z_api_Token)))]⟩)))) ?_
    obtain rfl := Option.some.inj h
    exact ⟨rfl, _, rfl, rfl⟩
   ·rintro e S ⟨rfl, xt18_28, rfl, rfl⟩
    rcases ite_some h with ⟨c4, h⟩ | ⟨c4, h⟩
    ·refine tt (b := xt18_28) (c4) ?_
     refine awp_skip' ?_
     refine awp_seq ?_
     refine sr0 L 249 [] [] [] (S' := ⟨[(3, .cv (.str xt3_11h)), (7, .cv (.str ((p0.getD (Int.toNat xt10_11h) z_api_Token).Text))), (8, .cv (.ro .t_api_Token p0)), (9, .I (p0.length : Int)), (10, .I xt10_11h), (33, .B (!xt4_11h))], []⟩) ?_
     rcases ite_some h with ⟨c5, h⟩ | ⟨c5, h⟩
     ·refine ff (b := (!xt4_11h)) (congrArg Bool.not (c5)) ?_
      refine awp_skip' ?_
      refine sr0 L 256 [] [] [] (S' := ⟨[(3, .cv (.str xt3_11h)), (4, .B false), (7, .cv (.str ((p0.getD (Int.toNat xt10_11h) z_api_Token).Text))), (8, .cv (.ro .t_api_Token p0)), (9, .I (p0.length : Int)), (10, .I xt10_11h)], []⟩) ?_
      obtain ⟨g2, h⟩ := guard_some h
      refine ar L 258 [] [] [] (cs := [xt3_11h.length + ((p0.getD (Int.toNat xt10_11h) z_api_Token).Text).length ≤ 9223372036854775807]) (S' := ⟨[(3, .cv (.str (xt3_11h ++ (p0.getD (Int.toNat xt10_11h) z_api_Token).Text))), (4, .B false), (8, .cv (.ro .t_api_Token p0)), (9, .I (p0.length : Int)), (10, .I xt10_11h)], []⟩) g2 ?_
      refine ar0 L 263 [] [] [] (S' := ⟨[(3, .cv (.str (xt3_11h ++ (p0.getD (Int.toNat xt10_11h) z_api_Token).Text))), (4, .B false), (8, .cv (.ro .t_api_Token p0)), (9, .I (p0.length : Int)), (10, .I (IntKind.i64.wrap (xt10_11h + 1)))], []⟩) ?_
      exact ⟨k, Nat.lt_succ_self k, _, _, _, rfl, h⟩
     refine tt (b := (!xt4_11h)) (congrArg Bool.not (eq_false_of_ne_true c5)) ?_
     obtain ⟨g3, h⟩ := guard_some h
     refine ar L 252 [] [] [] (cs := [xt3_11h.length + ([32] : List UInt8).length ≤ 9223372036854775807]) (S' := ⟨[(3, .cv (.str (xt3_11h ++ ([32] : List UInt8)))), (7, .cv (.str ((p0.getD (Int.toNat xt10_11h) z_api_Token).Text))), (8, .cv (.ro .t_api_Token p0)), (9, .I (p0.length : Int)), (10, .I xt10_11h)], []⟩) g3 ?_
     refine sr0 L 256 [] [] [] (S' := ⟨[(3, .cv (.str (xt3_11h ++ ([32] : List UInt8)))), (4, .B false), (7, .cv (.str ((p0.getD (Int.toNat xt10_11h) z_api_Token).Text))), (8, .cv (.ro .t_api_Token p0)), (9, .I (p0.length : Int)), (10, .I xt10_11h)], []⟩) ?_
     obtain ⟨g4, h⟩ := guard_some h
     refine ar L 258 [] [] [] (cs := [(xt3_11h ++ ([32] : List UInt8)).length + ((p0.getD (Int.toNat xt10_11h) z_api_Token).Text).length ≤ 9223372036854775807]) (S' := ⟨[(3, .cv (.str ((xt3_11h ++ ([32] : List UInt8)) ++ (p0.getD (Int.toNat xt10_11h) z_api_Token).Text))), (4, .B false), (8, .cv (.ro .t_api_Token p0)), (9, .I (p0.length : Int)), (10, .I xt10_11h)], []⟩) g4 ?_
     refine ar0 L 263 [] [] [] (S' := ⟨[(3, .cv (.str ((xt3_11h ++ ([32] : List UInt8)) ++ (p0.getD (Int.toNat xt10_11h) z_api_Token).Text))), (4, .B false), (8, .cv (.ro .t_api_Token p0)), (9, .I (p0.length : Int)), (10, .I (IntKind.i64.wrap (xt10_11h + 1)))], []⟩) ?_
     exact ⟨k, Nat.lt_succ_self k, _, _, _, rfl, h⟩
    refine ff (b := xt18_28) (eq_false_of_ne_true c4) ?_
    refine sr0 L 233 [] [] [] (S' := ⟨[(3, .cv (.str xt3_11h)), (4, .B xt4_11h), (6, .P 25600), (8, .cv (.ro .t_api_Token p0)), (9, .I (p0.length : Int)), (10, .I xt10_11h), (17, .I ((p0.getD (Int.toNat xt10_11h) z_api_Token).Kind)), (22, .B (decide ((p0.getD (Int.toNat xt10_11h) z_api_Token).Kind = 3)))], [(25600, .raw (d_api_Token (p0.getD (Int.toNat xt10_11h) z_api_Token)))]⟩) ?_
    rcases ite_some h with ⟨c6, h⟩ | ⟨c6, h⟩
    ·refine tt (b := (decide ((p0.getD (Int.toNat xt10_11h) z_api_Token).Kind = 3))) (decide_eq_true c6) ?_
     obtain ⟨a1, h1, h⟩ := bind_some h
     refine ar L 236 [] [(2, .cv (.str a1))] [] (cs := [PCall V P 33 [.I ((p0.getD (Int.toNat xt10_11h) z_api_Token).Int)] (.cv (.str a1)), True]) (S' := ⟨[(3, .cv (.str xt3_11h)), (4, .B xt4_11h), (7, .cv (.str a1)), (8, .cv (.ro .t_api_Token p0)), (9, .I (p0.length : Int)), (10, .I xt10_11h)], []⟩) (And.intro (workflowref07_decimal.ok h1) trivial) ?_
     refine awp_seq ?_
     refine sr0 L 249 [] [] [] (S' := ⟨[(3, .cv (.str xt3_11h)), (7, .cv (.str a1)), (8, .cv (.ro .t_api_Token p0)), (9, .I (p0.length : Int)), (10, .I xt10_11h), (33, .B (!xt4_11h))], []⟩) ?_
     rcases ite_some h with ⟨c7, h⟩ | ⟨c7, h⟩
     ·refine ff (b := (!xt4_11h)) (congrArg Bool.not (c7)) ?_
      refine awp_skip' ?_
      refine sr0 L 256 [] [] [] (S' := ⟨[(3, .cv (.str xt3_11h)), (4, .B false), (7, .cv (.str a1)), (8, .cv (.ro .t_api_Token p0)), (9, .I (p0.length : Int)), (10, .I xt10_11h)], []⟩) ?_
      obtain ⟨g5, h⟩ := guard_some h
      refine ar L 258 [] [] [] (cs := [xt3_11h.length + a1.length ≤ 9223372036854775807]) (S' := ⟨[(3, .cv (.str (xt3_11h ++ a1))), (4, .B false), (8, .cv (.ro .t_api_Token p0)), (9, .I (p0.length : Int)), (10, .I xt10_11h)], []⟩) g5 ?_
      refine ar0 L 263 [] [] [] (S' := ⟨[(3, .cv (.str (xt3_11h ++ a1))), (4, .B false), (8, .cv (.ro .t_api_Token p0)), (9, .I (p0.length : Int)), (10, .I (IntKind.i64.wrap (xt10_11h + 1)))], []⟩) ?_
      exact ⟨k, Nat.lt_succ_self k, _, _, _, rfl, h⟩
     refine tt (b := (!xt4_11h)) (congrArg Bool.not (eq_false_of_ne_true c7)) ?_
     obtain ⟨g6, h⟩ := guard_some h
     refine ar L 252 [] [] [] (cs := [xt3_11h.length + ([32] : List UInt8).length ≤ 9223372036854775807]) (S' := ⟨[(3, .cv (.str (xt3_11h ++ ([32] : List UInt8)))), (7, .cv (.str a1)), (8, .cv (.ro .t_api_Token p0)), (9, .I (p0.length : Int)), (10, .I xt10_11h)], []⟩) g6 ?_
     refine sr0 L 256 [] [] [] (S' := ⟨[(3, .cv (.str (xt3_11h ++ ([32] : List UInt8)))), (4, .B false), (7, .cv (.str a1)), (8, .cv (.ro .t_api_Token p0)), (9, .I (p0.length : Int)), (10, .I xt10_11h)], []⟩) ?_
     obtain ⟨g7, h⟩ := guard_some h
     refine ar L 258 [] [] [] (cs := [(xt3_11h ++ ([32] : List UInt8)).length + a1.length ≤ 9223372036854775807]) (S' := ⟨[(3, .cv (.str ((xt3_11h ++ ([32] : List UInt8)) ++ a1))), (4, .B false), (8, .cv (.ro .t_api_Token p0)), (9, .I (p0.length : Int)), (10, .I xt10_11h)], []⟩) g7 ?_
     refine ar0 L 263 [] [] [] (S' := ⟨[(3, .cv (.str ((xt3_11h ++ ([32] : List UInt8)) ++ a1))), (4, .B false), (8, .cv (.ro .t_api_Token p0)), (9, .I (p0.length : Int)), (10, .I (IntKind.i64.wrap (xt10_11h + 1)))], []⟩) ?_
     exact ⟨k, Nat.lt_succ_self k, _, _, _, rfl, h⟩
    refine ff (b := (decide ((p0.getD (Int.toNat xt10_11h) z_api_Token).Kind = 3))) (decide_eq_false c6) ?_
    refine sr0 L 241 [] [] [] (S' := ⟨[(3, .cv (.str xt3_11h)), (4, .B xt4_11h), (6, .P 25600), (8, .cv (.ro .t_api_Token p0)), (9, .I (p0.length : Int)), (10, .I xt10_11h), (27, .B (decide ((p0.getD (Int.toNat xt10_11h) z_api_Token).Kind = 4)))], [(25600, .raw (d_api_Token (p0.getD (Int.toNat xt10_11h) z_api_Token)))]⟩) ?_
    rcases ite_some h with ⟨c8, h⟩ | ⟨c8, h⟩
    ·refine tt (b := (decide ((p0.getD (Int.toNat xt10_11h) z_api_Token).Kind = 4))) (decide_eq_true c8) ?_
     obtain ⟨a2, h2, h⟩ := bind_some h
     refine ar L 244 [] [(2, .cv (.str a2))] [] (cs := [PCall V P 20 [.cv (.str ((p0.getD (Int.toNat xt10_11h) z_api_Token).Text))] (.cv (.str a2)), True]) (S' := ⟨[(3, .cv (.str xt3_11h)), (4, .B xt4_11h), (7, .cv (.str a2)), (8, .cv (.ro .t_api_Token p0)), (9, .I (p0.length : Int)), (10, .I xt10_11h)], []⟩) (And.intro (workflowref07_Quote.ok h2) trivial) ?_
     refine awp_seq ?_
     refine sr0 L 249 [] [] [] (S' := ⟨[(3, .cv (.str xt3_11h)), (7, .cv (.str a2)), (8, .cv (.ro .t_api_Token p0)), (9, .I (p0.length : Int)), (10, .I xt10_11h), (33, .B (!xt4_11h))], []⟩) ?_
     rcases ite_some h with ⟨c9, h⟩ | ⟨c9, h⟩
     ·refine ff (b := (!xt4_11h)) (congrArg Bool.not (c9)) ?_
      refine awp_skip' ?_
      refine sr0 L 256 [] [] [] (S' := ⟨[(3, .cv (.str xt3_11h)), (4, .B false), (7, .cv (.str a2)), (8, .cv (.ro .t_api_Token p0)), (9, .I (p0.length : Int)), (10, .I xt10_11h)], []⟩) ?_
      obtain ⟨g8, h⟩ := guard_some h
      refine ar L 258 [] [] [] (cs := [xt3_11h.length + a2.length ≤ 9223372036854775807]) (S' := ⟨[(3, .cv (.str (xt3_11h ++ a2))), (4, .B false), (8, .cv (.ro .t_api_Token p0)), (9, .I (p0.length : Int)), (10, .I xt10_11h)], []⟩) g8 ?_
      refine ar0 L 263 [] [] [] (S' := ⟨[(3, .cv (.str (xt3_11h ++ a2))), (4, .B false), (8, .cv (.ro .t_api_Token p0)), (9, .I (p0.length : Int)), (10, .I (IntKind.i64.wrap (xt10_11h + 1)))], []⟩) ?_
      exact ⟨k, Nat.lt_succ_self k, _, _, _, rfl, h⟩
     refine tt (b := (!xt4_11h)) (congrArg Bool.not (eq_false_of_ne_true c9)) ?_
     obtain ⟨g9, h⟩ := guard_some h
     refine ar L 252 [] [] [] (cs := [xt3_11h.length + ([32] : List UInt8).length ≤ 9223372036854775807]) (S' := ⟨[(3, .cv (.str (xt3_11h ++ ([32] : List UInt8)))), (7, .cv (.str a2)), (8, .cv (.ro .t_api_Token p0)), (9, .I (p0.length : Int)), (10, .I xt10_11h)], []⟩) g9 ?_
     refine sr0 L 256 [] [] [] (S' := ⟨[(3, .cv (.str (xt3_11h ++ ([32] : List UInt8)))), (4, .B false), (7, .cv (.str a2)), (8, .cv (.ro .t_api_Token p0)), (9, .I (p0.length : Int)), (10, .I xt10_11h)], []⟩) ?_
     obtain ⟨g10, h⟩ := guard_some h
     refine ar L 258 [] [] [] (cs := [(xt3_11h ++ ([32] : List UInt8)).length + a2.length ≤ 9223372036854775807]) (S' := ⟨[(3, .cv (.str ((xt3_11h ++ ([32] : List UInt8)) ++ a2))), (4, .B false), (8, .cv (.ro .t_api_Token p0)), (9, .I (p0.length : Int)), (10, .I xt10_11h)], []⟩) g10 ?_
     refine ar0 L 263 [] [] [] (S' := ⟨[(3, .cv (.str ((xt3_11h ++ ([32] : List UInt8)) ++ a2))), (4, .B false), (8, .cv (.ro .t_api_Token p0)), (9, .I (p0.length : Int)), (10, .I (IntKind.i64.wrap (xt10_11h + 1)))], []⟩) ?_
     exact ⟨k, Nat.lt_succ_self k, _, _, _, rfl, h⟩
    refine ff (b := (decide ((p0.getD (Int.toNat xt10_11h) z_api_Token).Kind = 4))) (decide_eq_false c8) ?_
    refine awp_exit' ?_
    refine ar0 L 263 [] [] [] (S' := ⟨[(3, .cv (.str xt3_11h)), (4, .B xt4_11h), (8, .cv (.ro .t_api_Token p0)), (9, .I (p0.length : Int)), (10, .I (IntKind.i64.wrap (xt10_11h + 1)))], []⟩) ?_
    exact ⟨k, Nat.lt_succ_self k, _, _, _, rfl, h⟩
  refine ff (b := (decide (xt10_11h < (p0.length : Int)))) (decide_eq_false c1) ?_
  refine ex (S' := ⟨[(3, .cv (.str xt3_11h))], []⟩) ?_
  obtain rfl := Option.some.inj h
  exact ⟨rfl, _, rfl, rfl⟩
 ·rintro e S ⟨rfl, xt3_11, rfl, rfl⟩
  refine ⟨_, Turns.refl, ?_⟩
  refine sr0 L 266 [] [] [] (S' := ⟨[(2, .cv (.str xt3_11))], []⟩) ?_
  refine awp_ret ?_
  obtain rfl := Option.some.inj h
  exact er (.cv (.str xt3_11))
theorem workflowref07_Spell.ok {K : Nat} {p0 : List api_Token} {r : List UInt8} (h : workflowref07_Spell K p0 = some r) : PCall V P 19 [.cv (.ro .t_api_Token p0)] (.cv (.str r)) := ECall.pcall (eo (fn := Tryd.f19) (n := 41) (m := 100) fun Γ => workflowref07_Spell.body h) (by kernel_rfl)
end Go.Proofs.YtahpbjjfpbmaiaaDoor
