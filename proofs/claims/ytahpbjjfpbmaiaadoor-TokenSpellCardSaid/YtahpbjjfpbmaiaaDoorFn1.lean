/- What functions of the program compute, as Lean functions, and that they compute it. -/
import Derived.Test.YtahpbjjfpbmaiaaDoorSvc
set_option linter.unusedVariables false
set_option maxHeartbeats 0
namespace Go.Proofs.YtahpbjjfpbmaiaaDoor
open Eng
def token_scanner_peek (K : Nat) (p0 : token_scanner) (p1 : Int) : Option Int := (if (IntKind.i64.wrap (p0.at_ + p1)) ≥ (p0.src.length : Int) then some (-1) else (if (0 : Int) ≤ (IntKind.i64.wrap (p0.at_ + p1)) ∧ ((IntKind.i64.wrap (p0.at_ + p1)) : Int) < (p0.src.length : Int) then some ((IntKind.i32.wrap ((p0.src.getD (Int.toNat (IntKind.i64.wrap (p0.at_ + p1))) 0).toNat : Int))) else none))
theorem token_scanner_peek.body {Γ : Ent} {K : Nat} {p0 : token_scanner} {p1 : Int} {r : Int} (h : token_scanner_peek K p0 p1 = some r) : AWp V P 29 100 Γ (Tryd.f34.body.getD .skip) (EndsE P V Tryd.f34 (.cv (.lit (.int .i32 r))) []) ⟨args0 0 [.cv (.pcs (d_token_scanner p0) 0), .I p1], []⟩ := by
 unfold token_scanner_peek at h
 refine sr0 L 200 [] [] [] (S' := ⟨[(0, .cv (.pcs (d_token_scanner p0) 0)), (1, .I p1)], []⟩) ?_
 refine awp_seq ?_
 refine sd L mixed 202 [] [] [] [] 12 (cs := []) (S' := ⟨[(0, .cv (.pcs (d_token_scanner p0) 0)), (1, .I p1), (16, .B (decide ((IntKind.i64.wrap (p0.at_ + p1)) ≥ (p0.src.length : Int))))], []⟩) trivial ?_
 rcases ite_some h with ⟨c1, h⟩ | ⟨c1, h⟩
 ·refine tt (b := (decide ((IntKind.i64.wrap (p0.at_ + p1)) ≥ (p0.src.length : Int)))) (decide_eq_true c1) ?_
  refine sr0 L 215 [] [] [] (S' := ⟨[(4, .cv (.lit (.int .i32 (-1))))], []⟩) ?_
  refine awp_ret ?_
  obtain rfl := Option.some.inj h
  exact er (.cv (.lit (.int .i32 (-1))))
 refine ff (b := (decide ((IntKind.i64.wrap (p0.at_ + p1)) ≥ (p0.src.length : Int)))) (decide_eq_false c1) ?_
 refine awp_skip' ?_
 refine awp_seq ?_
 obtain ⟨g1, h⟩ := guard_some h
 refine ad L mixed 217 [] [] [] [] 13 (cs := [(0 : Int) ≤ (IntKind.i64.wrap (p0.at_ + p1)), ((IntKind.i64.wrap (p0.at_ + p1)) : Int) < (p0.src.length : Int)]) (S' := ⟨[(4, .cv (.lit (.int .i32 ((IntKind.i32.wrap ((p0.src.getD (Int.toNat (IntKind.i64.wrap (p0.at_ + p1))) 0).toNat : Int))))))], []⟩) (And.intro g1.1 g1.2) ?_
 refine awp_ret ?_
 obtain rfl := Option.some.inj h
 exact er (.cv (.lit (.int .i32 ((IntKind.i32.wrap ((p0.src.getD (Int.toNat (IntKind.i64.wrap (p0.at_ + p1))) 0).toNat : Int))))))
theorem token_scanner_peek.ok {K : Nat} {p0 : token_scanner} {p1 : Int} {r : Int} (h : token_scanner_peek K p0 p1 = some r) : PCall V P 34 [.cv (.pcs (d_token_scanner p0) 0), .I p1] (.cv (.lit (.int .i32 r))) := ECall.pcall (eo (fn := Tryd.f34) (n := 29) (m := 100) fun Γ => token_scanner_peek.body h) (by kernel_rfl)
def token_Scan_c1 (K : Nat) (p0 : Int) : Option Bool := (if p0 = 32 then some true else (if p0 = 9 then some true else some (decide (p0 = 10))))
theorem token_Scan_c1.body {Γ : Ent} {K : Nat} {p0 : Int} {r : Bool} (h : token_Scan_c1 K p0 = some r) : AWp V P 13 100 Γ (Tryd.f22.body.getD .skip) (EndsE P V Tryd.f22 (.B r) []) ⟨args0 0 [.cv (.lit (.int .i32 p0))], []⟩ := by
 unfold token_Scan_c1 at h
 refine sr0 L 200 [] [] [] (S' := ⟨[(0, .cv (.lit (.int .i32 p0)))], []⟩) ?_
 refine awp_seq ?_
 rcases ite_some h with ⟨c1, h⟩ | ⟨c1, h⟩
 ·refine ar L 202 [(2, true)] [] [] (cs := [(decide (p0 = 32)) = true]) (S' := ⟨[(2, .B true)], []⟩) (decide_eq_true c1) ?_
  refine awp_ret ?_
  obtain rfl := Option.some.inj h
  exact er (.B true)
 rcases ite_some h with ⟨c2, h⟩ | ⟨c2, h⟩
 ·refine ar L 202 [(2, false), (6, true)] [] [] (cs := [(decide (p0 = 32)) = false, (decide (p0 = 9)) = true]) (S' := ⟨[(2, .B true)], []⟩) (And.intro (decide_eq_false c1) (decide_eq_true c2)) ?_
  refine awp_ret ?_
  obtain rfl := Option.some.inj h
  exact er (.B true)
 refine ar L 202 [(2, false), (6, false)] [] [] (cs := [(decide (p0 = 32)) = false, (decide (p0 = 9)) = false]) (S' := ⟨[(2, .B (decide (p0 = 10)))], []⟩) (And.intro (decide_eq_false c1) (decide_eq_false c2)) ?_
 refine awp_ret ?_
 obtain rfl := Option.some.inj h
 exact er (.B (decide (p0 = 10)))
theorem token_Scan_c1.ok {K : Nat} {p0 : Int} {r : Bool} (h : token_Scan_c1 K p0 = some r) : PCall V P 22 [.cv (.lit (.int .i32 p0))] (.B r) := ECall.pcall (eo (fn := Tryd.f22) (n := 13) (m := 100) fun Γ => token_Scan_c1.body h) (by kernel_rfl)
def token_scanner_while_v2.l7 (K : Nat) (p0 : token_scanner) : Nat → Int → Option Int
 | 0, _ => none
 | k + 1, xh0_1_7h => (Option.bind (token_scanner_peek K (⟨p0.src, xh0_1_7h⟩ : token_scanner) 0) (fun a1 => (Option.bind (token_Scan_c1 K a1) (fun a2 => (if a2 = true then token_scanner_while_v2.l7 K p0 k (IntKind.i64.wrap (xh0_1_7h + 1)) else some xh0_1_7h)))))
def token_scanner_while_v2 (K : Nat) (p0 : token_scanner) : Option ((List UInt8) × token_scanner) := (Option.bind (token_scanner_while_v2.l7 K p0 K p0.at_ : Option Int) (fun xh0_1_7 => (if (0 : Int) ≤ p0.at_ ∧ p0.at_ ≤ xh0_1_7 ∧ xh0_1_7 ≤ (p0.src.length : Int) then some ((slc p0.src p0.at_ xh0_1_7), (⟨p0.src, xh0_1_7⟩ : token_scanner)) else none)))
theorem token_scanner_while_v2.body {Γ : Ent} {K : Nat} {p0 : token_scanner} {r : (List UInt8) × token_scanner} (h : token_scanner_while_v2 K p0 = some r) : AWp V P 31 100 Γ (Tryd.f21.body.getD .skip) (EndsE P V Tryd.f21 (.cv (.str r.1)) [(0, .raw [.str r.2.src, .I r.2.at_])]) ⟨args0 0 [.P 0, .cv (.fn (.func 22) [] [])], [(0, .raw (d_token_scanner p0))]⟩ := by
 unfold token_scanner_while_v2 at h
 refine sr0 L 200 [] [] [] (S' := ⟨[(0, .P 0), (1, .cv (.fn (.func 22) [] []))], [(0, .raw (d_token_scanner p0))]⟩) ?_
 refine sr0 L 202 [] [] [] (S' := ⟨[(0, .P 0), (1, .cv (.fn (.func 22) [] [])), (5, .I p0.at_)], [(0, .raw (d_token_scanner p0))]⟩) ?_
 refine awp_seq ?_
 refine awp_block ?_
 refine kp (S' := ⟨[(0, .P 0), (1, .cv (.fn (.func 22) [] [])), (5, .I p0.at_)], [(0, .raw (d_token_scanner p0))]⟩) ?_
 obtain ⟨o1, hp1, h⟩ := bind_some h
 refine awp_conseq (Q' := fun e S => (e = .exit 0 ∧ ∃ xh0_1_7 : Int, S = ⟨[(0, .P 0), (5, .I p0.at_)], [(0, .raw [.str p0.src, .I xh0_1_7])]⟩ ∧ xh0_1_7 = o1)) (awp_loop (fun k S => ∃ xh0_1_7h : Int, S = ⟨[(0, .P 0), (1, .cv (.fn (.func 22) [] [])), (5, .I p0.at_)], [(0, .raw [.str p0.src, .I xh0_1_7h])]⟩ ∧ token_scanner_while_v2.l7 K p0 k xh0_1_7h = some o1) ?_ ⟨_, rfl, hp1⟩) ?_
 ·clear h hp1
  intro k S hS
  obtain ⟨xh0_1_7h, rfl, h⟩ := hS
  cases k with
  | zero => cases h
  | succ k =>
  unfold token_scanner_while_v2.l7 at h
  refine awp_seq ?_
  refine awp_seq ?_
  obtain ⟨a1, h1, h⟩ := bind_some h
  obtain ⟨a2, h2, h⟩ := bind_some h
  refine ar L 208 [] [(2, .cv (.lit (.int .i32 a1))), (3, .B a2)] [] (cs := [PCall V P 34 [.cv (.pcs [.str p0.src, .I xh0_1_7h] 0), .I 0] (.cv (.lit (.int .i32 a1))), True, PCall V P 22 [.cv (.lit (.int .i32 a1))] (.B a2), True]) (S' := ⟨[(0, .P 0), (1, .cv (.fn (.func 22) [] [])), (5, .I p0.at_), (13, .B a2)], [(0, .raw [.str p0.src, .I xh0_1_7h])]⟩) (And.intro (token_scanner_peek.ok h1) (And.intro trivial (And.intro (token_Scan_c1.ok h2) trivial))) ?_
  rcases ite_some h with ⟨c1, h⟩ | ⟨c1, h⟩
  ·refine tt (b := a2) (c1) ?_
   refine awp_skip' ?_
   refine awp_block ?_
   refine ar0 L 213 [] [] [] (S' := ⟨[(0, .P 0), (1, .cv (.fn (.func 22) [] [])), (5, .I p0.at_)], [(0, .raw [.str p0.src, .I (IntKind.i64.wrap (xh0_1_7h + 1))])]⟩) ?_
   exact ⟨k, Nat.lt_succ_self k, _, rfl, h⟩
  refine ff (b := a2) (eq_false_of_ne_true c1) ?_
  refine ex (S' := ⟨[(0, .P 0), (5, .I p0.at_)], [(0, .raw [.str p0.src, .I xh0_1_7h])]⟩) ?_
  obtain rfl := Option.some.inj h
  exact ⟨rfl, _, rfl, rfl⟩
 ·rintro e S ⟨rfl, xh0_1_7, rfl, rfl⟩
  refine ⟨_, Turns.refl, ?_⟩
  refine awp_seq ?_
  obtain ⟨g1, h⟩ := guard_some h
  refine ad L mixed 222 [] [] [] [] 11 (cs := [(0 : Int) ≤ p0.at_, p0.at_ ≤ xh0_1_7, xh0_1_7 ≤ (p0.src.length : Int)]) (S' := ⟨[(4, .cv (.str (slc p0.src p0.at_ xh0_1_7)))], [(0, .raw [.str p0.src, .I xh0_1_7])]⟩) (And.intro g1.1 (And.intro g1.2.1 g1.2.2)) ?_
  refine awp_ret ?_
  obtain rfl := Option.some.inj h
  exact er (.cv (.str (slc p0.src p0.at_ xh0_1_7)))
theorem token_scanner_while_v2.okE {K : Nat} {p0 : token_scanner} {r : (List UInt8) × token_scanner} (h : token_scanner_while_v2 K p0 = some r) : ECall V P 21 [.P 0, .cv (.fn (.func 22) [] [])] [(0, .raw (d_token_scanner p0))] [0] (.cv (.str r.1)) [(0, .raw [.str r.2.src, .I r.2.at_])] :=
 eo (fn := Tryd.f21) (n := 31) (m := 100) fun Γ => token_scanner_while_v2.body h
def token_letter (K : Nat) (p0 : Int) : Option Bool := (if p0 ≥ 97 then (if p0 ≤ 122 then some true else (if p0 ≥ 65 then (if p0 ≤ 90 then some true else some (decide (p0 = 95))) else some (decide (p0 = 95)))) else (if p0 ≥ 65 then (if p0 ≤ 90 then some true else some (decide (p0 = 95))) else some (decide (p0 = 95))))
theorem token_letter.body {Γ : Ent} {K : Nat} {p0 : Int} {r : Bool} (h : token_letter K p0 = some r) : AWp V P 21 100 Γ (Tryd.f35.body.getD .skip) (EndsE P V Tryd.f35 (.B r) []) ⟨args0 0 [.cv (.lit (.int .i32 p0))], []⟩ := by
 unfold token_letter at h
 refine sr0 L 200 [] [] [] (S' := ⟨[(0, .cv (.lit (.int .i32 p0)))], []⟩) ?_
 refine awp_seq ?_
 rcases ite_some h with ⟨c1, h⟩ | ⟨c1, h⟩
 ·rcases ite_some h with ⟨c2, h⟩ | ⟨c2, h⟩
  ·refine ar L 202 [(2, true), (6, true)] [] [] (cs := [(decide (p0 ≥ 97)) = true, (decide (p0 ≤ 122)) = true]) (S' := ⟨[(2, .B true)], []⟩) (And.intro (decide_eq_true c1) (decide_eq_true c2)) ?_
   refine awp_ret ?_
   obtain rfl := Option.some.inj h
   exact er (.B true)
  rcases ite_some h with ⟨c3, h⟩ | ⟨c3, h⟩
  ·rcases ite_some h with ⟨c4, h⟩ | ⟨c4, h⟩
   ·refine ar L 202 [(2, true), (6, false), (9, true), (14, true)] [] [] (cs := [(decide (p0 ≥ 97)) = true, (decide (p0 ≤ 122)) = false, (decide (p0 ≥ 65)) = true, (decide (p0 ≤ 90)) = true]) (S' := ⟨[(2, .B true)], []⟩) (And.intro (decide_eq_true c1) (And.intro (decide_eq_false c2) (And.intro (decide_eq_true c3) (decide_eq_true c4)))) ?_
    refine awp_ret ?_
    obtain rfl := Option.some.inj h
    exact er (.B true)
   refine ar L 202 [(2, true), (6, false), (9, true), (14, false)] [] [] (cs := [(decide (p0 ≥ 97)) = true, (decide (p0 ≤ 122)) = false, (decide (p0 ≥ 65)) = true, (decide (p0 ≤ 90)) = false]) (S' := ⟨[(2, .B (decide (p0 = 95)))], []⟩) (And.intro (decide_eq_true c1) (And.intro (decide_eq_false c2) (And.intro (decide_eq_true c3) (decide_eq_false c4)))) ?_
   refine awp_ret ?_
   obtain rfl := Option.some.inj h
   exact er (.B (decide (p0 = 95)))
  refine ar L 202 [(2, true), (6, false), (9, false)] [] [] (cs := [(decide (p0 ≥ 97)) = true, (decide (p0 ≤ 122)) = false, (decide (p0 ≥ 65)) = false]) (S' := ⟨[(2, .B (decide (p0 = 95)))], []⟩) (And.intro (decide_eq_true c1) (And.intro (decide_eq_false c2) (decide_eq_false c3))) ?_
  refine awp_ret ?_
  obtain rfl := Option.some.inj h
  exact er (.B (decide (p0 = 95)))
 rcases ite_some h with ⟨c5, h⟩ | ⟨c5, h⟩
 ·rcases ite_some h with ⟨c6, h⟩ | ⟨c6, h⟩
  ·refine ar L 202 [(2, false), (9, true), (14, true)] [] [] (cs := [(decide (p0 ≥ 97)) = false, (decide (p0 ≥ 65)) = true, (decide (p0 ≤ 90)) = true]) (S' := ⟨[(2, .B true)], []⟩) (And.intro (decide_eq_false c1) (And.intro (decide_eq_true c5) (decide_eq_true c6))) ?_
   refine awp_ret ?_
   obtain rfl := Option.some.inj h
   exact er (.B true)
  refine ar L 202 [(2, false), (9, true), (14, false)] [] [] (cs := [(decide (p0 ≥ 97)) = false, (decide (p0 ≥ 65)) = true, (decide (p0 ≤ 90)) = false]) (S' := ⟨[(2, .B (decide (p0 = 95)))], []⟩) (And.intro (decide_eq_false c1) (And.intro (decide_eq_true c5) (decide_eq_false c6))) ?_
  refine awp_ret ?_
  obtain rfl := Option.some.inj h
  exact er (.B (decide (p0 = 95)))
 refine ar L 202 [(2, false), (9, false)] [] [] (cs := [(decide (p0 ≥ 97)) = false, (decide (p0 ≥ 65)) = false]) (S' := ⟨[(2, .B (decide (p0 = 95)))], []⟩) (And.intro (decide_eq_false c1) (decide_eq_false c5)) ?_
 refine awp_ret ?_
 obtain rfl := Option.some.inj h
 exact er (.B (decide (p0 = 95)))
theorem token_letter.ok {K : Nat} {p0 : Int} {r : Bool} (h : token_letter K p0 = some r) : PCall V P 35 [.cv (.lit (.int .i32 p0))] (.B r) := ECall.pcall (eo (fn := Tryd.f35) (n := 21) (m := 100) fun Γ => token_letter.body h) (by kernel_rfl)
def token_digit (K : Nat) (p0 : Int) : Option Bool := (if p0 ≥ 48 then some (decide (p0 ≤ 57)) else some false)
theorem token_digit.body {Γ : Ent} {K : Nat} {p0 : Int} {r : Bool} (h : token_digit K p0 = some r) : AWp V P 9 100 Γ (Tryd.f37.body.getD .skip) (EndsE P V Tryd.f37 (.B r) []) ⟨args0 0 [.cv (.lit (.int .i32 p0))], []⟩ := by
 unfold token_digit at h
 refine sr0 L 200 [] [] [] (S' := ⟨[(0, .cv (.lit (.int .i32 p0)))], []⟩) ?_
 refine awp_seq ?_
 rcases ite_some h with ⟨c1, h⟩ | ⟨c1, h⟩
 ·refine ar L 202 [(2, true)] [] [] (cs := [(decide (p0 ≥ 48)) = true]) (S' := ⟨[(2, .B (decide (p0 ≤ 57)))], []⟩) (decide_eq_true c1) ?_
  refine awp_ret ?_
  obtain rfl := Option.some.inj h
  exact er (.B (decide (p0 ≤ 57)))
 refine ar L 202 [(2, false)] [] [] (cs := [(decide (p0 ≥ 48)) = false]) (S' := ⟨[(2, .B false)], []⟩) (decide_eq_false c1) ?_
 refine awp_ret ?_
 obtain rfl := Option.some.inj h
 exact er (.B false)
theorem token_digit.ok {K : Nat} {p0 : Int} {r : Bool} (h : token_digit K p0 = some r) : PCall V P 37 [.cv (.lit (.int .i32 p0))] (.B r) := ECall.pcall (eo (fn := Tryd.f37) (n := 9) (m := 100) fun Γ => token_digit.body h) (by kernel_rfl)
def token_scanner_word_c1 (K : Nat) (p0 : Int) : Option Bool := (Option.bind (token_letter K p0) (fun a1 => (if a1 = true then some true else (Option.bind (token_digit K p0) (fun a2 => some a2)))))
theorem token_scanner_word_c1.body {Γ : Ent} {K : Nat} {p0 : Int} {r : Bool} (h : token_scanner_word_c1 K p0 = some r) : AWp V P 9 100 Γ (Tryd.f52.body.getD .skip) (EndsE P V Tryd.f52 (.B r) []) ⟨args0 0 [.cv (.lit (.int .i32 p0))], []⟩ := by
 unfold token_scanner_word_c1 at h
 refine sr0 L 200 [] [] [] (S' := ⟨[(0, .cv (.lit (.int .i32 p0)))], []⟩) ?_
 refine awp_seq ?_
 obtain ⟨a1, h1, h⟩ := bind_some h
 rcases ite_some h with ⟨c1, h⟩ | ⟨c1, h⟩
 ·refine ar L 202 [(2, true)] [(1, .B a1)] [] (cs := [PCall V P 35 [.cv (.lit (.int .i32 p0))] (.B a1), True, a1 = true]) (S' := ⟨[(2, .B true)], []⟩) (And.intro (token_letter.ok h1) (And.intro trivial c1)) ?_
  refine awp_ret ?_
  obtain rfl := Option.some.inj h
  exact er (.B true)
 obtain ⟨a2, h2, h⟩ := bind_some h
 refine ar L 202 [(2, false)] [(1, .B a1), (4, .B a2)] [] (cs := [PCall V P 35 [.cv (.lit (.int .i32 p0))] (.B a1), True, a1 = false, PCall V P 37 [.cv (.lit (.int .i32 p0))] (.B a2), True]) (S' := ⟨[(2, .B a2)], []⟩) (And.intro (token_letter.ok h1) (And.intro trivial (And.intro (eq_false_of_ne_true c1) (And.intro (token_digit.ok h2) trivial)))) ?_
 refine awp_ret ?_
 obtain rfl := Option.some.inj h
 exact er (.B a2)
theorem token_scanner_word_c1.ok {K : Nat} {p0 : Int} {r : Bool} (h : token_scanner_word_c1 K p0 = some r) : PCall V P 52 [.cv (.lit (.int .i32 p0))] (.B r) := ECall.pcall (eo (fn := Tryd.f52) (n := 9) (m := 100) fun Γ => token_scanner_word_c1.body h) (by kernel_rfl)
def token_scanner_while_v4.l7 (K : Nat) (p0 : token_scanner) : Nat → Int → Option Int
 | 0, _ => none
 | k + 1, xh0_1_7h => (Option.bind (token_scanner_peek K (⟨p0.src, xh0_1_7h⟩ : token_scanner) 0) (fun a1 => (Option.bind (token_scanner_word_c1 K a1) (fun a2 => (if a2 = true then token_scanner_while_v4.l7 K p0 k (IntKind.i64.wrap (xh0_1_7h + 1)) else some xh0_1_7h)))))
def token_scanner_while_v4 (K : Nat) (p0 : token_scanner) : Option ((List UInt8) × token_scanner) := (Option.bind (token_scanner_while_v4.l7 K p0 K p0.at_ : Option Int) (fun xh0_1_7 => (if (0 : Int) ≤ p0.at_ ∧ p0.at_ ≤ xh0_1_7 ∧ xh0_1_7 ≤ (p0.src.length : Int) then some ((slc p0.src p0.at_ xh0_1_7), (⟨p0.src, xh0_1_7⟩ : token_scanner)) else none)))
theorem token_scanner_while_v4.body {Γ : Ent} {K : Nat} {p0 : token_scanner} {r : (List UInt8) × token_scanner} (h : token_scanner_while_v4 K p0 = some r) : AWp V P 31 100 Γ (Tryd.f21.body.getD .skip) (EndsE P V Tryd.f21 (.cv (.str r.1)) [(0, .raw [.str r.2.src, .I r.2.at_])]) ⟨args0 0 [.P 0, .cv (.fn (.func 52) [] [])], [(0, .raw (d_token_scanner p0))]⟩ := by
 unfold token_scanner_while_v4 at h
 refine sr0 L 200 [] [] [] (S' := ⟨[(0, .P 0), (1, .cv (.fn (.func 52) [] []))], [(0, .raw (d_token_scanner p0))]⟩) ?_
 refine sr0 L 202 [] [] [] (S' := ⟨[(0, .P 0), (1, .cv (.fn (.func 52) [] [])), (5, .I p0.at_)], [(0, .raw (d_token_scanner p0))]⟩) ?_
 refine awp_seq ?_
 refine awp_block ?_
 refine kp (S' := ⟨[(0, .P 0), (1, .cv (.fn (.func 52) [] [])), (5, .I p0.at_)], [(0, .raw (d_token_scanner p0))]⟩) ?_
 obtain ⟨o1, hp1, h⟩ := bind_some h
 refine awp_conseq (Q' := fun e S => (e = .exit 0 ∧ ∃ xh0_1_7 : Int, S = ⟨[(0, .P 0), (5, .I p0.at_)], [(0, .raw [.str p0.src, .I xh0_1_7])]⟩ ∧ xh0_1_7 = o1)) (awp_loop (fun k S => ∃ xh0_1_7h : Int, S = ⟨[(0, .P 0), (1, .cv (.fn (.func 52) [] [])), (5, .I p0.at_)], [(0, .raw [.str p0.src, .I xh0_1_7h])]⟩ ∧ token_scanner_while_v4.l7 K p0 k xh0_1_7h = some o1) ?_ ⟨_, rfl, hp1⟩) ?_
 ·clear h hp1
  intro k S hS
  obtain ⟨xh0_1_7h, rfl, h⟩ := hS
  cases k with
  | zero => cases h
  | succ k =>
  unfold token_scanner_while_v4.l7 at h
  refine awp_seq ?_
  refine awp_seq ?_
  obtain ⟨a1, h1, h⟩ := bind_some h
  obtain ⟨a2, h2, h⟩ := bind_some h
  refine ar L 208 [] [(2, .cv (.lit (.int .i32 a1))), (3, .B a2)] [] (cs := [PCall V P 34 [.cv (.pcs [.str p0.src, .I xh0_1_7h] 0), .I 0] (.cv (.lit (.int .i32 a1))), True, PCall V P 52 [.cv (.lit (.int .i32 a1))] (.B a2), True]) (S' := ⟨[(0, .P 0), (1, .cv (.fn (.func 52) [] [])), (5, .I p0.at_), (13, .B a2)], [(0, .raw [.str p0.src, .I xh0_1_7h])]⟩) (And.intro (token_scanner_peek.ok h1) (And.intro trivial (And.intro (token_scanner_word_c1.ok h2) trivial))) ?_
  rcases ite_some h with ⟨c1, h⟩ | ⟨c1, h⟩
  ·refine tt (b := a2) (c1) ?_
   refine awp_skip' ?_
   refine awp_block ?_
   refine ar0 L 213 [] [] [] (S' := ⟨[(0, .P 0), (1, .cv (.fn (.func 52) [] [])), (5, .I p0.at_)], [(0, .raw [.str p0.src, .I (IntKind.i64.wrap (xh0_1_7h + 1))])]⟩) ?_
   exact ⟨k, Nat.lt_succ_self k, _, rfl, h⟩
  refine ff (b := a2) (eq_false_of_ne_true c1) ?_
  refine ex (S' := ⟨[(0, .P 0), (5, .I p0.at_)], [(0, .raw [.str p0.src, .I xh0_1_7h])]⟩) ?_
  obtain rfl := Option.some.inj h
  exact ⟨rfl, _, rfl, rfl⟩
 ·rintro e S ⟨rfl, xh0_1_7, rfl, rfl⟩
  refine ⟨_, Turns.refl, ?_⟩
  refine awp_seq ?_
  obtain ⟨g1, h⟩ := guard_some h
  refine ad L mixed 222 [] [] [] [] 11 (cs := [(0 : Int) ≤ p0.at_, p0.at_ ≤ xh0_1_7, xh0_1_7 ≤ (p0.src.length : Int)]) (S' := ⟨[(4, .cv (.str (slc p0.src p0.at_ xh0_1_7)))], [(0, .raw [.str p0.src, .I xh0_1_7])]⟩) (And.intro g1.1 (And.intro g1.2.1 g1.2.2)) ?_
  refine awp_ret ?_
  obtain rfl := Option.some.inj h
  exact er (.cv (.str (slc p0.src p0.at_ xh0_1_7)))
theorem token_scanner_while_v4.okE {K : Nat} {p0 : token_scanner} {r : (List UInt8) × token_scanner} (h : token_scanner_while_v4 K p0 = some r) : ECall V P 21 [.P 0, .cv (.fn (.func 52) [] [])] [(0, .raw (d_token_scanner p0))] [0] (.cv (.str r.1)) [(0, .raw [.str r.2.src, .I r.2.at_])] :=
 eo (fn := Tryd.f21) (n := 31) (m := 100) fun Γ => token_scanner_while_v4.body h
def slices_Index_48.l7 (K : Nat) (p0 : List (List UInt8)) (p1 : List UInt8) : Nat → Int → Option (Out Int Unit)
 | 0, _ => none
 | k + 1, xt8_7h => (if xt8_7h < (p0.length : Int) then (if (0 : Int) ≤ xt8_7h ∧ (xt8_7h : Int) < (p0.length : Int) then (if p1 = (p0.getD (Int.toNat xt8_7h) ([] : List UInt8)) then some (Out.done xt8_7h) else slices_Index_48.l7 K p0 p1 k (IntKind.i64.wrap (xt8_7h + 1))) else none) else some (Out.go ()))
def slices_Index_48 (K : Nat) (p0 : List (List UInt8)) (p1 : List UInt8) : Option Int := (obind (slices_Index_48.l7 K p0 p1 K 0 : Option (Out Int Unit)) (fun r => r) (fun _ => some (-1)))
theorem slices_Index_48.body {Γ : Ent} {K : Nat} {p0 : List (List UInt8)} {p1 : List UInt8} {r : Int} (h : slices_Index_48 K p0 p1 = some r) : AWp V P 19 100 Γ (Tryd.f48.body.getD .skip) (EndsE P V Tryd.f48 (.I r) []) ⟨args0 0 [.cv (.ro .t_string p0), .cv (.str p1)], []⟩ := by
 unfold slices_Index_48 at h
 refine sr0 L 200 [] [] [] (S' := ⟨[(0, .cv (.ro .t_string p0)), (1, .cv (.str p1))], []⟩) ?_
 refine awp_seq ?_
 refine sr0 L 202 [] [] [] (S' := ⟨[(0, .cv (.ro .t_string p0)), (1, .cv (.str p1)), (7, .I (p0.length : Int)), (8, .I 0)], []⟩) ?_
 refine awp_block ?_
 refine kp (S' := ⟨[(0, .cv (.ro .t_string p0)), (1, .cv (.str p1)), (7, .I (p0.length : Int)), (8, .I 0)], []⟩) ?_
 obtain ⟨o1, hp1, h⟩ := obind_some h
 refine awp_conseq (Q' := fun e S => (e = .exit 0 ∧ S = ⟨[], []⟩ ∧ Out.go () = o1) ∨ (e = .ret ∧ ∃ a, Out.done a = o1 ∧ EndsE P V Tryd.f48 (.I a) [] .ret S)) (awp_loop (fun k S => ∃ xt8_7h : Int, S = ⟨[(0, .cv (.ro .t_string p0)), (1, .cv (.str p1)), (7, .I (p0.length : Int)), (8, .I xt8_7h)], []⟩ ∧ slices_Index_48.l7 K p0 p1 k xt8_7h = some o1) ?_ ⟨_, rfl, hp1⟩) ?_
 ·clear h hp1
  intro k S hS
  obtain ⟨xt8_7h, rfl, h⟩ := hS
  cases k with
  | zero => cases h
  | succ k =>
  unfold slices_Index_48.l7 at h
  refine sr0 L 206 [] [] [] (S' := ⟨[(0, .cv (.ro .t_string p0)), (1, .cv (.str p1)), (7, .I (p0.length : Int)), (8, .I xt8_7h), (9, .B (decide (xt8_7h < (p0.length : Int))))], []⟩) ?_
  refine awp_seq ?_
  rcases ite_some h with ⟨c1, h⟩ | ⟨c1, h⟩
  ·refine tt (b := (decide (xt8_7h < (p0.length : Int)))) (decide_eq_true c1) ?_
   refine awp_skip' ?_
   refine awp_seq ?_
   refine awp_block ?_
   refine sr0 L 208 [] [] [] (S' := ⟨[(0, .cv (.ro .t_string p0)), (1, .cv (.str p1)), (5, .I xt8_7h), (7, .I (p0.length : Int)), (8, .I xt8_7h)], []⟩) ?_
   refine awp_seq ?_
   obtain ⟨g1, h⟩ := guard_some h
   refine ar L 211 [] [] [] (cs := [(0 : Int) ≤ xt8_7h, (xt8_7h : Int) < (p0.length : Int)]) (S' := ⟨[(0, .cv (.ro .t_string p0)), (1, .cv (.str p1)), (5, .I xt8_7h), (7, .I (p0.length : Int)), (8, .I xt8_7h), (16, .B (decide (p1 = (p0.getD (Int.toNat xt8_7h) ([] : List UInt8)))))], []⟩) (And.intro g1.1 g1.2) ?_
   rcases ite_some h with ⟨c2, h⟩ | ⟨c2, h⟩
   ·refine tt (b := (decide (p1 = (p0.getD (Int.toNat xt8_7h) ([] : List UInt8))))) (decide_eq_true c2) ?_
    refine sr0 L 218 [] [] [] (S' := ⟨[(4, .I xt8_7h)], []⟩) ?_
    refine awp_ret ?_
    obtain rfl := Option.some.inj h
    exact .inr ⟨rfl, _, rfl, er (.I xt8_7h)⟩
   refine ff (b := (decide (p1 = (p0.getD (Int.toNat xt8_7h) ([] : List UInt8))))) (decide_eq_false c2) ?_
   refine awp_skip' ?_
   refine ar0 L 221 [] [] [] (S' := ⟨[(0, .cv (.ro .t_string p0)), (1, .cv (.str p1)), (7, .I (p0.length : Int)), (8, .I (IntKind.i64.wrap (xt8_7h + 1)))], []⟩) ?_
   exact ⟨k, Nat.lt_succ_self k, _, rfl, h⟩
  refine ff (b := (decide (xt8_7h < (p0.length : Int)))) (decide_eq_false c1) ?_
  refine ex (S' := ⟨[], []⟩) ?_
  obtain rfl := Option.some.inj h
  exact .inl ⟨rfl, rfl, rfl⟩
 ·rintro e S (⟨rfl, rfl, rfl⟩ | ⟨rfl, a, rfl, hr⟩)
  ·rcases h with ⟨_, e1, h⟩ | ⟨_, e1, h⟩
   ·cases e1
   ·have e2 := Out.go.inj e1
    subst e2
    refine ⟨_, Turns.refl, ?_⟩
    refine sr0 L 224 [] [] [] (S' := ⟨[(4, .I (-1))], []⟩) ?_
    refine awp_ret ?_
    obtain rfl := Option.some.inj h
    exact er (.I (-1))
  ·rcases h with ⟨_, e1, h⟩ | ⟨_, e1, h⟩
   ·have e2 := Out.done.inj e1
    subst e2
    subst h
    exact ⟨_, Turns.refl, hr⟩
   ·cases e1
theorem slices_Index_48.ok {K : Nat} {p0 : List (List UInt8)} {p1 : List UInt8} {r : Int} (h : slices_Index_48 K p0 p1 = some r) : PCall V P 48 [.cv (.ro .t_string p0), .cv (.str p1)] (.I r) := ECall.pcall (eo (fn := Tryd.f48) (n := 19) (m := 100) fun Γ => slices_Index_48.body h) (by kernel_rfl)
def slices_Contains_26 (K : Nat) (p0 : List (List UInt8)) (p1 : List UInt8) : Option Bool := (Option.bind (slices_Index_48 K p0 p1) (fun a1 => some (decide (a1 ≥ 0))))
theorem slices_Contains_26.body {Γ : Ent} {K : Nat} {p0 : List (List UInt8)} {p1 : List UInt8} {r : Bool} (h : slices_Contains_26 K p0 p1 = some r) : AWp V P 9 100 Γ (Tryd.f26.body.getD .skip) (EndsE P V Tryd.f26 (.B r) []) ⟨args0 0 [.cv (.ro .t_string p0), .cv (.str p1)], []⟩ := by
 unfold slices_Contains_26 at h
 refine sr0 L 200 [] [] [] (S' := ⟨[(0, .cv (.ro .t_string p0)), (1, .cv (.str p1))], []⟩) ?_
 refine awp_seq ?_
 obtain ⟨a1, h1, h⟩ := bind_some h
 refine ar L 202 [] [(2, .I a1)] [] (cs := [PCall V P 48 [.cv (.ro .t_string p0), .cv (.str p1)] (.I a1), True]) (S' := ⟨[(4, .B (decide (a1 ≥ 0)))], []⟩) (And.intro (slices_Index_48.ok h1) trivial) ?_
 refine awp_ret ?_
 obtain rfl := Option.some.inj h
 exact er (.B (decide (a1 ≥ 0)))
theorem slices_Contains_26.ok {K : Nat} {p0 : List (List UInt8)} {p1 : List UInt8} {r : Bool} (h : slices_Contains_26 K p0 p1 = some r) : PCall V P 26 [.cv (.ro .t_string p0), .cv (.str p1)] (.B r) := ECall.pcall (eo (fn := Tryd.f26) (n := 9) (m := 100) fun Γ => slices_Contains_26.body h) (by kernel_rfl)
def token_Keyword (K : Nat) (p0 : List UInt8) : Option Bool := (if ([97, 110, 100, 32, 97, 119, 97, 105, 116, 32, 99, 97, 115, 101, 32, 99, 97, 116, 99, 104, 32, 99, 104, 101, 99, 107, 32, 101, 108, 115, 101, 32, 102, 97, 108, 115, 101, 32, 102, 117, 110, 99, 32, 103, 111, 32, 105, 102, 32, 108, 101, 116, 32, 110, 111, 116, 32, 110, 117, 108, 108, 32, 111, 110, 32, 111, 114, 32, 113, 117, 101, 114, 121, 32, 114, 101, 116, 117, 114, 110, 32, 115, 97, 103, 97, 32, 115, 101, 108, 101, 99, 116, 32, 115, 105, 103, 110, 97, 108, 32, 116, 104, 114, 111, 119, 32, 116, 114, 117, 101, 32, 116, 114, 121, 32, 117, 110, 100, 111, 32, 117, 112, 100, 97, 116, 101, 32, 118, 97, 114, 32, 119, 104, 105, 108, 101] : List UInt8).length < 4294967281 ∧ (([97, 110, 100, 32, 97, 119, 97, 105, 116, 32, 99, 97, 115, 101, 32, 99, 97, 116, 99, 104, 32, 99, 104, 101, 99, 107, 32, 101, 108, 115, 101, 32, 102, 97, 108, 115, 101, 32, 102, 117, 110, 99, 32, 103, 111, 32, 105, 102, 32, 108, 101, 116, 32, 110, 111, 116, 32, 110, 117, 108, 108, 32, 111, 110, 32, 111, 114, 32, 113, 117, 101, 114, 121, 32, 114, 101, 116, 117, 114, 110, 32, 115, 97, 103, 97, 32, 115, 101, 108, 101, 99, 116, 32, 115, 105, 103, 110, 97, 108, 32, 116, 104, 114, 111, 119, 32, 116, 114, 117, 101, 32, 116, 114, 121, 32, 117, 110, 100, 111, 32, 117, 112, 100, 97, 116, 101, 32, 118, 97, 114, 32, 119, 104, 105, 108, 101] : List UInt8).all fun b => decide (b.toNat < 128)) = true then (Option.bind (slices_Contains_26 K (Lib.fields ([97, 110, 100, 32, 97, 119, 97, 105, 116, 32, 99, 97, 115, 101, 32, 99, 97, 116, 99, 104, 32, 99, 104, 101, 99, 107, 32, 101, 108, 115, 101, 32, 102, 97, 108, 115, 101, 32, 102, 117, 110, 99, 32, 103, 111, 32, 105, 102, 32, 108, 101, 116, 32, 110, 111, 116, 32, 110, 117, 108, 108, 32, 111, 110, 32, 111, 114, 32, 113, 117, 101, 114, 121, 32, 114, 101, 116, 117, 114, 110, 32, 115, 97, 103, 97, 32, 115, 101, 108, 101, 99, 116, 32, 115, 105, 103, 110, 97, 108, 32, 116, 104, 114, 111, 119, 32, 116, 114, 117, 101, 32, 116, 114, 121, 32, 117, 110, 100, 111, 32, 117, 112, 100, 97, 116, 101, 32, 118, 97, 114, 32, 119, 104, 105, 108, 101] : List UInt8)) p0) (fun a1 => some a1)) else none)
theorem token_Keyword.body {Γ : Ent} {K : Nat} {p0 : List UInt8} {r : Bool} (h : token_Keyword K p0 = some r) : AWp V P 8 100 Γ (Tryd.f14.body.getD .skip) (EndsE P V Tryd.f14 (.B r) []) ⟨args0 0 [.cv (.str p0)], []⟩ := by
 unfold token_Keyword at h
 refine sr0 L 200 [] [] [] (S' := ⟨[(0, .cv (.str p0))], []⟩) ?_
 refine awp_seq ?_
 obtain ⟨g1, h⟩ := guard_some h
 refine ar L 202 [] [(0, .cv (.ron .t_string (Lib.fields ([97, 110, 100, 32, 97, 119, 97, 105, 116, 32, 99, 97, 115, 101, 32, 99, 97, 116, 99, 104, 32, 99, 104, 101, 99, 107, 32, 101, 108, 115, 101, 32, 102, 97, 108, 115, 101, 32, 102, 117, 110, 99, 32, 103, 111, 32, 105, 102, 32, 108, 101, 116, 32, 110, 111, 116, 32, 110, 117, 108, 108, 32, 111, 110, 32, 111, 114, 32, 113, 117, 101, 114, 121, 32, 114, 101, 116, 117, 114, 110, 32, 115, 97, 103, 97, 32, 115, 101, 108, 101, 99, 116, 32, 115, 105, 103, 110, 97, 108, 32, 116, 104, 114, 111, 119, 32, 116, 114, 117, 101, 32, 116, 114, 121, 32, 117, 110, 100, 111, 32, 117, 112, 100, 97, 116, 101, 32, 118, 97, 114, 32, 119, 104, 105, 108, 101] : List UInt8))))] [] (cs := [FCall V P 25 [.cv (.str ([97, 110, 100, 32, 97, 119, 97, 105, 116, 32, 99, 97, 115, 101, 32, 99, 97, 116, 99, 104, 32, 99, 104, 101, 99, 107, 32, 101, 108, 115, 101, 32, 102, 97, 108, 115, 101, 32, 102, 117, 110, 99, 32, 103, 111, 32, 105, 102, 32, 108, 101, 116, 32, 110, 111, 116, 32, 110, 117, 108, 108, 32, 111, 110, 32, 111, 114, 32, 113, 117, 101, 114, 121, 32, 114, 101, 116, 117, 114, 110, 32, 115, 97, 103, 97, 32, 115, 101, 108, 101, 99, 116, 32, 115, 105, 103, 110, 97, 108, 32, 116, 104, 114, 111, 119, 32, 116, 114, 117, 101, 32, 116, 114, 121, 32, 117, 110, 100, 111, 32, 117, 112, 100, 97, 116, 101, 32, 118, 97, 114, 32, 119, 104, 105, 108, 101] : List UInt8))] Tag.t_string (Lib.fields ([97, 110, 100, 32, 97, 119, 97, 105, 116, 32, 99, 97, 115, 101, 32, 99, 97, 116, 99, 104, 32, 99, 104, 101, 99, 107, 32, 101, 108, 115, 101, 32, 102, 97, 108, 115, 101, 32, 102, 117, 110, 99, 32, 103, 111, 32, 105, 102, 32, 108, 101, 116, 32, 110, 111, 116, 32, 110, 117, 108, 108, 32, 111, 110, 32, 111, 114, 32, 113, 117, 101, 114, 121, 32, 114, 101, 116, 117, 114, 110, 32, 115, 97, 103, 97, 32, 115, 101, 108, 101, 99, 116, 32, 115, 105, 103, 110, 97, 108, 32, 116, 104, 114, 111, 119, 32, 116, 114, 117, 101, 32, 116, 114, 121, 32, 117, 110, 100, 111, 32, 117, 112, 100, 97, 116, 101, 32, 118, 97, 114, 32, 119, 104, 105, 108, 101] : List UInt8))]) (S' := ⟨[(0, .cv (.str p0)), (3, .cv (.own .t_string 202))], [(202, .lst .t_string (Lib.fields ([97, 110, 100, 32, 97, 119, 97, 105, 116, 32, 99, 97, 115, 101, 32, 99, 97, 116, 99, 104, 32, 99, 104, 101, 99, 107, 32, 101, 108, 115, 101, 32, 102, 97, 108, 115, 101, 32, 102, 117, 110, 99, 32, 103, 111, 32, 105, 102, 32, 108, 101, 116, 32, 110, 111, 116, 32, 110, 117, 108, 108, 32, 111, 110, 32, 111, 114, 32, 113, 117, 101, 114, 121, 32, 114, 101, 116, 117, 114, 110, 32, 115, 97, 103, 97, 32, 115, 101, 108, 101, 99, 116, 32, 115, 105, 103, 110, 97, 108, 32, 116, 104, 114, 111, 119, 32, 116, 114, 117, 101, 32, 116, 114, 121, 32, 117, 110, 100, 111, 32, 117, 112, 100, 97, 116, 101, 32, 118, 97, 114, 32, 119, 104, 105, 108, 101] : List UInt8)))]⟩) (strings_Fields.okF ([97, 110, 100, 32, 97, 119, 97, 105, 116, 32, 99, 97, 115, 101, 32, 99, 97, 116, 99, 104, 32, 99, 104, 101, 99, 107, 32, 101, 108, 115, 101, 32, 102, 97, 108, 115, 101, 32, 102, 117, 110, 99, 32, 103, 111, 32, 105, 102, 32, 108, 101, 116, 32, 110, 111, 116, 32, 110, 117, 108, 108, 32, 111, 110, 32, 111, 114, 32, 113, 117, 101, 114, 121, 32, 114, 101, 116, 117, 114, 110, 32, 115, 97, 103, 97, 32, 115, 101, 108, 101, 99, 116, 32, 115, 105, 103, 110, 97, 108, 32, 116, 104, 114, 111, 119, 32, 116, 114, 117, 101, 32, 116, 114, 121, 32, 117, 110, 100, 111, 32, 117, 112, 100, 97, 116, 101, 32, 118, 97, 114, 32, 119, 104, 105, 108, 101] : List UInt8) g1.1 g1.2) ?_
 refine awp_seq ?_
 obtain ⟨a1, h1, h⟩ := bind_some h
 refine ar L 205 [] [(2, .B a1)] [] (cs := [PCall V P 26 [.cv (.ro .t_string (Lib.fields ([97, 110, 100, 32, 97, 119, 97, 105, 116, 32, 99, 97, 115, 101, 32, 99, 97, 116, 99, 104, 32, 99, 104, 101, 99, 107, 32, 101, 108, 115, 101, 32, 102, 97, 108, 115, 101, 32, 102, 117, 110, 99, 32, 103, 111, 32, 105, 102, 32, 108, 101, 116, 32, 110, 111, 116, 32, 110, 117, 108, 108, 32, 111, 110, 32, 111, 114, 32, 113, 117, 101, 114, 121, 32, 114, 101, 116, 117, 114, 110, 32, 115, 97, 103, 97, 32, 115, 101, 108, 101, 99, 116, 32, 115, 105, 103, 110, 97, 108, 32, 116, 104, 114, 111, 119, 32, 116, 114, 117, 101, 32, 116, 114, 121, 32, 117, 110, 100, 111, 32, 117, 112, 100, 97, 116, 101, 32, 118, 97, 114, 32, 119, 104, 105, 108, 101] : List UInt8))), .cv (.str p0)] (.B a1), True]) (S' := ⟨[(2, .B a1)], []⟩) (And.intro (slices_Contains_26.ok h1) trivial) ?_
 refine awp_ret ?_
 obtain rfl := Option.some.inj h
 exact er (.B a1)
theorem token_Keyword.ok {K : Nat} {p0 : List UInt8} {r : Bool} (h : token_Keyword K p0 = some r) : PCall V P 14 [.cv (.str p0)] (.B r) := ECall.pcall (eo (fn := Tryd.f14) (n := 8) (m := 100) fun Γ => token_Keyword.body h) (by kernel_rfl)
def token_scanner_word_v2 (K : Nat) (p0 : token_scanner) : Option (api_Token × Int × token_scanner) := (Option.bind (token_scanner_while_v4 K p0) (fun (a1_0, a1_1) => (if (a1_0.length : Int) > 64 then some ((⟨0, 0, [], 0⟩ : api_Token), 8, a1_1) else (Option.bind (token_Keyword K a1_0) (fun a2 => (if a2 = true then some ((⟨2, 0, a1_0, 0⟩ : api_Token), 0, a1_1) else some ((⟨1, 0, a1_0, 0⟩ : api_Token), 0, a1_1)))))))
theorem token_scanner_word_v2.body {Γ : Ent} {K : Nat} {p0 : token_scanner} {r : api_Token × Int × token_scanner} (h : token_scanner_word_v2 K p0 = some r) : AWp V P 17 100 Γ (Tryd.f36.body.getD .skip) (EndsE P V Tryd.f36 (.tup [.agg [.I r.1.Kind, .I r.1.At, .str r.1.Text, .I r.1.Int], .I r.2.1]) [(0, .raw [.str r.2.2.src, .I r.2.2.at_])]) ⟨args0 0 [.P 0], [(0, .raw (d_token_scanner p0))]⟩ := by
 unfold token_scanner_word_v2 at h
 refine sr0 L 200 [] [] [] (S' := ⟨[(0, .P 0), (2, .P 200)], [(0, .raw (d_token_scanner p0)), (200, .raw [.I 0, .I 0, .str [], .I 0])]⟩) ?_
 refine awp_seq ?_
 obtain ⟨⟨a1_0, a1_1⟩, h1, h⟩ := bind_some h
 dsimp only at h
 refine ar L 203 [] [] [(1, { hids := [0], fx := [0], r := .cv (.str a1_0), H' := [(0, .raw (d_token_scanner a1_1))], σ := [(0, 0)] })] (cs := [ECall V P 21 [.P 0, .cv (.fn (.func 52) [] [])] [(0, .raw (d_token_scanner p0))] [0] (.cv (.str a1_0)) [(0, .raw (d_token_scanner a1_1))]]) (S' := ⟨[(2, .P 200), (4, .cv (.str a1_0))], [(0, .raw (d_token_scanner a1_1)), (200, .raw [.I 0, .I 0, .str [], .I 0])]⟩) (token_scanner_while_v4.okE h1) ?_
 refine awp_seq ?_
 refine sr0 L 207 [] [] [] (S' := ⟨[(2, .P 200), (4, .cv (.str a1_0)), (9, .B (decide ((a1_0.length : Int) > 64)))], [(0, .raw (d_token_scanner a1_1)), (200, .raw [.I 0, .I 0, .str [], .I 0])]⟩) ?_
 rcases ite_some h with ⟨c1, h⟩ | ⟨c1, h⟩
 ·refine tt (b := (decide ((a1_0.length : Int) > 64))) (decide_eq_true c1) ?_
  refine sr0 L 211 [] [] [] (S' := ⟨[(2, .P 200), (3, .I 8)], [(0, .raw (d_token_scanner a1_1)), (200, .raw [.I 0, .I 0, .str [], .I 0])]⟩) ?_
  refine awp_turn (Turns.rn [(0, 0), (200, 100)] (S' := ⟨[(2, .P 100), (3, .I 8)], [(0, .raw (d_token_scanner a1_1)), (100, .raw [.I 0, .I 0, .str [], .I 0])]⟩)) ?_
  refine awp_ret ?_
  obtain rfl := Option.some.inj h
  exact er (.tup [.agg [.I 0, .I 0, .str [], .I 0], .I 8])
 refine ff (b := (decide ((a1_0.length : Int) > 64))) (decide_eq_false c1) ?_
 refine awp_skip' ?_
 refine awp_seq ?_
 refine awp_seq ?_
 obtain ⟨a2, h2, h⟩ := bind_some h
 refine ar L 215 [] [(1, .B a2)] [] (cs := [PCall V P 14 [.cv (.str a1_0)] (.B a2), True]) (S' := ⟨[(2, .P 200), (4, .cv (.str a1_0)), (12, .B a2)], [(0, .raw (d_token_scanner a1_1)), (200, .raw [.I 0, .I 0, .str [], .I 0])]⟩) (And.intro (token_Keyword.ok h2) trivial) ?_
 rcases ite_some h with ⟨c2, h⟩ | ⟨c2, h⟩
 ·refine tt (b := a2) (c2) ?_
  refine sr0 L 218 [] [] [] (S' := ⟨[(2, .P 200), (3, .I 0)], [(0, .raw (d_token_scanner a1_1)), (200, .raw [.I 2, .I 0, .str a1_0, .I 0])]⟩) ?_
  refine awp_turn (Turns.rn [(0, 0), (200, 100)] (S' := ⟨[(2, .P 100), (3, .I 0)], [(0, .raw (d_token_scanner a1_1)), (100, .raw [.I 2, .I 0, .str a1_0, .I 0])]⟩)) ?_
  refine awp_ret ?_
  obtain rfl := Option.some.inj h
  exact er (.tup [.agg [.I 2, .I 0, .str a1_0, .I 0], .I 0])
 refine ff (b := a2) (eq_false_of_ne_true c2) ?_
 refine awp_skip' ?_
 refine sr0 L 223 [] [] [] (S' := ⟨[(2, .P 200), (3, .I 0)], [(0, .raw (d_token_scanner a1_1)), (200, .raw [.I 1, .I 0, .str a1_0, .I 0])]⟩) ?_
 refine awp_turn (Turns.rn [(0, 0), (200, 100)] (S' := ⟨[(2, .P 100), (3, .I 0)], [(0, .raw (d_token_scanner a1_1)), (100, .raw [.I 1, .I 0, .str a1_0, .I 0])]⟩)) ?_
 refine awp_ret ?_
 obtain rfl := Option.some.inj h
 exact er (.tup [.agg [.I 1, .I 0, .str a1_0, .I 0], .I 0])
theorem token_scanner_word_v2.okE {K : Nat} {p0 : token_scanner} {r : api_Token × Int × token_scanner} (h : token_scanner_word_v2 K p0 = some r) : ECall V P 36 [.P 0] [(0, .raw (d_token_scanner p0))] [0] (.tup [.agg [.I r.1.Kind, .I r.1.At, .str r.1.Text, .I r.1.Int], .I r.2.1]) [(0, .raw [.str r.2.2.src, .I r.2.2.at_])] :=
 eo (fn := Tryd.f36) (n := 17) (m := 100) fun Γ => token_scanner_word_v2.body h
def token_scanner_while_v6.l7 (K : Nat) (p0 : token_scanner) : Nat → Int → Option Int
 | 0, _ => none
 | k + 1, xh0_1_7h => (Option.bind (token_scanner_peek K (⟨p0.src, xh0_1_7h⟩ : token_scanner) 0) (fun a1 => (Option.bind (token_digit K a1) (fun a2 => (if a2 = true then token_scanner_while_v6.l7 K p0 k (IntKind.i64.wrap (xh0_1_7h + 1)) else some xh0_1_7h)))))
def token_scanner_while_v6 (K : Nat) (p0 : token_scanner) : Option ((List UInt8) × token_scanner) := (Option.bind (token_scanner_while_v6.l7 K p0 K p0.at_ : Option Int) (fun xh0_1_7 => (if (0 : Int) ≤ p0.at_ ∧ p0.at_ ≤ xh0_1_7 ∧ xh0_1_7 ≤ (p0.src.length : Int) then some ((slc p0.src p0.at_ xh0_1_7), (⟨p0.src, xh0_1_7⟩ : token_scanner)) else none)))
theorem token_scanner_while_v6.body {Γ : Ent} {K : Nat} {p0 : token_scanner} {r : (List UInt8) × token_scanner} (h : token_scanner_while_v6 K p0 = some r) : AWp V P 31 100 Γ (Tryd.f21.body.getD .skip) (EndsE P V Tryd.f21 (.cv (.str r.1)) [(0, .raw [.str r.2.src, .I r.2.at_])]) ⟨args0 0 [.P 0, .cv (.fn (.func 37) [] [])], [(0, .raw (d_token_scanner p0))]⟩ := by
 unfold token_scanner_while_v6 at h
 refine sr0 L 200 [] [] [] (S' := ⟨[(0, .P 0), (1, .cv (.fn (.func 37) [] []))], [(0, .raw (d_token_scanner p0))]⟩) ?_
 refine sr0 L 202 [] [] [] (S' := ⟨[(0, .P 0), (1, .cv (.fn (.func 37) [] [])), (5, .I p0.at_)], [(0, .raw (d_token_scanner p0))]⟩) ?_
 refine awp_seq ?_
 refine awp_block ?_
 refine kp (S' := ⟨[(0, .P 0), (1, .cv (.fn (.func 37) [] [])), (5, .I p0.at_)], [(0, .raw (d_token_scanner p0))]⟩) ?_
 obtain ⟨o1, hp1, h⟩ := bind_some h
 refine awp_conseq (Q' := fun e S => (e = .exit 0 ∧ ∃ xh0_1_7 : Int, S = ⟨[(0, .P 0), (5, .I p0.at_)], [(0, .raw [.str p0.src, .I xh0_1_7])]⟩ ∧ xh0_1_7 = o1)) (awp_loop (fun k S => ∃ xh0_1_7h : Int, S = ⟨[(0, .P 0), (1, .cv (.fn (.func 37) [] [])), (5, .I p0.at_)], [(0, .raw [.str p0.src, .I xh0_1_7h])]⟩ ∧ token_scanner_while_v6.l7 K p0 k xh0_1_7h = some o1) ?_ ⟨_, rfl, hp1⟩) ?_
 ·clear h hp1
  intro k S hS
  obtain ⟨xh0_1_7h, rfl, h⟩ := hS
  cases k with
  | zero => cases h
  | succ k =>
  unfold token_scanner_while_v6.l7 at h
  refine awp_seq ?_
  refine awp_seq ?_
  obtain ⟨a1, h1, h⟩ := bind_some h
  obtain ⟨a2, h2, h⟩ := bind_some h
  refine ar L 208 [] [(2, .cv (.lit (.int .i32 a1))), (3, .B a2)] [] (cs := [PCall V P 34 [.cv (.pcs [.str p0.src, .I xh0_1_7h] 0), .I 0] (.cv (.lit (.int .i32 a1))), True, PCall V P 37 [.cv (.lit (.int .i32 a1))] (.B a2), True]) (S' := ⟨[(0, .P 0), (1, .cv (.fn (.func 37) [] [])), (5, .I p0.at_), (13, .B a2)], [(0, .raw [.str p0.src, .I xh0_1_7h])]⟩) (And.intro (token_scanner_peek.ok h1) (And.intro trivial (And.intro (token_digit.ok h2) trivial))) ?_
  rcases ite_some h with ⟨c1, h⟩ | ⟨c1, h⟩
  ·refine tt (b := a2) (c1) ?_
   refine awp_skip' ?_
   refine awp_block ?_
   refine ar0 L 213 [] [] [] (S' := ⟨[(0, .P 0), (1, .cv (.fn (.func 37) [] [])), (5, .I p0.at_)], [(0, .raw [.str p0.src, .I (IntKind.i64.wrap (xh0_1_7h + 1))])]⟩) ?_
   exact ⟨k, Nat.lt_succ_self k, _, rfl, h⟩
  refine ff (b := a2) (eq_false_of_ne_true c1) ?_
  refine ex (S' := ⟨[(0, .P 0), (5, .I p0.at_)], [(0, .raw [.str p0.src, .I xh0_1_7h])]⟩) ?_
  obtain rfl := Option.some.inj h
  exact ⟨rfl, _, rfl, rfl⟩
 ·rintro e S ⟨rfl, xh0_1_7, rfl, rfl⟩
  refine ⟨_, Turns.refl, ?_⟩
  refine awp_seq ?_
  obtain ⟨g1, h⟩ := guard_some h
  refine ad L mixed 222 [] [] [] [] 11 (cs := [(0 : Int) ≤ p0.at_, p0.at_ ≤ xh0_1_7, xh0_1_7 ≤ (p0.src.length : Int)]) (S' := ⟨[(4, .cv (.str (slc p0.src p0.at_ xh0_1_7)))], [(0, .raw [.str p0.src, .I xh0_1_7])]⟩) (And.intro g1.1 (And.intro g1.2.1 g1.2.2)) ?_
  refine awp_ret ?_
  obtain rfl := Option.some.inj h
  exact er (.cv (.str (slc p0.src p0.at_ xh0_1_7)))
theorem token_scanner_while_v6.okE {K : Nat} {p0 : token_scanner} {r : (List UInt8) × token_scanner} (h : token_scanner_while_v6 K p0 = some r) : ECall V P 21 [.P 0, .cv (.fn (.func 37) [] [])] [(0, .raw (d_token_scanner p0))] [0] (.cv (.str r.1)) [(0, .raw [.str r.2.src, .I r.2.at_])] :=
 eo (fn := Tryd.f21) (n := 31) (m := 100) fun Γ => token_scanner_while_v6.body h
def token_scanner_number_v2 (K : Nat) (p0 : token_scanner) : Option (api_Token × Int × token_scanner) := (Option.bind (token_scanner_while_v6 K p0) (fun (a1_0, a1_1) => (obind (((if (a1_0.length : Int) > 1 then (if (0 : Int) < (a1_0.length : Int) then (if ((a1_0.getD (Int.toNat 0) 0).toNat : Int) = 48 then some (Out.done ((⟨0, 0, [], 0⟩ : api_Token), 3, a1_1)) else (Option.bind (token_scanner_peek K a1_1 0) (fun a2 => (Option.bind (token_letter K a2) (fun a3 => (if a3 = true then some (Out.done ((⟨0, 0, [], 0⟩ : api_Token), 3, a1_1)) else some (Out.go ()))))))) else none) else (Option.bind (token_scanner_peek K a1_1 0) (fun a4 => (Option.bind (token_letter K a4) (fun a5 => (if a5 = true then some (Out.done ((⟨0, 0, [], 0⟩ : api_Token), 3, a1_1)) else some (Out.go ())))))))) : Option (Out (api_Token × Int × token_scanner) Unit)) (fun r => r) (fun _ => (if a1_0.length ≤ 281474976710656 then (if (piOk a1_0) = true then some ((⟨3, 0, [], (piVal a1_0)⟩ : api_Token), 0, a1_1) else some ((⟨0, 0, [], 0⟩ : api_Token), 14, a1_1)) else none)))))
theorem token_scanner_number_v2.body {Γ : Ent} {K : Nat} {p0 : token_scanner} {r : api_Token × Int × token_scanner} (h : token_scanner_number_v2 K p0 = some r) : AWp V P 33 100 Γ (Tryd.f38.body.getD .skip) (EndsE P V Tryd.f38 (.tup [.agg [.I r.1.Kind, .I r.1.At, .str r.1.Text, .I r.1.Int], .I r.2.1]) [(0, .raw [.str r.2.2.src, .I r.2.2.at_])]) ⟨args0 0 [.P 0], [(0, .raw (d_token_scanner p0))]⟩ := by
 unfold token_scanner_number_v2 at h
 refine sr0 L 200 [] [] [] (S' := ⟨[(0, .P 0), (2, .P 200)], [(0, .raw (d_token_scanner p0)), (200, .raw [.I 0, .I 0, .str [], .I 0])]⟩) ?_
 refine awp_seq ?_
 obtain ⟨⟨a1_0, a1_1⟩, h1, h⟩ := bind_some h
 dsimp only at h
 refine ar L 203 [] [] [(1, { hids := [0], fx := [0], r := .cv (.str a1_0), H' := [(0, .raw (d_token_scanner a1_1))], σ := [(0, 0)] })] (cs := [ECall V P 21 [.P 0, .cv (.fn (.func 37) [] [])] [(0, .raw (d_token_scanner p0))] [0] (.cv (.str a1_0)) [(0, .raw (d_token_scanner a1_1))]]) (S' := ⟨[(0, .P 0), (2, .P 200), (4, .cv (.str a1_0))], [(0, .raw (d_token_scanner a1_1)), (200, .raw [.I 0, .I 0, .str [], .I 0])]⟩) (token_scanner_while_v6.okE h1) ?_
 obtain ⟨o1, hp1, h⟩ := obind_some h
 refine awp_seq (awp_mono (Q' := fun e S => (e = .normal ∧ S = ⟨[(2, .P 21000), (4, .cv (.str a1_0))], [(0, .raw (d_token_scanner a1_1)), (21000, .raw [.I 0, .I 0, .str [], .I 0])]⟩ ∧ Out.go () = o1) ∨ (e = .ret ∧ ∃ a, Out.done a = o1 ∧ EndsE P V Tryd.f38 (.tup [.agg [.I a.1.Kind, .I a.1.At, .str a.1.Text, .I a.1.Int], .I a.2.1]) [(0, .raw [.str a.2.2.src, .I a.2.2.at_])] .ret S)) ?_ ?_)
 ·clear h
  replace h := hp1
  refine awp_seq ?_
  rcases ite_some h with ⟨c1, h⟩ | ⟨c1, h⟩
  ·obtain ⟨g1, h⟩ := guard_some h
   rcases ite_some h with ⟨c2, h⟩ | ⟨c2, h⟩
   ·refine ar L 207 [(3, true), (8, true)] [] [] (cs := [(decide ((a1_0.length : Int) > 1)) = true, (0 : Int) ≤ 0, (0 : Int) < (a1_0.length : Int), (decide (((a1_0.getD (Int.toNat 0) 0).toNat : Int) = 48)) = true]) (S' := ⟨[(2, .P 200), (4, .cv (.str a1_0)), (21, .B true)], [(0, .raw (d_token_scanner a1_1)), (200, .raw [.I 0, .I 0, .str [], .I 0])]⟩) (And.intro (decide_eq_true c1) (And.intro (show (0 : Int) ≤ 0 from by decide) (And.intro g1 (decide_eq_true c2)))) ?_
    refine tt (b := true) (rfl) ?_
    refine sr0 L 221 [] [] [] (S' := ⟨[(2, .P 200), (3, .I 3)], [(0, .raw (d_token_scanner a1_1)), (200, .raw [.I 0, .I 0, .str [], .I 0])]⟩) ?_
    refine awp_turn (Turns.rn [(0, 0), (200, 100)] (S' := ⟨[(2, .P 100), (3, .I 3)], [(0, .raw (d_token_scanner a1_1)), (100, .raw [.I 0, .I 0, .str [], .I 0])]⟩)) ?_
    refine awp_ret ?_
    obtain rfl := Option.some.inj h
    exact .inr ⟨rfl, _, rfl, er (.tup [.agg [.I 0, .I 0, .str [], .I 0], .I 3])⟩
   obtain ⟨a2, h2, h⟩ := bind_some h
   obtain ⟨a3, h3, h⟩ := bind_some h
   refine ar L 207 [(3, true), (8, false)] [(10, .cv (.lit (.int .i32 a2))), (11, .B a3)] [] (cs := [(decide ((a1_0.length : Int) > 1)) = true, (0 : Int) ≤ 0, (0 : Int) < (a1_0.length : Int), (decide (((a1_0.getD (Int.toNat 0) 0).toNat : Int) = 48)) = false, PCall V P 34 [.cv (.pcs (d_token_scanner a1_1) 0), .I 0] (.cv (.lit (.int .i32 a2))), True, PCall V P 35 [.cv (.lit (.int .i32 a2))] (.B a3), True]) (S' := ⟨[(2, .P 200), (4, .cv (.str a1_0)), (21, .B a3)], [(0, .raw (d_token_scanner a1_1)), (200, .raw [.I 0, .I 0, .str [], .I 0])]⟩) (And.intro (decide_eq_true c1) (And.intro (show (0 : Int) ≤ 0 from by decide) (And.intro g1 (And.intro (decide_eq_false c2) (And.intro (token_scanner_peek.ok h2) (And.intro trivial (And.intro (token_letter.ok h3) trivial))))))) ?_
   rcases ite_some h with ⟨c3, h⟩ | ⟨c3, h⟩
   ·refine tt (b := a3) (c3) ?_
    refine sr0 L 221 [] [] [] (S' := ⟨[(2, .P 200), (3, .I 3)], [(0, .raw (d_token_scanner a1_1)), (200, .raw [.I 0, .I 0, .str [], .I 0])]⟩) ?_
    refine awp_turn (Turns.rn [(0, 0), (200, 100)] (S' := ⟨[(2, .P 100), (3, .I 3)], [(0, .raw (d_token_scanner a1_1)), (100, .raw [.I 0, .I 0, .str [], .I 0])]⟩)) ?_
    refine awp_ret ?_
    obtain rfl := Option.some.inj h
    exact .inr ⟨rfl, _, rfl, er (.tup [.agg [.I 0, .I 0, .str [], .I 0], .I 3])⟩
   refine ff (b := a3) (eq_false_of_ne_true c3) ?_
   refine awp_turn (Turns.trans (Turns.kp (S' := ⟨[(2, .P 200), (4, .cv (.str a1_0))], [(0, .raw (d_token_scanner a1_1)), (200, .raw [.I 0, .I 0, .str [], .I 0])]⟩)) (Turns.rn [(0, 0), (200, 21000)] (S' := ⟨[(2, .P 21000), (4, .cv (.str a1_0))], [(0, .raw (d_token_scanner a1_1)), (21000, .raw [.I 0, .I 0, .str [], .I 0])]⟩))) ?_
   refine sk (S' := ⟨[(2, .P 21000), (4, .cv (.str a1_0))], [(0, .raw (d_token_scanner a1_1)), (21000, .raw [.I 0, .I 0, .str [], .I 0])]⟩) ?_
   obtain rfl := Option.some.inj h
   exact .inl ⟨rfl, rfl, rfl⟩
  obtain ⟨a4, h4, h⟩ := bind_some h
  obtain ⟨a5, h5, h⟩ := bind_some h
  refine ar L 207 [(3, false)] [(10, .cv (.lit (.int .i32 a4))), (11, .B a5)] [] (cs := [(decide ((a1_0.length : Int) > 1)) = false, PCall V P 34 [.cv (.pcs (d_token_scanner a1_1) 0), .I 0] (.cv (.lit (.int .i32 a4))), True, PCall V P 35 [.cv (.lit (.int .i32 a4))] (.B a5), True]) (S' := ⟨[(2, .P 200), (4, .cv (.str a1_0)), (21, .B a5)], [(0, .raw (d_token_scanner a1_1)), (200, .raw [.I 0, .I 0, .str [], .I 0])]⟩) (And.intro (decide_eq_false c1) (And.intro (token_scanner_peek.ok h4) (And.intro trivial (And.intro (token_letter.ok h5) trivial)))) ?_
  rcases ite_some h with ⟨c4, h⟩ | ⟨c4, h⟩
  ·refine tt (b := a5) (c4) ?_
   refine sr0 L 221 [] [] [] (S' := ⟨[(2, .P 200), (3, .I 3)], [(0, .raw (d_token_scanner a1_1)), (200, .raw [.I 0, .I 0, .str [], .I 0])]⟩) ?_
   refine awp_turn (Turns.rn [(0, 0), (200, 100)] (S' := ⟨[(2, .P 100), (3, .I 3)], [(0, .raw (d_token_scanner a1_1)), (100, .raw [.I 0, .I 0, .str [], .I 0])]⟩)) ?_
   refine awp_ret ?_
   obtain rfl := Option.some.inj h
   exact .inr ⟨rfl, _, rfl, er (.tup [.agg [.I 0, .I 0, .str [], .I 0], .I 3])⟩
  refine ff (b := a5) (eq_false_of_ne_true c4) ?_
  refine awp_turn (Turns.trans (Turns.kp (S' := ⟨[(2, .P 200), (4, .cv (.str a1_0))], [(0, .raw (d_token_scanner a1_1)), (200, .raw [.I 0, .I 0, .str [], .I 0])]⟩)) (Turns.rn [(0, 0), (200, 21000)] (S' := ⟨[(2, .P 21000), (4, .cv (.str a1_0))], [(0, .raw (d_token_scanner a1_1)), (21000, .raw [.I 0, .I 0, .str [], .I 0])]⟩))) ?_
  refine sk (S' := ⟨[(2, .P 21000), (4, .cv (.str a1_0))], [(0, .raw (d_token_scanner a1_1)), (21000, .raw [.I 0, .I 0, .str [], .I 0])]⟩) ?_
  obtain rfl := Option.some.inj h
  exact .inl ⟨rfl, rfl, rfl⟩
 ·rintro e S (⟨rfl, rfl, rfl⟩ | ⟨rfl, a, rfl, hr⟩)
  ·rcases h with ⟨_, e1, h⟩ | ⟨_, e1, h⟩
   ·cases e1
   ·have e2 := Out.go.inj e1
    subst e2
    refine awp_seq ?_
    obtain ⟨g2, h⟩ := guard_some h
    rcases ite_some h with ⟨c5, h⟩ | ⟨c5, h⟩
    ·refine ar L 225 [] [(1, .tup [.I (piVal a1_0), .cv (.lit .nilIface)])] [] (cs := [PCall V P 53 [.cv (.str a1_0), .I 10, .I 64] (.tup [.I (piVal a1_0), .cv (.lit .nilIface)]), True]) (S' := ⟨[(2, .P 21000), (5, .I (piVal a1_0)), (6, .cv (.lit .nilIface))], [(0, .raw (d_token_scanner a1_1)), (21000, .raw [.I 0, .I 0, .str [], .I 0])]⟩) (And.intro (strconv_ParseInt.ok a1_0 g2 (c5)) trivial) ?_
     refine awp_seq ?_
     refine sr0 L 233 [] [] [] (S' := ⟨[(2, .P 21000), (5, .I (piVal a1_0)), (29, .B false)], [(0, .raw (d_token_scanner a1_1)), (21000, .raw [.I 0, .I 0, .str [], .I 0])]⟩) ?_
     refine ff (b := false) (rfl) ?_
     refine awp_skip' ?_
     refine sr0 L 240 [] [] [] (S' := ⟨[(2, .P 21000), (3, .I 0)], [(0, .raw (d_token_scanner a1_1)), (21000, .raw [.I 3, .I 0, .str [], .I (piVal a1_0)])]⟩) ?_
     refine awp_turn (Turns.rn [(0, 0), (21000, 100)] (S' := ⟨[(2, .P 100), (3, .I 0)], [(0, .raw (d_token_scanner a1_1)), (100, .raw [.I 3, .I 0, .str [], .I (piVal a1_0)])]⟩)) ?_
     refine awp_ret ?_
     obtain rfl := Option.some.inj h
     exact er (.tup [.agg [.I 3, .I 0, .str [], .I (piVal a1_0)], .I 0])
    refine ar L 225 [] [(1, .tup [.cv (.any), .cv (.ifc 110 false [.any])])] [] (cs := [PCall V P 53 [.cv (.str a1_0), .I 10, .I 64] (.tup [.cv (.any), .cv (.ifc 110 false [.any])]), True]) (S' := ⟨[(2, .P 21000), (5, .cv (.any)), (6, .cv (.ifc 110 false [.any]))], [(0, .raw (d_token_scanner a1_1)), (21000, .raw [.I 0, .I 0, .str [], .I 0])]⟩) (And.intro (strconv_ParseInt.no a1_0 g2 (eq_false_of_ne_true c5)) trivial) ?_
    refine awp_seq ?_
    refine sr0 L 233 [] [] [] (S' := ⟨[(2, .P 21000), (5, .cv (.any)), (29, .B true)], [(0, .raw (d_token_scanner a1_1)), (21000, .raw [.I 0, .I 0, .str [], .I 0])]⟩) ?_
    refine tt (b := true) (rfl) ?_
    refine sr0 L 236 [] [] [] (S' := ⟨[(2, .P 21000), (3, .I 14)], [(0, .raw (d_token_scanner a1_1)), (21000, .raw [.I 0, .I 0, .str [], .I 0])]⟩) ?_
    refine awp_turn (Turns.rn [(0, 0), (21000, 100)] (S' := ⟨[(2, .P 100), (3, .I 14)], [(0, .raw (d_token_scanner a1_1)), (100, .raw [.I 0, .I 0, .str [], .I 0])]⟩)) ?_
    refine awp_ret ?_
    obtain rfl := Option.some.inj h
    exact er (.tup [.agg [.I 0, .I 0, .str [], .I 0], .I 14])
  ·rcases h with ⟨_, e1, h⟩ | ⟨_, e1, h⟩
   ·have e2 := Out.done.inj e1
    subst e2
    subst h
    exact hr
   ·cases e1
theorem token_scanner_number_v2.okE {K : Nat} {p0 : token_scanner} {r : api_Token × Int × token_scanner} (h : token_scanner_number_v2 K p0 = some r) : ECall V P 38 [.P 0] [(0, .raw (d_token_scanner p0))] [0] (.tup [.agg [.I r.1.Kind, .I r.1.At, .str r.1.Text, .I r.1.Int], .I r.2.1]) [(0, .raw [.str r.2.2.src, .I r.2.2.at_])] :=
 eo (fn := Tryd.f38) (n := 33) (m := 100) fun Γ => token_scanner_number_v2.body h
def token_scanner_hex_v2 (K : Nat) (p0 : token_scanner) : Option (Int × Int × token_scanner) := (Option.bind (token_scanner_peek K p0 0) (fun a1 => (if a1 < 0 then some (0, 4, p0) else (if (Lib.indexByte ([48, 49, 50, 51, 52, 53, 54, 55, 56, 57, 97, 98, 99, 100, 101, 102] : List UInt8) (Int.toNat (IntKind.u8.wrap a1)).toUInt8) < 0 then some (0, 3, (⟨p0.src, (IntKind.i64.wrap (p0.at_ + 1))⟩ : token_scanner)) else some ((Lib.indexByte ([48, 49, 50, 51, 52, 53, 54, 55, 56, 57, 97, 98, 99, 100, 101, 102] : List UInt8) (Int.toNat (IntKind.u8.wrap a1)).toUInt8), 0, (⟨p0.src, (IntKind.i64.wrap (p0.at_ + 1))⟩ : token_scanner))))))
theorem token_scanner_hex_v2.body {Γ : Ent} {K : Nat} {p0 : token_scanner} {r : Int × Int × token_scanner} (h : token_scanner_hex_v2 K p0 = some r) : AWp V P 23 100 Γ (Tryd.f62.body.getD .skip) (EndsE P V Tryd.f62 (.tup [.I r.1, .I r.2.1]) [(0, .raw [.str r.2.2.src, .I r.2.2.at_])]) ⟨args0 0 [.P 0], [(0, .raw (d_token_scanner p0))]⟩ := by
 unfold token_scanner_hex_v2 at h
 refine sr0 L 200 [] [] [] (S' := ⟨[(0, .P 0)], [(0, .raw (d_token_scanner p0))]⟩) ?_
 refine awp_seq ?_
 obtain ⟨a1, h1, h⟩ := bind_some h
 refine ar L 203 [] [(1, .cv (.lit (.int .i32 a1)))] [] (cs := [PCall V P 34 [.cv (.pcs (d_token_scanner p0) 0), .I 0] (.cv (.lit (.int .i32 a1))), True]) (S' := ⟨[(0, .P 0), (4, .cv (.lit (.int .i32 a1)))], [(0, .raw (d_token_scanner p0))]⟩) (And.intro (token_scanner_peek.ok h1) trivial) ?_
 refine awp_seq ?_
 refine sr0 L 207 [] [] [] (S' := ⟨[(0, .P 0), (4, .cv (.lit (.int .i32 a1))), (9, .B (decide (a1 < 0)))], [(0, .raw (d_token_scanner p0))]⟩) ?_
 rcases ite_some h with ⟨c1, h⟩ | ⟨c1, h⟩
 ·refine tt (b := (decide (a1 < 0))) (decide_eq_true c1) ?_
  refine sr0 L 210 [] [] [] (S' := ⟨[(2, .I 0), (3, .I 4)], [(0, .raw (d_token_scanner p0))]⟩) ?_
  refine awp_ret ?_
  obtain rfl := Option.some.inj h
  exact er (.tup [.I 0, .I 4])
 refine ff (b := (decide (a1 < 0))) (decide_eq_false c1) ?_
 refine awp_skip' ?_
 refine sr0 L 213 [] [] [] (S' := ⟨[(4, .cv (.lit (.int .i32 a1)))], [(0, .raw [.str p0.src, .I (IntKind.i64.wrap (p0.at_ + 1))])]⟩) ?_
 refine sr L 222 [] [(2, .I (Lib.indexByte ([48, 49, 50, 51, 52, 53, 54, 55, 56, 57, 97, 98, 99, 100, 101, 102] : List UInt8) (Int.toNat (IntKind.u8.wrap a1)).toUInt8))] [] (cs := [PCall V P 75 [.cv (.str ([48, 49, 50, 51, 52, 53, 54, 55, 56, 57, 97, 98, 99, 100, 101, 102] : List UInt8)), .cv (.lit (.int .u8 (IntKind.u8.wrap a1)))] (.I (Lib.indexByte ([48, 49, 50, 51, 52, 53, 54, 55, 56, 57, 97, 98, 99, 100, 101, 102] : List UInt8) (Int.toNat (IntKind.u8.wrap a1)).toUInt8)), True]) (S' := ⟨[(5, .I (Lib.indexByte ([48, 49, 50, 51, 52, 53, 54, 55, 56, 57, 97, 98, 99, 100, 101, 102] : List UInt8) (Int.toNat (IntKind.u8.wrap a1)).toUInt8))], [(0, .raw [.str p0.src, .I (IntKind.i64.wrap (p0.at_ + 1))])]⟩) (And.intro (strings_IndexByte.ok ([48, 49, 50, 51, 52, 53, 54, 55, 56, 57, 97, 98, 99, 100, 101, 102] : List UInt8) (IntKind.u8.wrap a1)) trivial) ?_
 refine awp_seq ?_
 refine sr0 L 227 [] [] [] (S' := ⟨[(5, .I (Lib.indexByte ([48, 49, 50, 51, 52, 53, 54, 55, 56, 57, 97, 98, 99, 100, 101, 102] : List UInt8) (Int.toNat (IntKind.u8.wrap a1)).toUInt8)), (21, .B (decide ((Lib.indexByte ([48, 49, 50, 51, 52, 53, 54, 55, 56, 57, 97, 98, 99, 100, 101, 102] : List UInt8) (Int.toNat (IntKind.u8.wrap a1)).toUInt8) < 0)))], [(0, .raw [.str p0.src, .I (IntKind.i64.wrap (p0.at_ + 1))])]⟩) ?_
 rcases ite_some h with ⟨c2, h⟩ | ⟨c2, h⟩
 ·refine tt (b := (decide ((Lib.indexByte ([48, 49, 50, 51, 52, 53, 54, 55, 56, 57, 97, 98, 99, 100, 101, 102] : List UInt8) (Int.toNat (IntKind.u8.wrap a1)).toUInt8) < 0))) (decide_eq_true c2) ?_
  refine sr0 L 230 [] [] [] (S' := ⟨[(2, .I 0), (3, .I 3)], [(0, .raw [.str p0.src, .I (IntKind.i64.wrap (p0.at_ + 1))])]⟩) ?_
  refine awp_ret ?_
  obtain rfl := Option.some.inj h
  exact er (.tup [.I 0, .I 3])
 refine ff (b := (decide ((Lib.indexByte ([48, 49, 50, 51, 52, 53, 54, 55, 56, 57, 97, 98, 99, 100, 101, 102] : List UInt8) (Int.toNat (IntKind.u8.wrap a1)).toUInt8) < 0))) (decide_eq_false c2) ?_
 refine awp_skip' ?_
 refine sr0 L 233 [] [] [] (S' := ⟨[(2, .I (Lib.indexByte ([48, 49, 50, 51, 52, 53, 54, 55, 56, 57, 97, 98, 99, 100, 101, 102] : List UInt8) (Int.toNat (IntKind.u8.wrap a1)).toUInt8)), (3, .I 0)], [(0, .raw [.str p0.src, .I (IntKind.i64.wrap (p0.at_ + 1))])]⟩) ?_
 refine awp_ret ?_
 obtain rfl := Option.some.inj h
 exact er (.tup [.I (Lib.indexByte ([48, 49, 50, 51, 52, 53, 54, 55, 56, 57, 97, 98, 99, 100, 101, 102] : List UInt8) (Int.toNat (IntKind.u8.wrap a1)).toUInt8), .I 0])
theorem token_scanner_hex_v2.okE {K : Nat} {p0 : token_scanner} {r : Int × Int × token_scanner} (h : token_scanner_hex_v2 K p0 = some r) : ECall V P 62 [.P 0] [(0, .raw (d_token_scanner p0))] [0] (.tup [.I r.1, .I r.2.1]) [(0, .raw [.str r.2.2.src, .I r.2.2.at_])] :=
 eo (fn := Tryd.f62) (n := 23) (m := 100) fun Γ => token_scanner_hex_v2.body h
def token_scanner_escape_v2 (K : Nat) (p0 : token_scanner) : Option (Int × Int × token_scanner) := (Option.bind (token_scanner_peek K p0 0) (fun a1 => (if a1 = (-1) then some (0, 4, (⟨p0.src, (IntKind.i64.wrap (p0.at_ + 1))⟩ : token_scanner)) else (Option.bind ((if a1 = 34 then some (decide (a1 = 34)) else some (decide (a1 = 92))) : Option Bool) (fun xt20_17 => (if xt20_17 = true then some ((IntKind.u8.wrap a1), 0, (⟨p0.src, (IntKind.i64.wrap (p0.at_ + 1))⟩ : token_scanner)) else (if a1 = 110 then some (10, 0, (⟨p0.src, (IntKind.i64.wrap (p0.at_ + 1))⟩ : token_scanner)) else (if a1 = 116 then some (9, 0, (⟨p0.src, (IntKind.i64.wrap (p0.at_ + 1))⟩ : token_scanner)) else (if a1 = 120 then (Option.bind (token_scanner_hex_v2 K (⟨p0.src, (IntKind.i64.wrap (p0.at_ + 1))⟩ : token_scanner)) (fun (a2_0, a2_1, a2_2) => (if a2_1 ≠ 0 then some (0, a2_1, a2_2) else (Option.bind (token_scanner_hex_v2 K a2_2) (fun (a3_0, a3_1, a3_2) => some (((IntKind.u8.wrap (IntKind.i64.wrap ((IntKind.i64.wrap (16 * a2_0)) + a3_0))), a3_1, a3_2))))))) else some (0, 3, (⟨p0.src, (IntKind.i64.wrap (p0.at_ + 1))⟩ : token_scanner)))))))))))
theorem token_scanner_escape_v2.body {Γ : Ent} {K : Nat} {p0 : token_scanner} {r : Int × Int × token_scanner} (h : token_scanner_escape_v2 K p0 = some r) : AWp V P 50 100 Γ (Tryd.f54.body.getD .skip) (EndsE P V Tryd.f54 (.tup [.cv (.lit (.int .u8 r.1)), .I r.2.1]) [(0, .raw [.str r.2.2.src, .I r.2.2.at_])]) ⟨args0 0 [.P 0], [(0, .raw (d_token_scanner p0))]⟩ := by
 unfold token_scanner_escape_v2 at h
 refine sr0 L 200 [] [] [] (S' := ⟨[(0, .P 0)], [(0, .raw (d_token_scanner p0))]⟩) ?_
 refine awp_seq ?_
 obtain ⟨a1, h1, h⟩ := bind_some h
 refine ar L 203 [] [(1, .cv (.lit (.int .i32 a1)))] [] (cs := [PCall V P 34 [.cv (.pcs (d_token_scanner p0) 0), .I 0] (.cv (.lit (.int .i32 a1))), True]) (S' := ⟨[(0, .P 0), (4, .cv (.lit (.int .i32 a1)))], [(0, .raw (d_token_scanner p0))]⟩) (And.intro (token_scanner_peek.ok h1) trivial) ?_
 refine sr0 L 207 [] [] [] (S' := ⟨[(0, .P 0), (4, .cv (.lit (.int .i32 a1)))], [(0, .raw [.str p0.src, .I (IntKind.i64.wrap (p0.at_ + 1))])]⟩) ?_
 refine awp_seq ?_
 refine sr0 L 216 [] [] [] (S' := ⟨[(0, .P 0), (4, .cv (.lit (.int .i32 a1))), (17, .cv (.lit (.int .i32 a1)))], [(0, .raw [.str p0.src, .I (IntKind.i64.wrap (p0.at_ + 1))])]⟩) ?_
 refine awp_block ?_
 refine sr0 L 218 [] [] [] (S' := ⟨[(0, .P 0), (4, .cv (.lit (.int .i32 a1))), (17, .cv (.lit (.int .i32 a1))), (18, .B (decide (a1 = (-1))))], [(0, .raw [.str p0.src, .I (IntKind.i64.wrap (p0.at_ + 1))])]⟩) ?_
 rcases ite_some h with ⟨c1, h⟩ | ⟨c1, h⟩
 ·refine tt (b := (decide (a1 = (-1)))) (decide_eq_true c1) ?_
  refine sr0 L 221 [] [] [] (S' := ⟨[(2, .cv (.lit (.int .u8 0))), (3, .I 4)], [(0, .raw [.str p0.src, .I (IntKind.i64.wrap (p0.at_ + 1))])]⟩) ?_
  refine awp_ret ?_
  obtain rfl := Option.some.inj h
  exact er (.tup [.cv (.lit (.int .u8 0)), .I 4])
 refine ff (b := (decide (a1 = (-1)))) (decide_eq_false c1) ?_
 obtain ⟨o1, hp1, h⟩ := bind_some h
 refine awp_seq (awp_mono (Q' := fun e S => (e = .normal ∧ ∃ xt20_17 : Bool, S = ⟨[(0, .P 0), (4, .cv (.lit (.int .i32 a1))), (17, .cv (.lit (.int .i32 a1))), (20, .B xt20_17)], [(0, .raw [.str p0.src, .I (IntKind.i64.wrap (p0.at_ + 1))])]⟩ ∧ xt20_17 = o1)) ?_ ?_)
 ·clear h
  replace h := hp1
  refine sr0 L 224 [] [] [] (S' := ⟨[(0, .P 0), (4, .cv (.lit (.int .i32 a1))), (17, .cv (.lit (.int .i32 a1))), (20, .B (decide (a1 = 34)))], [(0, .raw [.str p0.src, .I (IntKind.i64.wrap (p0.at_ + 1))])]⟩) ?_
  rcases ite_some h with ⟨c2, h⟩ | ⟨c2, h⟩
  ·refine tt (b := (decide (a1 = 34))) (decide_eq_true c2) ?_
   refine sk (S' := ⟨[(0, .P 0), (4, .cv (.lit (.int .i32 a1))), (17, .cv (.lit (.int .i32 a1))), (20, .B (decide (a1 = 34)))], [(0, .raw [.str p0.src, .I (IntKind.i64.wrap (p0.at_ + 1))])]⟩) ?_
   obtain rfl := Option.some.inj h
   exact ⟨rfl, _, rfl, rfl⟩
  refine ff (b := (decide (a1 = 34))) (decide_eq_false c2) ?_
  refine ar0 L 227 [] [] [] (S' := ⟨[(0, .P 0), (4, .cv (.lit (.int .i32 a1))), (17, .cv (.lit (.int .i32 a1))), (20, .B (decide (a1 = 92)))], [(0, .raw [.str p0.src, .I (IntKind.i64.wrap (p0.at_ + 1))])]⟩) ?_
  obtain rfl := Option.some.inj h
  exact ⟨rfl, _, rfl, rfl⟩
 ·rintro e S ⟨rfl, xt20_17, rfl, rfl⟩
  rcases ite_some h with ⟨c3, h⟩ | ⟨c3, h⟩
  ·refine tt (b := xt20_17) (c3) ?_
   refine sr0 L 230 [] [] [] (S' := ⟨[(2, .cv (.lit (.int .u8 (IntKind.u8.wrap a1)))), (3, .I 0)], [(0, .raw [.str p0.src, .I (IntKind.i64.wrap (p0.at_ + 1))])]⟩) ?_
   refine awp_ret ?_
   obtain rfl := Option.some.inj h
   exact er (.tup [.cv (.lit (.int .u8 (IntKind.u8.wrap a1))), .I 0])
  refine ff (b := xt20_17) (eq_false_of_ne_true c3) ?_
  refine sr0 L 235 [] [] [] (S' := ⟨[(0, .P 0), (17, .cv (.lit (.int .i32 a1))), (25, .B (decide (a1 = 110)))], [(0, .raw [.str p0.src, .I (IntKind.i64.wrap (p0.at_ + 1))])]⟩) ?_
  rcases ite_some h with ⟨c4, h⟩ | ⟨c4, h⟩
  ·refine tt (b := (decide (a1 = 110))) (decide_eq_true c4) ?_
   refine sr0 L 238 [] [] [] (S' := ⟨[(2, .cv (.lit (.int .u8 10))), (3, .I 0)], [(0, .raw [.str p0.src, .I (IntKind.i64.wrap (p0.at_ + 1))])]⟩) ?_
   refine awp_ret ?_
   obtain rfl := Option.some.inj h
   exact er (.tup [.cv (.lit (.int .u8 10)), .I 0])
  refine ff (b := (decide (a1 = 110))) (decide_eq_false c4) ?_
  refine sr0 L 241 [] [] [] (S' := ⟨[(0, .P 0), (17, .cv (.lit (.int .i32 a1))), (27, .B (decide (a1 = 116)))], [(0, .raw [.str p0.src, .I (IntKind.i64.wrap (p0.at_ + 1))])]⟩) ?_
  rcases ite_some h with ⟨c5, h⟩ | ⟨c5, h⟩
  ·refine tt (b := (decide (a1 = 116))) (decide_eq_true c5) ?_
   refine sr0 L 244 [] [] [] (S' := ⟨[(2, .cv (.lit (.int .u8 9))), (3, .I 0)], [(0, .raw [.str p0.src, .I (IntKind.i64.wrap (p0.at_ + 1))])]⟩) ?_
   refine awp_ret ?_
   obtain rfl := Option.some.inj h
   exact er (.tup [.cv (.lit (.int .u8 9)), .I 0])
  refine ff (b := (decide (a1 = 116))) (decide_eq_false c5) ?_
  refine sr0 L 247 [] [] [] (S' := ⟨[(0, .P 0), (29, .B (decide (a1 = 120)))], [(0, .raw [.str p0.src, .I (IntKind.i64.wrap (p0.at_ + 1))])]⟩) ?_
  rcases ite_some h with ⟨c6, h⟩ | ⟨c6, h⟩
  ·refine tt (b := (decide (a1 = 120))) (decide_eq_true c6) ?_
   refine awp_seq ?_
   obtain ⟨⟨a2_0, a2_1, a2_2⟩, h2, h⟩ := bind_some h
   dsimp only at h
   refine ar L 250 [] [] [(1, { hids := [0], fx := [0], r := .tup [.I a2_0, .I a2_1], H' := [(0, .raw [.str a2_2.src, .I a2_2.at_])], σ := [(0, 0)] })] (cs := [ECall V P 62 [.P 0] [(0, .raw [.str p0.src, .I (IntKind.i64.wrap (p0.at_ + 1))])] [0] (.tup [.I a2_0, .I a2_1]) [(0, .raw [.str a2_2.src, .I a2_2.at_])]]) (S' := ⟨[(0, .P 0), (5, .I a2_0), (6, .I a2_1)], [(0, .raw [.str a2_2.src, .I a2_2.at_])]⟩) (token_scanner_hex_v2.okE h2) ?_
   refine awp_seq ?_
   refine sr0 L 258 [] [] [] (S' := ⟨[(0, .P 0), (5, .I a2_0), (6, .I a2_1), (37, .B (decide (a2_1 ≠ 0)))], [(0, .raw [.str a2_2.src, .I a2_2.at_])]⟩) ?_
   rcases ite_some h with ⟨c7, h⟩ | ⟨c7, h⟩
   ·refine tt (b := (decide (a2_1 ≠ 0))) (decide_eq_true c7) ?_
    refine sr0 L 261 [] [] [] (S' := ⟨[(2, .cv (.lit (.int .u8 0))), (3, .I a2_1)], [(0, .raw [.str a2_2.src, .I a2_2.at_])]⟩) ?_
    refine awp_ret ?_
    obtain rfl := Option.some.inj h
    exact er (.tup [.cv (.lit (.int .u8 0)), .I a2_1])
   refine ff (b := (decide (a2_1 ≠ 0))) (decide_eq_false c7) ?_
   refine awp_skip' ?_
   refine awp_seq ?_
   obtain ⟨⟨a3_0, a3_1, a3_2⟩, h3, h⟩ := bind_some h
   dsimp only at h
   refine ar L 265 [] [] [(1, { hids := [0], fx := [0], r := .tup [.I a3_0, .I a3_1], H' := [(0, .raw [.str a3_2.src, .I a3_2.at_])], σ := [(0, 0)] })] (cs := [ECall V P 62 [.P 0] [(0, .raw [.str a2_2.src, .I a2_2.at_])] [0] (.tup [.I a3_0, .I a3_1]) [(0, .raw [.str a3_2.src, .I a3_2.at_])]]) (S' := ⟨[(5, .I a2_0), (6, .I a3_1), (7, .I a3_0)], [(0, .raw [.str a3_2.src, .I a3_2.at_])]⟩) (token_scanner_hex_v2.okE h3) ?_
   refine sr0 L 273 [] [] [] (S' := ⟨[(2, .cv (.lit (.int .u8 (IntKind.u8.wrap (IntKind.i64.wrap ((IntKind.i64.wrap (16 * a2_0)) + a3_0)))))), (3, .I a3_1)], [(0, .raw [.str a3_2.src, .I a3_2.at_])]⟩) ?_
   refine awp_ret ?_
   obtain rfl := Option.some.inj h
   exact er (.tup [.cv (.lit (.int .u8 (IntKind.u8.wrap (IntKind.i64.wrap ((IntKind.i64.wrap (16 * a2_0)) + a3_0))))), .I a3_1])
  refine ff (b := (decide (a1 = 120))) (decide_eq_false c6) ?_
  refine awp_skip' ?_
  refine sr0 L 282 [] [] [] (S' := ⟨[(2, .cv (.lit (.int .u8 0))), (3, .I 3)], [(0, .raw [.str p0.src, .I (IntKind.i64.wrap (p0.at_ + 1))])]⟩) ?_
  refine awp_ret ?_
  obtain rfl := Option.some.inj h
  exact er (.tup [.cv (.lit (.int .u8 0)), .I 3])
theorem token_scanner_escape_v2.okE {K : Nat} {p0 : token_scanner} {r : Int × Int × token_scanner} (h : token_scanner_escape_v2 K p0 = some r) : ECall V P 54 [.P 0] [(0, .raw (d_token_scanner p0))] [0] (.tup [.cv (.lit (.int .u8 r.1)), .I r.2.1]) [(0, .raw [.str r.2.2.src, .I r.2.2.at_])] :=
 eo (fn := Tryd.f54) (n := 50) (m := 100) fun Γ => token_scanner_escape_v2.body h
def token_scanner_text_v2.l8 (K : Nat) : Nat → (List UInt8) → Int → (List UInt8) → Option (Out (api_Token × Int × token_scanner) Unit)
 | 0, _, _, _ => none
 | k + 1, xh0_0_8h, xh0_1_8h, x21701 => (Option.bind (token_scanner_peek K (⟨xh0_0_8h, xh0_1_8h⟩ : token_scanner) 0) (fun a1 => (if a1 < 0 then some (Out.done ((⟨0, 0, [], 0⟩ : api_Token), 4, (⟨xh0_0_8h, (IntKind.i64.wrap (xh0_1_8h + 1))⟩ : token_scanner))) else (if a1 = 34 then (if (x21701.length : Int) > 4096 then some (Out.done ((⟨0, 0, [], 0⟩ : api_Token), 6, (⟨xh0_0_8h, (IntKind.i64.wrap (xh0_1_8h + 1))⟩ : token_scanner))) else some (Out.done ((⟨4, 0, (x21701.map (fun b => b)), 0⟩ : api_Token), 0, (⟨xh0_0_8h, (IntKind.i64.wrap (xh0_1_8h + 1))⟩ : token_scanner)))) else (if a1 = 92 then (Option.bind (token_scanner_escape_v2 K (⟨xh0_0_8h, (IntKind.i64.wrap (xh0_1_8h + 1))⟩ : token_scanner)) (fun (a2_0, a2_1, a2_2) => (if a2_1 ≠ 0 then some (Out.done ((⟨0, 0, [], 0⟩ : api_Token), a2_1, a2_2)) else (if 0 ≤ a2_0 ∧ a2_0 < 256 then (if (x21701.length + ([(UInt8.ofNat (Int.toNat a2_0))] : List UInt8).length) * 1 ≤ 140737488355328 then token_scanner_text_v2.l8 K k a2_2.src a2_2.at_ (x21701 ++ ([(UInt8.ofNat (Int.toNat a2_0))] : List UInt8)) else none) else none)))) else (Option.bind ((if a1 ≥ 32 then some (decide (a1 ≤ 126)) else some false) : Option Bool) (fun xt55_49 => (if xt55_49 = true then (if 0 ≤ (IntKind.u8.wrap a1) ∧ (IntKind.u8.wrap a1) < 256 then (if (x21701.length + ([(UInt8.ofNat (Int.toNat (IntKind.u8.wrap a1)))] : List UInt8).length) * 1 ≤ 140737488355328 then token_scanner_text_v2.l8 K k xh0_0_8h (IntKind.i64.wrap (xh0_1_8h + 1)) (x21701 ++ ([(UInt8.ofNat (Int.toNat (IntKind.u8.wrap a1)))] : List UInt8)) else none) else none) else some (Out.done ((⟨0, 0, [], 0⟩ : api_Token), 3, (⟨xh0_0_8h, (IntKind.i64.wrap (xh0_1_8h + 1))⟩ : token_scanner)))))))))))
def token_scanner_text_v2 (K : Nat) (p0 : token_scanner) : Option (api_Token × Int × token_scanner) := (obind (token_scanner_text_v2.l8 K K p0.src (IntKind.i64.wrap (p0.at_ + 1)) ([] : List UInt8) : Option (Out (api_Token × Int × token_scanner) Unit)) (fun r => r) (fun _ => none))
theorem token_scanner_text_v2.body {Γ : Ent} {K : Nat} {p0 : token_scanner} {r : api_Token × Int × token_scanner} (h : token_scanner_text_v2 K p0 = some r) : AWp V P 67 100 Γ (Tryd.f39.body.getD .skip) (EndsE P V Tryd.f39 (.tup [.agg [.I r.1.Kind, .I r.1.At, .str r.1.Text, .I r.1.Int], .I r.2.1]) [(0, .raw [.str r.2.2.src, .I r.2.2.at_])]) ⟨args0 0 [.P 0], [(0, .raw (d_token_scanner p0))]⟩ := by
 unfold token_scanner_text_v2 at h
 refine sr0 L 200 [] [] [] (S' := ⟨[(0, .P 0), (2, .P 200)], [(0, .raw (d_token_scanner p0)), (200, .raw [.I 0, .I 0, .str [], .I 0])]⟩) ?_
 refine sr0 L 203 [] [] [] (S' := ⟨[(0, .P 0), (2, .P 200)], [(0, .raw [.str p0.src, .I (IntKind.i64.wrap (p0.at_ + 1))]), (200, .raw [.I 0, .I 0, .str [], .I 0])]⟩) ?_
 refine sr0 L 212 [] [] [] (S' := ⟨[(0, .P 0), (2, .P 200), (4, .N)], [(0, .raw [.str p0.src, .I (IntKind.i64.wrap (p0.at_ + 1))]), (200, .raw [.I 0, .I 0, .str [], .I 0])]⟩) ?_
 refine awp_block ?_
 refine awp_turn (Turns.trans (Turns.kp (S' := ⟨[(0, .P 0), (2, .P 200), (4, .N)], [(0, .raw [.str p0.src, .I (IntKind.i64.wrap (p0.at_ + 1))]), (200, .raw [.I 0, .I 0, .str [], .I 0])]⟩)) (Turns.trans (Turns.nilown 4 9500 Tag.t_uint8 (by kernel_rfl) (by kernel_rfl) (S' := ⟨[(4, .cv (.own .t_uint8 9500)), (0, .P 0), (2, .P 200)], [(9500, .lst .t_uint8 ([] : List UInt8)), (0, .raw [.str p0.src, .I (IntKind.i64.wrap (p0.at_ + 1))]), (200, .raw [.I 0, .I 0, .str [], .I 0])]⟩) (by kernel_rfl)) (Turns.trans (Turns.kp (S' := ⟨[(0, .P 0), (2, .P 200), (4, .cv (.own .t_uint8 9500))], [(0, .raw [.str p0.src, .I (IntKind.i64.wrap (p0.at_ + 1))]), (200, .raw [.I 0, .I 0, .str [], .I 0]), (9500, .lst .t_uint8 ([] : List UInt8))]⟩)) (Turns.rn [(0, 0), (200, 21700), (9500, 21701)] (S' := ⟨[(0, .P 0), (2, .P 21700), (4, .cv (.own .t_uint8 21701))], [(0, .raw [.str p0.src, .I (IntKind.i64.wrap (p0.at_ + 1))]), (21700, .raw [.I 0, .I 0, .str [], .I 0]), (21701, .lst .t_uint8 ([] : List UInt8))]⟩))))) ?_
 refine kp (S' := ⟨[(0, .P 0), (2, .P 21700), (4, .cv (.own .t_uint8 21701))], [(0, .raw [.str p0.src, .I (IntKind.i64.wrap (p0.at_ + 1))]), (21700, .raw [.I 0, .I 0, .str [], .I 0]), (21701, .lst .t_uint8 ([] : List UInt8))]⟩) ?_
 obtain ⟨o2, hp2, h⟩ := obind_some h
 refine awp_conseq (Q' := fun e S => False ∨ (e = .ret ∧ ∃ a, Out.done a = o2 ∧ EndsE P V Tryd.f39 (.tup [.agg [.I a.1.Kind, .I a.1.At, .str a.1.Text, .I a.1.Int], .I a.2.1]) [(0, .raw [.str a.2.2.src, .I a.2.2.at_])] .ret S)) (awp_loop (fun k S => ∃ xh0_0_8h : List UInt8, ∃ xh0_1_8h : Int, ∃ x21701 : List UInt8, S = ⟨[(0, .P 0), (2, .P 21700), (4, .cv (.own .t_uint8 21701))], [(0, .raw [.str xh0_0_8h, .I xh0_1_8h]), (21700, .raw [.I 0, .I 0, .str [], .I 0]), (21701, .lst .t_uint8 x21701)]⟩ ∧ token_scanner_text_v2.l8 K k xh0_0_8h xh0_1_8h x21701 = some o2) ?_ ⟨_, _, _, rfl, hp2⟩) ?_
 ·clear h hp2
  intro k S hS
  obtain ⟨xh0_0_8h, xh0_1_8h, x21701, rfl, h⟩ := hS
  cases k with
  | zero => cases h
  | succ k =>
  unfold token_scanner_text_v2.l8 at h
  refine awp_block ?_
  refine awp_seq ?_
  obtain ⟨a1, h1, h⟩ := bind_some h
  refine ar L 214 [] [(1, .cv (.lit (.int .i32 a1)))] [] (cs := [PCall V P 34 [.cv (.pcs [.str xh0_0_8h, .I xh0_1_8h] 0), .I 0] (.cv (.lit (.int .i32 a1))), True]) (S' := ⟨[(0, .P 0), (2, .P 21700), (4, .cv (.own .t_uint8 21701)), (5, .cv (.lit (.int .i32 a1)))], [(0, .raw [.str xh0_0_8h, .I xh0_1_8h]), (21700, .raw [.I 0, .I 0, .str [], .I 0]), (21701, .lst .t_uint8 x21701)]⟩) (And.intro (token_scanner_peek.ok h1) trivial) ?_
  refine sr0 L 218 [] [] [] (S' := ⟨[(0, .P 0), (2, .P 21700), (4, .cv (.own .t_uint8 21701)), (5, .cv (.lit (.int .i32 a1)))], [(0, .raw [.str xh0_0_8h, .I (IntKind.i64.wrap (xh0_1_8h + 1))]), (21700, .raw [.I 0, .I 0, .str [], .I 0]), (21701, .lst .t_uint8 x21701)]⟩) ?_
  refine awp_block ?_
  refine sr0 L 227 [] [] [] (S' := ⟨[(0, .P 0), (2, .P 21700), (4, .cv (.own .t_uint8 21701)), (5, .cv (.lit (.int .i32 a1))), (25, .B (decide (a1 < 0)))], [(0, .raw [.str xh0_0_8h, .I (IntKind.i64.wrap (xh0_1_8h + 1))]), (21700, .raw [.I 0, .I 0, .str [], .I 0]), (21701, .lst .t_uint8 x21701)]⟩) ?_
  rcases ite_some h with ⟨c1, h⟩ | ⟨c1, h⟩
  ·refine tt (b := (decide (a1 < 0))) (decide_eq_true c1) ?_
   refine sr0 L 231 [] [] [] (S' := ⟨[(2, .P 21700), (3, .I 4)], [(0, .raw [.str xh0_0_8h, .I (IntKind.i64.wrap (xh0_1_8h + 1))]), (21700, .raw [.I 0, .I 0, .str [], .I 0])]⟩) ?_
   refine awp_turn (Turns.rn [(0, 0), (21700, 100)] (S' := ⟨[(2, .P 100), (3, .I 4)], [(0, .raw [.str xh0_0_8h, .I (IntKind.i64.wrap (xh0_1_8h + 1))]), (100, .raw [.I 0, .I 0, .str [], .I 0])]⟩)) ?_
   refine awp_ret ?_
   obtain rfl := Option.some.inj h
   exact .inr ⟨rfl, _, rfl, er (.tup [.agg [.I 0, .I 0, .str [], .I 0], .I 4])⟩
  refine ff (b := (decide (a1 < 0))) (decide_eq_false c1) ?_
  refine sr0 L 235 [] [] [] (S' := ⟨[(0, .P 0), (2, .P 21700), (4, .cv (.own .t_uint8 21701)), (5, .cv (.lit (.int .i32 a1))), (29, .B (decide (a1 = 34)))], [(0, .raw [.str xh0_0_8h, .I (IntKind.i64.wrap (xh0_1_8h + 1))]), (21700, .raw [.I 0, .I 0, .str [], .I 0]), (21701, .lst .t_uint8 x21701)]⟩) ?_
  rcases ite_some h with ⟨c2, h⟩ | ⟨c2, h⟩
  ·refine tt (b := (decide (a1 = 34))) (decide_eq_true c2) ?_
   refine awp_seq ?_
   refine sr0 L 239 [] [] [] (S' := ⟨[(2, .P 21700), (4, .cv (.own .t_uint8 21701)), (34, .B (decide ((x21701.length : Int) > 4096)))], [(0, .raw [.str xh0_0_8h, .I (IntKind.i64.wrap (xh0_1_8h + 1))]), (21700, .raw [.I 0, .I 0, .str [], .I 0]), (21701, .lst .t_uint8 x21701)]⟩) ?_
   rcases ite_some h with ⟨c3, h⟩ | ⟨c3, h⟩
   ·refine tt (b := (decide ((x21701.length : Int) > 4096))) (decide_eq_true c3) ?_
    refine sr0 L 243 [] [] [] (S' := ⟨[(2, .P 21700), (3, .I 6)], [(0, .raw [.str xh0_0_8h, .I (IntKind.i64.wrap (xh0_1_8h + 1))]), (21700, .raw [.I 0, .I 0, .str [], .I 0])]⟩) ?_
    refine awp_turn (Turns.rn [(0, 0), (21700, 100)] (S' := ⟨[(2, .P 100), (3, .I 6)], [(0, .raw [.str xh0_0_8h, .I (IntKind.i64.wrap (xh0_1_8h + 1))]), (100, .raw [.I 0, .I 0, .str [], .I 0])]⟩)) ?_
    refine awp_ret ?_
    obtain rfl := Option.some.inj h
    exact .inr ⟨rfl, _, rfl, er (.tup [.agg [.I 0, .I 0, .str [], .I 0], .I 6])⟩
   refine ff (b := (decide ((x21701.length : Int) > 4096))) (decide_eq_false c3) ?_
   refine awp_skip' ?_
   refine sr0 L 247 [] [] [] (S' := ⟨[(2, .P 21700), (3, .I 0)], [(0, .raw [.str xh0_0_8h, .I (IntKind.i64.wrap (xh0_1_8h + 1))]), (21700, .raw [.I 4, .I 0, .str (x21701.map (fun b => b)), .I 0])]⟩) ?_
   refine awp_turn (Turns.rn [(0, 0), (21700, 100)] (S' := ⟨[(2, .P 100), (3, .I 0)], [(0, .raw [.str xh0_0_8h, .I (IntKind.i64.wrap (xh0_1_8h + 1))]), (100, .raw [.I 4, .I 0, .str (x21701.map (fun b => b)), .I 0])]⟩)) ?_
   refine awp_ret ?_
   obtain rfl := Option.some.inj h
   exact .inr ⟨rfl, _, rfl, er (.tup [.agg [.I 4, .I 0, .str (x21701.map (fun b => b)), .I 0], .I 0])⟩
  refine ff (b := (decide (a1 = 34))) (decide_eq_false c2) ?_
  refine sr0 L 253 [] [] [] (S' := ⟨[(0, .P 0), (2, .P 21700), (4, .cv (.own .t_uint8 21701)), (5, .cv (.lit (.int .i32 a1))), (39, .B (decide (a1 = 92)))], [(0, .raw [.str xh0_0_8h, .I (IntKind.i64.wrap (xh0_1_8h + 1))]), (21700, .raw [.I 0, .I 0, .str [], .I 0]), (21701, .lst .t_uint8 x21701)]⟩) ?_
  rcases ite_some h with ⟨c4, h⟩ | ⟨c4, h⟩
  ·refine tt (b := (decide (a1 = 92))) (decide_eq_true c4) ?_
   refine awp_seq ?_
   obtain ⟨⟨a2_0, a2_1, a2_2⟩, h2, h⟩ := bind_some h
   dsimp only at h
   refine ar L 257 [] [] [(1, { hids := [0], fx := [0], r := .tup [.cv (.lit (.int .u8 a2_0)), .I a2_1], H' := [(0, .raw (d_token_scanner a2_2))], σ := [(0, 0)] })] (cs := [ECall V P 54 [.P 0] [(0, .raw [.str xh0_0_8h, .I (IntKind.i64.wrap (xh0_1_8h + 1))])] [0] (.tup [.cv (.lit (.int .u8 a2_0)), .I a2_1]) [(0, .raw (d_token_scanner a2_2))]]) (S' := ⟨[(0, .P 0), (2, .P 21700), (4, .cv (.own .t_uint8 21701)), (6, .cv (.lit (.int .u8 a2_0))), (7, .I a2_1)], [(0, .raw (d_token_scanner a2_2)), (21700, .raw [.I 0, .I 0, .str [], .I 0]), (21701, .lst .t_uint8 x21701)]⟩) (token_scanner_escape_v2.okE h2) ?_
   refine awp_seq ?_
   refine sr0 L 265 [] [] [] (S' := ⟨[(0, .P 0), (2, .P 21700), (4, .cv (.own .t_uint8 21701)), (6, .cv (.lit (.int .u8 a2_0))), (7, .I a2_1), (48, .B (decide (a2_1 ≠ 0)))], [(0, .raw (d_token_scanner a2_2)), (21700, .raw [.I 0, .I 0, .str [], .I 0]), (21701, .lst .t_uint8 x21701)]⟩) ?_
   rcases ite_some h with ⟨c5, h⟩ | ⟨c5, h⟩
   ·refine tt (b := (decide (a2_1 ≠ 0))) (decide_eq_true c5) ?_
    refine sr0 L 268 [] [] [] (S' := ⟨[(2, .P 21700), (3, .I a2_1)], [(0, .raw (d_token_scanner a2_2)), (21700, .raw [.I 0, .I 0, .str [], .I 0])]⟩) ?_
    refine awp_turn (Turns.rn [(0, 0), (21700, 100)] (S' := ⟨[(2, .P 100), (3, .I a2_1)], [(0, .raw (d_token_scanner a2_2)), (100, .raw [.I 0, .I 0, .str [], .I 0])]⟩)) ?_
    refine awp_ret ?_
    obtain rfl := Option.some.inj h
    exact .inr ⟨rfl, _, rfl, er (.tup [.agg [.I 0, .I 0, .str [], .I 0], .I a2_1])⟩
   refine ff (b := (decide (a2_1 ≠ 0))) (decide_eq_false c5) ?_
   refine awp_skip' ?_
   obtain ⟨g1, h⟩ := guard_some h
   obtain ⟨g2, h⟩ := guard_some h
   refine ar L 273 [] [] [] (cs := [0 ≤ a2_0, a2_0 < 256, (x21701.length + ([(UInt8.ofNat (Int.toNat a2_0))] : List UInt8).length) * 1 ≤ 140737488355328, True]) (S' := ⟨[(0, .P 0), (2, .P 21700), (4, .cv (.own .t_uint8 21701))], [(0, .raw (d_token_scanner a2_2)), (21700, .raw [.I 0, .I 0, .str [], .I 0]), (21701, .lst .t_uint8 (x21701 ++ ([(UInt8.ofNat (Int.toNat a2_0))] : List UInt8)))]⟩) (And.intro g1.1 (And.intro g1.2 (And.intro g2 trivial))) ?_
   exact ⟨k, Nat.lt_succ_self k, _, _, _, rfl, h⟩
  refine ff (b := (decide (a1 = 92))) (decide_eq_false c4) ?_
  obtain ⟨o1, hp1, h⟩ := bind_some h
  refine awp_seq (awp_mono (Q' := fun e S => (e = .normal ∧ ∃ xt55_49 : Bool, S = ⟨[(0, .P 0), (2, .P 29800), (4, .cv (.own .t_uint8 29801)), (5, .cv (.lit (.int .i32 a1))), (55, .B xt55_49)], [(0, .raw [.str xh0_0_8h, .I (IntKind.i64.wrap (xh0_1_8h + 1))]), (29800, .raw [.I 0, .I 0, .str [], .I 0]), (29801, .lst .t_uint8 x21701)]⟩ ∧ xt55_49 = o1)) ?_ ?_)
  ·clear h
   replace h := hp1
   rcases ite_some h with ⟨c6, h⟩ | ⟨c6, h⟩
   ·refine awp_post (ar L 279 [(2, true)] [] [] (cs := [(decide (a1 ≥ 32)) = true]) (S' := ⟨[(0, .P 0), (2, .P 21700), (4, .cv (.own .t_uint8 21701)), (5, .cv (.lit (.int .i32 a1))), (55, .B (decide (a1 ≤ 126)))], [(0, .raw [.str xh0_0_8h, .I (IntKind.i64.wrap (xh0_1_8h + 1))]), (21700, .raw [.I 0, .I 0, .str [], .I 0]), (21701, .lst .t_uint8 x21701)]⟩) (decide_eq_true c6) ⟨rfl, rfl⟩) (Turns.trans (Turns.kp (S' := ⟨[(0, .P 0), (2, .P 21700), (4, .cv (.own .t_uint8 21701)), (5, .cv (.lit (.int .i32 a1))), (55, .B (decide (a1 ≤ 126)))], [(0, .raw [.str xh0_0_8h, .I (IntKind.i64.wrap (xh0_1_8h + 1))]), (21700, .raw [.I 0, .I 0, .str [], .I 0]), (21701, .lst .t_uint8 x21701)]⟩)) (Turns.trans (Turns.rn [(0, 0), (21700, 29800), (21701, 29801)] (S' := ⟨[(0, .P 0), (2, .P 29800), (4, .cv (.own .t_uint8 29801)), (5, .cv (.lit (.int .i32 a1))), (55, .B (decide (a1 ≤ 126)))], [(0, .raw [.str xh0_0_8h, .I (IntKind.i64.wrap (xh0_1_8h + 1))]), (29800, .raw [.I 0, .I 0, .str [], .I 0]), (29801, .lst .t_uint8 x21701)]⟩)) (Turns.kp (S' := ⟨[(0, .P 0), (2, .P 29800), (4, .cv (.own .t_uint8 29801)), (5, .cv (.lit (.int .i32 a1))), (55, .B (decide (a1 ≤ 126)))], [(0, .raw [.str xh0_0_8h, .I (IntKind.i64.wrap (xh0_1_8h + 1))]), (29800, .raw [.I 0, .I 0, .str [], .I 0]), (29801, .lst .t_uint8 x21701)]⟩)))) ?_
    obtain rfl := Option.some.inj h
    exact ⟨rfl, _, rfl, rfl⟩
   refine awp_post (ar L 279 [(2, false)] [] [] (cs := [(decide (a1 ≥ 32)) = false]) (S' := ⟨[(0, .P 0), (2, .P 21700), (4, .cv (.own .t_uint8 21701)), (5, .cv (.lit (.int .i32 a1))), (55, .B false)], [(0, .raw [.str xh0_0_8h, .I (IntKind.i64.wrap (xh0_1_8h + 1))]), (21700, .raw [.I 0, .I 0, .str [], .I 0]), (21701, .lst .t_uint8 x21701)]⟩) (decide_eq_false c6) ⟨rfl, rfl⟩) (Turns.trans (Turns.kp (S' := ⟨[(0, .P 0), (2, .P 21700), (4, .cv (.own .t_uint8 21701)), (5, .cv (.lit (.int .i32 a1))), (55, .B false)], [(0, .raw [.str xh0_0_8h, .I (IntKind.i64.wrap (xh0_1_8h + 1))]), (21700, .raw [.I 0, .I 0, .str [], .I 0]), (21701, .lst .t_uint8 x21701)]⟩)) (Turns.trans (Turns.rn [(0, 0), (21700, 29800), (21701, 29801)] (S' := ⟨[(0, .P 0), (2, .P 29800), (4, .cv (.own .t_uint8 29801)), (5, .cv (.lit (.int .i32 a1))), (55, .B false)], [(0, .raw [.str xh0_0_8h, .I (IntKind.i64.wrap (xh0_1_8h + 1))]), (29800, .raw [.I 0, .I 0, .str [], .I 0]), (29801, .lst .t_uint8 x21701)]⟩)) (Turns.kp (S' := ⟨[(0, .P 0), (2, .P 29800), (4, .cv (.own .t_uint8 29801)), (5, .cv (.lit (.int .i32 a1))), (55, .B false)], [(0, .raw [.str xh0_0_8h, .I (IntKind.i64.wrap (xh0_1_8h + 1))]), (29800, .raw [.I 0, .I 0, .str [], .I 0]), (29801, .lst .t_uint8 x21701)]⟩)))) ?_
   obtain rfl := Option.some.inj h
   exact ⟨rfl, _, rfl, rfl⟩
  ·rintro e S ⟨rfl, xt55_49, rfl, rfl⟩
   rcases ite_some h with ⟨c7, h⟩ | ⟨c7, h⟩
   ·refine tt (b := xt55_49) (c7) ?_
    obtain ⟨g3, h⟩ := guard_some h
    obtain ⟨g4, h⟩ := guard_some h
    refine awp_post (ar L 287 [] [] [] (cs := [0 ≤ (IntKind.u8.wrap a1), (IntKind.u8.wrap a1) < 256, (x21701.length + ([(UInt8.ofNat (Int.toNat (IntKind.u8.wrap a1)))] : List UInt8).length) * 1 ≤ 140737488355328, True]) (S' := ⟨[(0, .P 0), (2, .P 29800), (4, .cv (.own .t_uint8 29801))], [(0, .raw [.str xh0_0_8h, .I (IntKind.i64.wrap (xh0_1_8h + 1))]), (29800, .raw [.I 0, .I 0, .str [], .I 0]), (29801, .lst .t_uint8 (x21701 ++ ([(UInt8.ofNat (Int.toNat (IntKind.u8.wrap a1)))] : List UInt8)))]⟩) (And.intro g3.1 (And.intro g3.2 (And.intro g4 trivial))) ⟨rfl, rfl⟩) (Turns.trans (Turns.kp (S' := ⟨[(0, .P 0), (2, .P 29800), (4, .cv (.own .t_uint8 29801))], [(0, .raw [.str xh0_0_8h, .I (IntKind.i64.wrap (xh0_1_8h + 1))]), (29800, .raw [.I 0, .I 0, .str [], .I 0]), (29801, .lst .t_uint8 (x21701 ++ ([(UInt8.ofNat (Int.toNat (IntKind.u8.wrap a1)))] : List UInt8)))]⟩)) (Turns.trans (Turns.rn [(0, 0), (29800, 21700), (29801, 21701)] (S' := ⟨[(0, .P 0), (2, .P 21700), (4, .cv (.own .t_uint8 21701))], [(0, .raw [.str xh0_0_8h, .I (IntKind.i64.wrap (xh0_1_8h + 1))]), (21700, .raw [.I 0, .I 0, .str [], .I 0]), (21701, .lst .t_uint8 (x21701 ++ ([(UInt8.ofNat (Int.toNat (IntKind.u8.wrap a1)))] : List UInt8)))]⟩)) (Turns.kp (S' := ⟨[(0, .P 0), (2, .P 21700), (4, .cv (.own .t_uint8 21701))], [(0, .raw [.str xh0_0_8h, .I (IntKind.i64.wrap (xh0_1_8h + 1))]), (21700, .raw [.I 0, .I 0, .str [], .I 0]), (21701, .lst .t_uint8 (x21701 ++ ([(UInt8.ofNat (Int.toNat (IntKind.u8.wrap a1)))] : List UInt8)))]⟩)))) ?_
    exact ⟨k, Nat.lt_succ_self k, _, _, _, rfl, h⟩
   refine ff (b := xt55_49) (eq_false_of_ne_true c7) ?_
   refine sr0 L 294 [] [] [] (S' := ⟨[(2, .P 29800), (3, .I 3)], [(0, .raw [.str xh0_0_8h, .I (IntKind.i64.wrap (xh0_1_8h + 1))]), (29800, .raw [.I 0, .I 0, .str [], .I 0])]⟩) ?_
   refine awp_turn (Turns.rn [(0, 0), (29800, 100)] (S' := ⟨[(2, .P 100), (3, .I 3)], [(0, .raw [.str xh0_0_8h, .I (IntKind.i64.wrap (xh0_1_8h + 1))]), (100, .raw [.I 0, .I 0, .str [], .I 0])]⟩)) ?_
   refine awp_ret ?_
   obtain rfl := Option.some.inj h
   exact .inr ⟨rfl, _, rfl, er (.tup [.agg [.I 0, .I 0, .str [], .I 0], .I 3])⟩
 ·rintro e S (hf | ⟨rfl, a, rfl, hr⟩)
  ·exact hf.elim
  ·rcases h with ⟨_, e1, h⟩ | ⟨_, e1, h⟩
   ·have e2 := Out.done.inj e1
    subst e2
    subst h
    exact ⟨_, Turns.refl, hr⟩
   ·cases e1
theorem token_scanner_text_v2.okE {K : Nat} {p0 : token_scanner} {r : api_Token × Int × token_scanner} (h : token_scanner_text_v2 K p0 = some r) : ECall V P 39 [.P 0] [(0, .raw (d_token_scanner p0))] [0] (.tup [.agg [.I r.1.Kind, .I r.1.At, .str r.1.Text, .I r.1.Int], .I r.2.1]) [(0, .raw [.str r.2.2.src, .I r.2.2.at_])] :=
 eo (fn := Tryd.f39) (n := 67) (m := 100) fun Γ => token_scanner_text_v2.body h
def token_scanner_sign_v2 (K : Nat) (p0 : token_scanner) : Option (api_Token × Int × token_scanner) := (Option.bind (((Option.bind (token_scanner_peek K p0 0) (fun a1 => (Option.bind ((if a1 = 61 then some (decide (a1 = 61)) else (if a1 = 60 then some (decide (a1 = 60)) else (if a1 = 62 then some (decide (a1 = 62)) else some (decide (a1 = 33))))) : Option Bool) (fun xt10_11 => (if xt10_11 = true then (Option.bind (token_scanner_peek K p0 1) (fun a2 => (if a2 = 61 then some 2 else (if a1 ≠ 33 then some 1 else some 0)))) else (if a1 = 40 then some 1 else (if a1 = 41 then some 1 else (if a1 = 123 then some 1 else (if a1 = 125 then some 1 else (if a1 = 91 then some 1 else (if a1 = 93 then some 1 else (if a1 = 44 then some 1 else (if a1 = 59 then some 1 else (if a1 = 46 then some 1 else (if a1 = 58 then some 1 else (if a1 = 43 then some 1 else (if a1 = 45 then some 1 else (if a1 = 42 then some 1 else (if a1 = 47 then some 1 else (if a1 = 37 then some 1 else some 0))))))))))))))))))))) : Option Int) (fun xt4_5 => (if xt4_5 = 0 then some ((⟨0, 0, [], 0⟩ : api_Token), 3, p0) else (if (0 : Int) ≤ p0.at_ ∧ p0.at_ ≤ (IntKind.i64.wrap (p0.at_ + xt4_5)) ∧ (IntKind.i64.wrap (p0.at_ + xt4_5)) ≤ (p0.src.length : Int) then some ((⟨5, 0, (slc p0.src p0.at_ (IntKind.i64.wrap (p0.at_ + xt4_5))), 0⟩ : api_Token), 0, (⟨p0.src, (IntKind.i64.wrap (p0.at_ + xt4_5))⟩ : token_scanner)) else none))))
theorem token_scanner_sign_v2.body {Γ : Ent} {K : Nat} {p0 : token_scanner} {r : api_Token × Int × token_scanner} (h : token_scanner_sign_v2 K p0 = some r) : AWp V P 64 100 Γ (Tryd.f40.body.getD .skip) (EndsE P V Tryd.f40 (.tup [.agg [.I r.1.Kind, .I r.1.At, .str r.1.Text, .I r.1.Int], .I r.2.1]) [(0, .raw [.str r.2.2.src, .I r.2.2.at_])]) ⟨args0 0 [.P 0], [(0, .raw (d_token_scanner p0))]⟩ := by
 unfold token_scanner_sign_v2 at h
 refine sr0 L 200 [] [] [] (S' := ⟨[(0, .P 0), (2, .P 200)], [(0, .raw (d_token_scanner p0)), (200, .raw [.I 0, .I 0, .str [], .I 0])]⟩) ?_
 refine sr0 L 203 [] [] [] (S' := ⟨[(0, .P 0), (2, .P 200), (4, .I 0)], [(0, .raw (d_token_scanner p0)), (200, .raw [.I 0, .I 0, .str [], .I 0])]⟩) ?_
 obtain ⟨o2, hp2, h⟩ := bind_some h
 refine awp_seq (awp_mono (Q' := fun e S => (e = .normal ∧ ∃ xt4_5 : Int, S = ⟨[(0, .P 0), (2, .P 21000), (4, .I xt4_5)], [(0, .raw (d_token_scanner p0)), (21000, .raw [.I 0, .I 0, .str [], .I 0])]⟩ ∧ xt4_5 = o2)) ?_ ?_)
 ·clear h
  replace h := hp2
  refine awp_seq ?_
  obtain ⟨a1, h1, h⟩ := bind_some h
  refine ar L 205 [] [(1, .cv (.lit (.int .i32 a1)))] [] (cs := [PCall V P 34 [.cv (.pcs (d_token_scanner p0) 0), .I 0] (.cv (.lit (.int .i32 a1))), True]) (S' := ⟨[(0, .P 0), (2, .P 200), (4, .I 0), (5, .cv (.lit (.int .i32 a1)))], [(0, .raw (d_token_scanner p0)), (200, .raw [.I 0, .I 0, .str [], .I 0])]⟩) (And.intro (token_scanner_peek.ok h1) trivial) ?_
  refine sr0 L 209 [] [] [] (S' := ⟨[(0, .P 0), (2, .P 200), (4, .I 0), (5, .cv (.lit (.int .i32 a1))), (9, .cv (.lit (.int .i32 a1)))], [(0, .raw (d_token_scanner p0)), (200, .raw [.I 0, .I 0, .str [], .I 0])]⟩) ?_
  refine awp_block ?_
  obtain ⟨o1, hp1, h⟩ := bind_some h
  refine awp_seq (awp_mono (Q' := fun e S => (e = .normal ∧ ∃ xt10_11 : Bool, S = ⟨[(0, .P 0), (2, .P 22200), (4, .I 0), (5, .cv (.lit (.int .i32 a1))), (9, .cv (.lit (.int .i32 a1))), (10, .B xt10_11)], [(0, .raw (d_token_scanner p0)), (22200, .raw [.I 0, .I 0, .str [], .I 0])]⟩ ∧ xt10_11 = o1)) ?_ ?_)
  ·clear h
   replace h := hp1
   refine sr0 L 211 [] [] [] (S' := ⟨[(0, .P 0), (2, .P 200), (4, .I 0), (5, .cv (.lit (.int .i32 a1))), (9, .cv (.lit (.int .i32 a1))), (10, .B (decide (a1 = 61)))], [(0, .raw (d_token_scanner p0)), (200, .raw [.I 0, .I 0, .str [], .I 0])]⟩) ?_
   rcases ite_some h with ⟨c1, h⟩ | ⟨c1, h⟩
   ·refine tt (b := (decide (a1 = 61))) (decide_eq_true c1) ?_
    refine awp_turn (Turns.trans (Turns.kp (S' := ⟨[(0, .P 0), (2, .P 200), (4, .I 0), (5, .cv (.lit (.int .i32 a1))), (9, .cv (.lit (.int .i32 a1))), (10, .B (decide (a1 = 61)))], [(0, .raw (d_token_scanner p0)), (200, .raw [.I 0, .I 0, .str [], .I 0])]⟩)) (Turns.rn [(0, 0), (200, 22200)] (S' := ⟨[(0, .P 0), (2, .P 22200), (4, .I 0), (5, .cv (.lit (.int .i32 a1))), (9, .cv (.lit (.int .i32 a1))), (10, .B (decide (a1 = 61)))], [(0, .raw (d_token_scanner p0)), (22200, .raw [.I 0, .I 0, .str [], .I 0])]⟩))) ?_
    refine sk (S' := ⟨[(0, .P 0), (2, .P 22200), (4, .I 0), (5, .cv (.lit (.int .i32 a1))), (9, .cv (.lit (.int .i32 a1))), (10, .B (decide (a1 = 61)))], [(0, .raw (d_token_scanner p0)), (22200, .raw [.I 0, .I 0, .str [], .I 0])]⟩) ?_
    obtain rfl := Option.some.inj h
    exact ⟨rfl, _, rfl, rfl⟩
   refine ff (b := (decide (a1 = 61))) (decide_eq_false c1) ?_
   refine sr0 L 214 [] [] [] (S' := ⟨[(0, .P 0), (2, .P 200), (4, .I 0), (5, .cv (.lit (.int .i32 a1))), (9, .cv (.lit (.int .i32 a1))), (10, .B (decide (a1 = 60)))], [(0, .raw (d_token_scanner p0)), (200, .raw [.I 0, .I 0, .str [], .I 0])]⟩) ?_
   rcases ite_some h with ⟨c2, h⟩ | ⟨c2, h⟩
   ·refine tt (b := (decide (a1 = 60))) (decide_eq_true c2) ?_
    refine awp_turn (Turns.trans (Turns.kp (S' := ⟨[(0, .P 0), (2, .P 200), (4, .I 0), (5, .cv (.lit (.int .i32 a1))), (9, .cv (.lit (.int .i32 a1))), (10, .B (decide (a1 = 60)))], [(0, .raw (d_token_scanner p0)), (200, .raw [.I 0, .I 0, .str [], .I 0])]⟩)) (Turns.rn [(0, 0), (200, 22200)] (S' := ⟨[(0, .P 0), (2, .P 22200), (4, .I 0), (5, .cv (.lit (.int .i32 a1))), (9, .cv (.lit (.int .i32 a1))), (10, .B (decide (a1 = 60)))], [(0, .raw (d_token_scanner p0)), (22200, .raw [.I 0, .I 0, .str [], .I 0])]⟩))) ?_
    refine sk (S' := ⟨[(0, .P 0), (2, .P 22200), (4, .I 0), (5, .cv (.lit (.int .i32 a1))), (9, .cv (.lit (.int .i32 a1))), (10, .B (decide (a1 = 60)))], [(0, .raw (d_token_scanner p0)), (22200, .raw [.I 0, .I 0, .str [], .I 0])]⟩) ?_
    obtain rfl := Option.some.inj h
    exact ⟨rfl, _, rfl, rfl⟩
   refine ff (b := (decide (a1 = 60))) (decide_eq_false c2) ?_
   refine sr0 L 217 [] [] [] (S' := ⟨[(0, .P 0), (2, .P 200), (4, .I 0), (5, .cv (.lit (.int .i32 a1))), (9, .cv (.lit (.int .i32 a1))), (10, .B (decide (a1 = 62)))], [(0, .raw (d_token_scanner p0)), (200, .raw [.I 0, .I 0, .str [], .I 0])]⟩) ?_
   rcases ite_some h with ⟨c3, h⟩ | ⟨c3, h⟩
   ·refine tt (b := (decide (a1 = 62))) (decide_eq_true c3) ?_
    refine awp_turn (Turns.trans (Turns.kp (S' := ⟨[(0, .P 0), (2, .P 200), (4, .I 0), (5, .cv (.lit (.int .i32 a1))), (9, .cv (.lit (.int .i32 a1))), (10, .B (decide (a1 = 62)))], [(0, .raw (d_token_scanner p0)), (200, .raw [.I 0, .I 0, .str [], .I 0])]⟩)) (Turns.rn [(0, 0), (200, 22200)] (S' := ⟨[(0, .P 0), (2, .P 22200), (4, .I 0), (5, .cv (.lit (.int .i32 a1))), (9, .cv (.lit (.int .i32 a1))), (10, .B (decide (a1 = 62)))], [(0, .raw (d_token_scanner p0)), (22200, .raw [.I 0, .I 0, .str [], .I 0])]⟩))) ?_
    refine sk (S' := ⟨[(0, .P 0), (2, .P 22200), (4, .I 0), (5, .cv (.lit (.int .i32 a1))), (9, .cv (.lit (.int .i32 a1))), (10, .B (decide (a1 = 62)))], [(0, .raw (d_token_scanner p0)), (22200, .raw [.I 0, .I 0, .str [], .I 0])]⟩) ?_
    obtain rfl := Option.some.inj h
    exact ⟨rfl, _, rfl, rfl⟩
   refine ff (b := (decide (a1 = 62))) (decide_eq_false c3) ?_
   refine awp_post (ar0 L 220 [] [] [] (S' := ⟨[(0, .P 0), (2, .P 200), (4, .I 0), (5, .cv (.lit (.int .i32 a1))), (9, .cv (.lit (.int .i32 a1))), (10, .B (decide (a1 = 33)))], [(0, .raw (d_token_scanner p0)), (200, .raw [.I 0, .I 0, .str [], .I 0])]⟩) ⟨rfl, rfl⟩) (Turns.trans (Turns.kp (S' := ⟨[(0, .P 0), (2, .P 200), (4, .I 0), (5, .cv (.lit (.int .i32 a1))), (9, .cv (.lit (.int .i32 a1))), (10, .B (decide (a1 = 33)))], [(0, .raw (d_token_scanner p0)), (200, .raw [.I 0, .I 0, .str [], .I 0])]⟩)) (Turns.trans (Turns.rn [(0, 0), (200, 22200)] (S' := ⟨[(0, .P 0), (2, .P 22200), (4, .I 0), (5, .cv (.lit (.int .i32 a1))), (9, .cv (.lit (.int .i32 a1))), (10, .B (decide (a1 = 33)))], [(0, .raw (d_token_scanner p0)), (22200, .raw [.I 0, .I 0, .str [], .I 0])]⟩)) (Turns.kp (S' := ⟨[(0, .P 0), (2, .P 22200), (4, .I 0), (5, .cv (.lit (.int .i32 a1))), (9, .cv (.lit (.int .i32 a1))), (10, .B (decide (a1 = 33)))], [(0, .raw (d_token_scanner p0)), (22200, .raw [.I 0, .I 0, .str [], .I 0])]⟩)))) ?_
   obtain rfl := Option.some.inj h
   exact ⟨rfl, _, rfl, rfl⟩
  ·rintro e S ⟨rfl, xt10_11, rfl, rfl⟩
   rcases ite_some h with ⟨c4, h⟩ | ⟨c4, h⟩
   ·refine tt (b := xt10_11) (c4) ?_
    refine awp_seq ?_
    obtain ⟨a2, h2, h⟩ := bind_some h
    refine ar L 223 [] [(1, .cv (.lit (.int .i32 a2)))] [] (cs := [PCall V P 34 [.cv (.pcs (d_token_scanner p0) 0), .I 1] (.cv (.lit (.int .i32 a2))), True]) (S' := ⟨[(0, .P 0), (2, .P 22200), (4, .I 0), (5, .cv (.lit (.int .i32 a1))), (17, .B (decide (a2 = 61)))], [(0, .raw (d_token_scanner p0)), (22200, .raw [.I 0, .I 0, .str [], .I 0])]⟩) (And.intro (token_scanner_peek.ok h2) trivial) ?_
    rcases ite_some h with ⟨c5, h⟩ | ⟨c5, h⟩
    ·refine tt (b := (decide (a2 = 61))) (decide_eq_true c5) ?_
     refine awp_post (ar0 L 227 [] [] [] (S' := ⟨[(0, .P 0), (2, .P 22200), (4, .I 2)], [(0, .raw (d_token_scanner p0)), (22200, .raw [.I 0, .I 0, .str [], .I 0])]⟩) ⟨rfl, rfl⟩) (Turns.trans (Turns.kp (S' := ⟨[(0, .P 0), (2, .P 22200), (4, .I 2)], [(0, .raw (d_token_scanner p0)), (22200, .raw [.I 0, .I 0, .str [], .I 0])]⟩)) (Turns.trans (Turns.rn [(0, 0), (22200, 21000)] (S' := ⟨[(0, .P 0), (2, .P 21000), (4, .I 2)], [(0, .raw (d_token_scanner p0)), (21000, .raw [.I 0, .I 0, .str [], .I 0])]⟩)) (Turns.kp (S' := ⟨[(0, .P 0), (2, .P 21000), (4, .I 2)], [(0, .raw (d_token_scanner p0)), (21000, .raw [.I 0, .I 0, .str [], .I 0])]⟩)))) ?_
     obtain rfl := Option.some.inj h
     exact ⟨rfl, _, rfl, rfl⟩
    refine ff (b := (decide (a2 = 61))) (decide_eq_false c5) ?_
    refine sr0 L 229 [] [] [] (S' := ⟨[(0, .P 0), (2, .P 22200), (4, .I 0), (19, .B (decide (a1 ≠ 33)))], [(0, .raw (d_token_scanner p0)), (22200, .raw [.I 0, .I 0, .str [], .I 0])]⟩) ?_
    rcases ite_some h with ⟨c6, h⟩ | ⟨c6, h⟩
    ·refine tt (b := (decide (a1 ≠ 33))) (decide_eq_true c6) ?_
     refine awp_post (ar0 L 232 [] [] [] (S' := ⟨[(0, .P 0), (2, .P 22200), (4, .I 1)], [(0, .raw (d_token_scanner p0)), (22200, .raw [.I 0, .I 0, .str [], .I 0])]⟩) ⟨rfl, rfl⟩) (Turns.trans (Turns.kp (S' := ⟨[(0, .P 0), (2, .P 22200), (4, .I 1)], [(0, .raw (d_token_scanner p0)), (22200, .raw [.I 0, .I 0, .str [], .I 0])]⟩)) (Turns.trans (Turns.rn [(0, 0), (22200, 21000)] (S' := ⟨[(0, .P 0), (2, .P 21000), (4, .I 1)], [(0, .raw (d_token_scanner p0)), (21000, .raw [.I 0, .I 0, .str [], .I 0])]⟩)) (Turns.kp (S' := ⟨[(0, .P 0), (2, .P 21000), (4, .I 1)], [(0, .raw (d_token_scanner p0)), (21000, .raw [.I 0, .I 0, .str [], .I 0])]⟩)))) ?_
     obtain rfl := Option.some.inj h
     exact ⟨rfl, _, rfl, rfl⟩
    refine ff (b := (decide (a1 ≠ 33))) (decide_eq_false c6) ?_
    refine awp_turn (Turns.trans (Turns.kp (S' := ⟨[(0, .P 0), (2, .P 22200), (4, .I 0)], [(0, .raw (d_token_scanner p0)), (22200, .raw [.I 0, .I 0, .str [], .I 0])]⟩)) (Turns.rn [(0, 0), (22200, 21000)] (S' := ⟨[(0, .P 0), (2, .P 21000), (4, .I 0)], [(0, .raw (d_token_scanner p0)), (21000, .raw [.I 0, .I 0, .str [], .I 0])]⟩))) ?_
    refine sk (S' := ⟨[(0, .P 0), (2, .P 21000), (4, .I 0)], [(0, .raw (d_token_scanner p0)), (21000, .raw [.I 0, .I 0, .str [], .I 0])]⟩) ?_
    obtain rfl := Option.some.inj h
    exact ⟨rfl, _, rfl, rfl⟩
   refine ff (b := xt10_11) (eq_false_of_ne_true c4) ?_
   refine awp_seq ?_
   refine sr0 L 234 [] [] [] (S' := ⟨[(0, .P 0), (2, .P 22200), (4, .I 0), (9, .cv (.lit (.int .i32 a1))), (20, .B (decide (a1 = 40)))], [(0, .raw (d_token_scanner p0)), (22200, .raw [.I 0, .I 0, .str [], .I 0])]⟩) ?_
   rcases ite_some h with ⟨c7, h⟩ | ⟨c7, h⟩
   ·refine tt (b := (decide (a1 = 40))) (decide_eq_true c7) ?_
    refine awp_skip' ?_
    refine tt (b := (decide (a1 = 40))) (decide_eq_true c7) ?_
    refine awp_post (ar0 L 279 [] [] [] (S' := ⟨[(0, .P 0), (2, .P 22200), (4, .I 1)], [(0, .raw (d_token_scanner p0)), (22200, .raw [.I 0, .I 0, .str [], .I 0])]⟩) ⟨rfl, rfl⟩) (Turns.trans (Turns.kp (S' := ⟨[(0, .P 0), (2, .P 22200), (4, .I 1)], [(0, .raw (d_token_scanner p0)), (22200, .raw [.I 0, .I 0, .str [], .I 0])]⟩)) (Turns.trans (Turns.rn [(0, 0), (22200, 21000)] (S' := ⟨[(0, .P 0), (2, .P 21000), (4, .I 1)], [(0, .raw (d_token_scanner p0)), (21000, .raw [.I 0, .I 0, .str [], .I 0])]⟩)) (Turns.kp (S' := ⟨[(0, .P 0), (2, .P 21000), (4, .I 1)], [(0, .raw (d_token_scanner p0)), (21000, .raw [.I 0, .I 0, .str [], .I 0])]⟩)))) ?_
    obtain rfl := Option.some.inj h
    exact ⟨rfl, _, rfl, rfl⟩
   refine ff (b := (decide (a1 = 40))) (decide_eq_false c7) ?_
   refine sr0 L 237 [] [] [] (S' := ⟨[(0, .P 0), (2, .P 22200), (4, .I 0), (9, .cv (.lit (.int .i32 a1))), (20, .B (decide (a1 = 41)))], [(0, .raw (d_token_scanner p0)), (22200, .raw [.I 0, .I 0, .str [], .I 0])]⟩) ?_
   rcases ite_some h with ⟨c8, h⟩ | ⟨c8, h⟩
   ·refine tt (b := (decide (a1 = 41))) (decide_eq_true c8) ?_
    refine awp_skip' ?_
    refine tt (b := (decide (a1 = 41))) (decide_eq_true c8) ?_
    refine awp_post (ar0 L 279 [] [] [] (S' := ⟨[(0, .P 0), (2, .P 22200), (4, .I 1)], [(0, .raw (d_token_scanner p0)), (22200, .raw [.I 0, .I 0, .str [], .I 0])]⟩) ⟨rfl, rfl⟩) (Turns.trans (Turns.kp (S' := ⟨[(0, .P 0), (2, .P 22200), (4, .I 1)], [(0, .raw (d_token_scanner p0)), (22200, .raw [.I 0, .I 0, .str [], .I 0])]⟩)) (Turns.trans (Turns.rn [(0, 0), (22200, 21000)] (S' := ⟨[(0, .P 0), (2, .P 21000), (4, .I 1)], [(0, .raw (d_token_scanner p0)), (21000, .raw [.I 0, .I 0, .str [], .I 0])]⟩)) (Turns.kp (S' := ⟨[(0, .P 0), (2, .P 21000), (4, .I 1)], [(0, .raw (d_token_scanner p0)), (21000, .raw [.I 0, .I 0, .str [], .I 0])]⟩)))) ?_
    obtain rfl := Option.some.inj h
    exact ⟨rfl, _, rfl, rfl⟩
   refine ff (b := (decide (a1 = 41))) (decide_eq_false c8) ?_
   refine sr0 L 240 [] [] [] (S' := ⟨[(0, .P 0), (2, .P 22200), (4, .I 0), (9, .cv (.lit (.int .i32 a1))), (20, .B (decide (a1 = 123)))], [(0, .raw (d_token_scanner p0)), (22200, .raw [.I 0, .I 0, .str [], .I 0])]⟩) ?_
   rcases ite_some h with ⟨c9, h⟩ | ⟨c9, h⟩
   ·refine tt (b := (decide (a1 = 123))) (decide_eq_true c9) ?_
    refine awp_skip' ?_
    refine tt (b := (decide (a1 = 123))) (decide_eq_true c9) ?_
    refine awp_post (ar0 L 279 [] [] [] (S' := ⟨[(0, .P 0), (2, .P 22200), (4, .I 1)], [(0, .raw (d_token_scanner p0)), (22200, .raw [.I 0, .I 0, .str [], .I 0])]⟩) ⟨rfl, rfl⟩) (Turns.trans (Turns.kp (S' := ⟨[(0, .P 0), (2, .P 22200), (4, .I 1)], [(0, .raw (d_token_scanner p0)), (22200, .raw [.I 0, .I 0, .str [], .I 0])]⟩)) (Turns.trans (Turns.rn [(0, 0), (22200, 21000)] (S' := ⟨[(0, .P 0), (2, .P 21000), (4, .I 1)], [(0, .raw (d_token_scanner p0)), (21000, .raw [.I 0, .I 0, .str [], .I 0])]⟩)) (Turns.kp (S' := ⟨[(0, .P 0), (2, .P 21000), (4, .I 1)], [(0, .raw (d_token_scanner p0)), (21000, .raw [.I 0, .I 0, .str [], .I 0])]⟩)))) ?_
    obtain rfl := Option.some.inj h
    exact ⟨rfl, _, rfl, rfl⟩
   refine ff (b := (decide (a1 = 123))) (decide_eq_false c9) ?_
   refine sr0 L 243 [] [] [] (S' := ⟨[(0, .P 0), (2, .P 22200), (4, .I 0), (9, .cv (.lit (.int .i32 a1))), (20, .B (decide (a1 = 125)))], [(0, .raw (d_token_scanner p0)), (22200, .raw [.I 0, .I 0, .str [], .I 0])]⟩) ?_
   rcases ite_some h with ⟨c10, h⟩ | ⟨c10, h⟩
   ·refine tt (b := (decide (a1 = 125))) (decide_eq_true c10) ?_
    refine awp_skip' ?_
    refine tt (b := (decide (a1 = 125))) (decide_eq_true c10) ?_
    refine awp_post (ar0 L 279 [] [] [] (S' := ⟨[(0, .P 0), (2, .P 22200), (4, .I 1)], [(0, .raw (d_token_scanner p0)), (22200, .raw [.I 0, .I 0, .str [], .I 0])]⟩) ⟨rfl, rfl⟩) (Turns.trans (Turns.kp (S' := ⟨[(0, .P 0), (2, .P 22200), (4, .I 1)], [(0, .raw (d_token_scanner p0)), (22200, .raw [.I 0, .I 0, .str [], .I 0])]⟩)) (Turns.trans (Turns.rn [(0, 0), (22200, 21000)] (S' := ⟨[(0, .P 0), (2, .P 21000), (4, .I 1)], [(0, .raw (d_token_scanner p0)), (21000, .raw [.I 0, .I 0, .str [], .I 0])]⟩)) (Turns.kp (S' := ⟨[(0, .P 0), (2, .P 21000), (4, .I 1)], [(0, .raw (d_token_scanner p0)), (21000, .raw [.I 0, .I 0, .str [], .I 0])]⟩)))) ?_
    obtain rfl := Option.some.inj h
    exact ⟨rfl, _, rfl, rfl⟩
   refine ff (b := (decide (a1 = 125))) (decide_eq_false c10) ?_
   refine sr0 L 246 [] [] [] (S' := ⟨[(0, .P 0), (2, .P 22200), (4, .I 0), (9, .cv (.lit (.int .i32 a1))), (20, .B (decide (a1 = 91)))], [(0, .raw (d_token_scanner p0)), (22200, .raw [.I 0, .I 0, .str [], .I 0])]⟩) ?_
   rcases ite_some h with ⟨c11, h⟩ | ⟨c11, h⟩
   ·refine tt (b := (decide (a1 = 91))) (decide_eq_true c11) ?_
    refine awp_skip' ?_
    refine tt (b := (decide (a1 = 91))) (decide_eq_true c11) ?_
    refine awp_post (ar0 L 279 [] [] [] (S' := ⟨[(0, .P 0), (2, .P 22200), (4, .I 1)], [(0, .raw (d_token_scanner p0)), (22200, .raw [.I 0, .I 0, .str [], .I 0])]⟩) ⟨rfl, rfl⟩) (Turns.trans (Turns.kp (S' := ⟨[(0, .P 0), (2, .P 22200), (4, .I 1)], [(0, .raw (d_token_scanner p0)), (22200, .raw [.I 0, .I 0, .str [], .I 0])]⟩)) (Turns.trans (Turns.rn [(0, 0), (22200, 21000)] (S' := ⟨[(0, .P 0), (2, .P 21000), (4, .I 1)], [(0, .raw (d_token_scanner p0)), (21000, .raw [.I 0, .I 0, .str [], .I 0])]⟩)) (Turns.kp (S' := ⟨[(0, .P 0), (2, .P 21000), (4, .I 1)], [(0, .raw (d_token_scanner p0)), (21000, .raw [.I 0, .I 0, .str [], .I 0])]⟩)))) ?_
    obtain rfl := Option.some.inj h
    exact ⟨rfl, _, rfl, rfl⟩
   refine ff (b := (decide (a1 = 91))) (decide_eq_false c11) ?_
   refine sr0 L 249 [] [] [] (S' := ⟨[(0, .P 0), (2, .P 22200), (4, .I 0), (9, .cv (.lit (.int .i32 a1))), (20, .B (decide (a1 = 93)))], [(0, .raw (d_token_scanner p0)), (22200, .raw [.I 0, .I 0, .str [], .I 0])]⟩) ?_
   rcases ite_some h with ⟨c12, h⟩ | ⟨c12, h⟩
   ·refine tt (b := (decide (a1 = 93))) (decide_eq_true c12) ?_
    refine awp_skip' ?_
    refine tt (b := (decide (a1 = 93))) (decide_eq_true c12) ?_
    refine awp_post (ar0 L 279 [] [] [] (S' := ⟨[(0, .P 0), (2, .P 22200), (4, .I 1)], [(0, .raw (d_token_scanner p0)), (22200, .raw [.I 0, .I 0, .str [], .I 0])]⟩) ⟨rfl, rfl⟩) (Turns.trans (Turns.kp (S' := ⟨[(0, .P 0), (2, .P 22200), (4, .I 1)], [(0, .raw (d_token_scanner p0)), (22200, .raw [.I 0, .I 0, .str [], .I 0])]⟩)) (Turns.trans (Turns.rn [(0, 0), (22200, 21000)] (S' := ⟨[(0, .P 0), (2, .P 21000), (4, .I 1)], [(0, .raw (d_token_scanner p0)), (21000, .raw [.I 0, .I 0, .str [], .I 0])]⟩)) (Turns.kp (S' := ⟨[(0, .P 0), (2, .P 21000), (4, .I 1)], [(0, .raw (d_token_scanner p0)), (21000, .raw [.I 0, .I 0, .str [], .I 0])]⟩)))) ?_
    obtain rfl := Option.some.inj h
    exact ⟨rfl, _, rfl, rfl⟩
   refine ff (b := (decide (a1 = 93))) (decide_eq_false c12) ?_
   refine sr0 L 252 [] [] [] (S' := ⟨[(0, .P 0), (2, .P 22200), (4, .I 0), (9, .cv (.lit (.int .i32 a1))), (20, .B (decide (a1 = 44)))], [(0, .raw (d_token_scanner p0)), (22200, .raw [.I 0, .I 0, .str [], .I 0])]⟩) ?_
   rcases ite_some h with ⟨c13, h⟩ | ⟨c13, h⟩
   ·refine tt (b := (decide (a1 = 44))) (decide_eq_true c13) ?_
    refine awp_skip' ?_
    refine tt (b := (decide (a1 = 44))) (decide_eq_true c13) ?_
    refine awp_post (ar0 L 279 [] [] [] (S' := ⟨[(0, .P 0), (2, .P 22200), (4, .I 1)], [(0, .raw (d_token_scanner p0)), (22200, .raw [.I 0, .I 0, .str [], .I 0])]⟩) ⟨rfl, rfl⟩) (Turns.trans (Turns.kp (S' := ⟨[(0, .P 0), (2, .P 22200), (4, .I 1)], [(0, .raw (d_token_scanner p0)), (22200, .raw [.I 0, .I 0, .str [], .I 0])]⟩)) (Turns.trans (Turns.rn [(0, 0), (22200, 21000)] (S' := ⟨[(0, .P 0), (2, .P 21000), (4, .I 1)], [(0, .raw (d_token_scanner p0)), (21000, .raw [.I 0, .I 0, .str [], .I 0])]⟩)) (Turns.kp (S' := ⟨[(0, .P 0), (2, .P 21000), (4, .I 1)], [(0, .raw (d_token_scanner p0)), (21000, .raw [.I 0, .I 0, .str [], .I 0])]⟩)))) ?_
    obtain rfl := Option.some.inj h
    exact ⟨rfl, _, rfl, rfl⟩
   refine ff (b := (decide (a1 = 44))) (decide_eq_false c13) ?_
   refine sr0 L 255 [] [] [] (S' := ⟨[(0, .P 0), (2, .P 22200), (4, .I 0), (9, .cv (.lit (.int .i32 a1))), (20, .B (decide (a1 = 59)))], [(0, .raw (d_token_scanner p0)), (22200, .raw [.I 0, .I 0, .str [], .I 0])]⟩) ?_
   rcases ite_some h with ⟨c14, h⟩ | ⟨c14, h⟩
   ·refine tt (b := (decide (a1 = 59))) (decide_eq_true c14) ?_
    refine awp_skip' ?_
    refine tt (b := (decide (a1 = 59))) (decide_eq_true c14) ?_
    refine awp_post (ar0 L 279 [] [] [] (S' := ⟨[(0, .P 0), (2, .P 22200), (4, .I 1)], [(0, .raw (d_token_scanner p0)), (22200, .raw [.I 0, .I 0, .str [], .I 0])]⟩) ⟨rfl, rfl⟩) (Turns.trans (Turns.kp (S' := ⟨[(0, .P 0), (2, .P 22200), (4, .I 1)], [(0, .raw (d_token_scanner p0)), (22200, .raw [.I 0, .I 0, .str [], .I 0])]⟩)) (Turns.trans (Turns.rn [(0, 0), (22200, 21000)] (S' := ⟨[(0, .P 0), (2, .P 21000), (4, .I 1)], [(0, .raw (d_token_scanner p0)), (21000, .raw [.I 0, .I 0, .str [], .I 0])]⟩)) (Turns.kp (S' := ⟨[(0, .P 0), (2, .P 21000), (4, .I 1)], [(0, .raw (d_token_scanner p0)), (21000, .raw [.I 0, .I 0, .str [], .I 0])]⟩)))) ?_
    obtain rfl := Option.some.inj h
    exact ⟨rfl, _, rfl, rfl⟩
   refine ff (b := (decide (a1 = 59))) (decide_eq_false c14) ?_
   refine sr0 L 258 [] [] [] (S' := ⟨[(0, .P 0), (2, .P 22200), (4, .I 0), (9, .cv (.lit (.int .i32 a1))), (20, .B (decide (a1 = 46)))], [(0, .raw (d_token_scanner p0)), (22200, .raw [.I 0, .I 0, .str [], .I 0])]⟩) ?_
   rcases ite_some h with ⟨c15, h⟩ | ⟨c15, h⟩
   ·refine tt (b := (decide (a1 = 46))) (decide_eq_true c15) ?_
    refine awp_skip' ?_
    refine tt (b := (decide (a1 = 46))) (decide_eq_true c15) ?_
    refine awp_post (ar0 L 279 [] [] [] (S' := ⟨[(0, .P 0), (2, .P 22200), (4, .I 1)], [(0, .raw (d_token_scanner p0)), (22200, .raw [.I 0, .I 0, .str [], .I 0])]⟩) ⟨rfl, rfl⟩) (Turns.trans (Turns.kp (S' := ⟨[(0, .P 0), (2, .P 22200), (4, .I 1)], [(0, .raw (d_token_scanner p0)), (22200, .raw [.I 0, .I 0, .str [], .I 0])]⟩)) (Turns.trans (Turns.rn [(0, 0), (22200, 21000)] (S' := ⟨[(0, .P 0), (2, .P 21000), (4, .I 1)], [(0, .raw (d_token_scanner p0)), (21000, .raw [.I 0, .I 0, .str [], .I 0])]⟩)) (Turns.kp (S' := ⟨[(0, .P 0), (2, .P 21000), (4, .I 1)], [(0, .raw (d_token_scanner p0)), (21000, .raw [.I 0, .I 0, .str [], .I 0])]⟩)))) ?_
    obtain rfl := Option.some.inj h
    exact ⟨rfl, _, rfl, rfl⟩
   refine ff (b := (decide (a1 = 46))) (decide_eq_false c15) ?_
   refine sr0 L 261 [] [] [] (S' := ⟨[(0, .P 0), (2, .P 22200), (4, .I 0), (9, .cv (.lit (.int .i32 a1))), (20, .B (decide (a1 = 58)))], [(0, .raw (d_token_scanner p0)), (22200, .raw [.I 0, .I 0, .str [], .I 0])]⟩) ?_
   rcases ite_some h with ⟨c16, h⟩ | ⟨c16, h⟩
   ·refine tt (b := (decide (a1 = 58))) (decide_eq_true c16) ?_
    refine awp_skip' ?_
    refine tt (b := (decide (a1 = 58))) (decide_eq_true c16) ?_
    refine awp_post (ar0 L 279 [] [] [] (S' := ⟨[(0, .P 0), (2, .P 22200), (4, .I 1)], [(0, .raw (d_token_scanner p0)), (22200, .raw [.I 0, .I 0, .str [], .I 0])]⟩) ⟨rfl, rfl⟩) (Turns.trans (Turns.kp (S' := ⟨[(0, .P 0), (2, .P 22200), (4, .I 1)], [(0, .raw (d_token_scanner p0)), (22200, .raw [.I 0, .I 0, .str [], .I 0])]⟩)) (Turns.trans (Turns.rn [(0, 0), (22200, 21000)] (S' := ⟨[(0, .P 0), (2, .P 21000), (4, .I 1)], [(0, .raw (d_token_scanner p0)), (21000, .raw [.I 0, .I 0, .str [], .I 0])]⟩)) (Turns.kp (S' := ⟨[(0, .P 0), (2, .P 21000), (4, .I 1)], [(0, .raw (d_token_scanner p0)), (21000, .raw [.I 0, .I 0, .str [], .I 0])]⟩)))) ?_
    obtain rfl := Option.some.inj h
    exact ⟨rfl, _, rfl, rfl⟩
   refine ff (b := (decide (a1 = 58))) (decide_eq_false c16) ?_
   refine sr0 L 264 [] [] [] (S' := ⟨[(0, .P 0), (2, .P 22200), (4, .I 0), (9, .cv (.lit (.int .i32 a1))), (20, .B (decide (a1 = 43)))], [(0, .raw (d_token_scanner p0)), (22200, .raw [.I 0, .I 0, .str [], .I 0])]⟩) ?_
   rcases ite_some h with ⟨c17, h⟩ | ⟨c17, h⟩
   ·refine tt (b := (decide (a1 = 43))) (decide_eq_true c17) ?_
    refine awp_skip' ?_
    refine tt (b := (decide (a1 = 43))) (decide_eq_true c17) ?_
    refine awp_post (ar0 L 279 [] [] [] (S' := ⟨[(0, .P 0), (2, .P 22200), (4, .I 1)], [(0, .raw (d_token_scanner p0)), (22200, .raw [.I 0, .I 0, .str [], .I 0])]⟩) ⟨rfl, rfl⟩) (Turns.trans (Turns.kp (S' := ⟨[(0, .P 0), (2, .P 22200), (4, .I 1)], [(0, .raw (d_token_scanner p0)), (22200, .raw [.I 0, .I 0, .str [], .I 0])]⟩)) (Turns.trans (Turns.rn [(0, 0), (22200, 21000)] (S' := ⟨[(0, .P 0), (2, .P 21000), (4, .I 1)], [(0, .raw (d_token_scanner p0)), (21000, .raw [.I 0, .I 0, .str [], .I 0])]⟩)) (Turns.kp (S' := ⟨[(0, .P 0), (2, .P 21000), (4, .I 1)], [(0, .raw (d_token_scanner p0)), (21000, .raw [.I 0, .I 0, .str [], .I 0])]⟩)))) ?_
    obtain rfl := Option.some.inj h
    exact ⟨rfl, _, rfl, rfl⟩
   refine ff (b := (decide (a1 = 43))) (decide_eq_false c17) ?_
   refine sr0 L 267 [] [] [] (S' := ⟨[(0, .P 0), (2, .P 22200), (4, .I 0), (9, .cv (.lit (.int .i32 a1))), (20, .B (decide (a1 = 45)))], [(0, .raw (d_token_scanner p0)), (22200, .raw [.I 0, .I 0, .str [], .I 0])]⟩) ?_
   rcases ite_some h with ⟨c18, h⟩ | ⟨c18, h⟩
   ·refine tt (b := (decide (a1 = 45))) (decide_eq_true c18) ?_
    refine awp_skip' ?_
    refine tt (b := (decide (a1 = 45))) (decide_eq_true c18) ?_
    refine awp_post (ar0 L 279 [] [] [] (S' := ⟨[(0, .P 0), (2, .P 22200), (4, .I 1)], [(0, .raw (d_token_scanner p0)), (22200, .raw [.I 0, .I 0, .str [], .I 0])]⟩) ⟨rfl, rfl⟩) (Turns.trans (Turns.kp (S' := ⟨[(0, .P 0), (2, .P 22200), (4, .I 1)], [(0, .raw (d_token_scanner p0)), (22200, .raw [.I 0, .I 0, .str [], .I 0])]⟩)) (Turns.trans (Turns.rn [(0, 0), (22200, 21000)] (S' := ⟨[(0, .P 0), (2, .P 21000), (4, .I 1)], [(0, .raw (d_token_scanner p0)), (21000, .raw [.I 0, .I 0, .str [], .I 0])]⟩)) (Turns.kp (S' := ⟨[(0, .P 0), (2, .P 21000), (4, .I 1)], [(0, .raw (d_token_scanner p0)), (21000, .raw [.I 0, .I 0, .str [], .I 0])]⟩)))) ?_
    obtain rfl := Option.some.inj h
    exact ⟨rfl, _, rfl, rfl⟩
   refine ff (b := (decide (a1 = 45))) (decide_eq_false c18) ?_
   refine sr0 L 270 [] [] [] (S' := ⟨[(0, .P 0), (2, .P 22200), (4, .I 0), (9, .cv (.lit (.int .i32 a1))), (20, .B (decide (a1 = 42)))], [(0, .raw (d_token_scanner p0)), (22200, .raw [.I 0, .I 0, .str [], .I 0])]⟩) ?_
   rcases ite_some h with ⟨c19, h⟩ | ⟨c19, h⟩
   ·refine tt (b := (decide (a1 = 42))) (decide_eq_true c19) ?_
    refine awp_skip' ?_
    refine tt (b := (decide (a1 = 42))) (decide_eq_true c19) ?_
    refine awp_post (ar0 L 279 [] [] [] (S' := ⟨[(0, .P 0), (2, .P 22200), (4, .I 1)], [(0, .raw (d_token_scanner p0)), (22200, .raw [.I 0, .I 0, .str [], .I 0])]⟩) ⟨rfl, rfl⟩) (Turns.trans (Turns.kp (S' := ⟨[(0, .P 0), (2, .P 22200), (4, .I 1)], [(0, .raw (d_token_scanner p0)), (22200, .raw [.I 0, .I 0, .str [], .I 0])]⟩)) (Turns.trans (Turns.rn [(0, 0), (22200, 21000)] (S' := ⟨[(0, .P 0), (2, .P 21000), (4, .I 1)], [(0, .raw (d_token_scanner p0)), (21000, .raw [.I 0, .I 0, .str [], .I 0])]⟩)) (Turns.kp (S' := ⟨[(0, .P 0), (2, .P 21000), (4, .I 1)], [(0, .raw (d_token_scanner p0)), (21000, .raw [.I 0, .I 0, .str [], .I 0])]⟩)))) ?_
    obtain rfl := Option.some.inj h
    exact ⟨rfl, _, rfl, rfl⟩
   refine ff (b := (decide (a1 = 42))) (decide_eq_false c19) ?_
   refine sr0 L 273 [] [] [] (S' := ⟨[(0, .P 0), (2, .P 22200), (4, .I 0), (9, .cv (.lit (.int .i32 a1))), (20, .B (decide (a1 = 47)))], [(0, .raw (d_token_scanner p0)), (22200, .raw [.I 0, .I 0, .str [], .I 0])]⟩) ?_
   rcases ite_some h with ⟨c20, h⟩ | ⟨c20, h⟩
   ·refine tt (b := (decide (a1 = 47))) (decide_eq_true c20) ?_
    refine awp_skip' ?_
    refine tt (b := (decide (a1 = 47))) (decide_eq_true c20) ?_
    refine awp_post (ar0 L 279 [] [] [] (S' := ⟨[(0, .P 0), (2, .P 22200), (4, .I 1)], [(0, .raw (d_token_scanner p0)), (22200, .raw [.I 0, .I 0, .str [], .I 0])]⟩) ⟨rfl, rfl⟩) (Turns.trans (Turns.kp (S' := ⟨[(0, .P 0), (2, .P 22200), (4, .I 1)], [(0, .raw (d_token_scanner p0)), (22200, .raw [.I 0, .I 0, .str [], .I 0])]⟩)) (Turns.trans (Turns.rn [(0, 0), (22200, 21000)] (S' := ⟨[(0, .P 0), (2, .P 21000), (4, .I 1)], [(0, .raw (d_token_scanner p0)), (21000, .raw [.I 0, .I 0, .str [], .I 0])]⟩)) (Turns.kp (S' := ⟨[(0, .P 0), (2, .P 21000), (4, .I 1)], [(0, .raw (d_token_scanner p0)), (21000, .raw [.I 0, .I 0, .str [], .I 0])]⟩)))) ?_
    obtain rfl := Option.some.inj h
    exact ⟨rfl, _, rfl, rfl⟩
   refine ff (b := (decide (a1 = 47))) (decide_eq_false c20) ?_
   refine ar0 L 276 [] [] [] (S' := ⟨[(0, .P 0), (2, .P 22200), (4, .I 0), (20, .B (decide (a1 = 37)))], [(0, .raw (d_token_scanner p0)), (22200, .raw [.I 0, .I 0, .str [], .I 0])]⟩) ?_
   rcases ite_some h with ⟨c21, h⟩ | ⟨c21, h⟩
   ·refine tt (b := (decide (a1 = 37))) (decide_eq_true c21) ?_
    refine awp_post (ar0 L 279 [] [] [] (S' := ⟨[(0, .P 0), (2, .P 22200), (4, .I 1)], [(0, .raw (d_token_scanner p0)), (22200, .raw [.I 0, .I 0, .str [], .I 0])]⟩) ⟨rfl, rfl⟩) (Turns.trans (Turns.kp (S' := ⟨[(0, .P 0), (2, .P 22200), (4, .I 1)], [(0, .raw (d_token_scanner p0)), (22200, .raw [.I 0, .I 0, .str [], .I 0])]⟩)) (Turns.trans (Turns.rn [(0, 0), (22200, 21000)] (S' := ⟨[(0, .P 0), (2, .P 21000), (4, .I 1)], [(0, .raw (d_token_scanner p0)), (21000, .raw [.I 0, .I 0, .str [], .I 0])]⟩)) (Turns.kp (S' := ⟨[(0, .P 0), (2, .P 21000), (4, .I 1)], [(0, .raw (d_token_scanner p0)), (21000, .raw [.I 0, .I 0, .str [], .I 0])]⟩)))) ?_
    obtain rfl := Option.some.inj h
    exact ⟨rfl, _, rfl, rfl⟩
   refine ff (b := (decide (a1 = 37))) (decide_eq_false c21) ?_
   refine awp_turn (Turns.trans (Turns.kp (S' := ⟨[(0, .P 0), (2, .P 22200), (4, .I 0)], [(0, .raw (d_token_scanner p0)), (22200, .raw [.I 0, .I 0, .str [], .I 0])]⟩)) (Turns.rn [(0, 0), (22200, 21000)] (S' := ⟨[(0, .P 0), (2, .P 21000), (4, .I 0)], [(0, .raw (d_token_scanner p0)), (21000, .raw [.I 0, .I 0, .str [], .I 0])]⟩))) ?_
   refine sk (S' := ⟨[(0, .P 0), (2, .P 21000), (4, .I 0)], [(0, .raw (d_token_scanner p0)), (21000, .raw [.I 0, .I 0, .str [], .I 0])]⟩) ?_
   obtain rfl := Option.some.inj h
   exact ⟨rfl, _, rfl, rfl⟩
 ·rintro e S ⟨rfl, xt4_5, rfl, rfl⟩
  refine awp_seq ?_
  refine sr0 L 281 [] [] [] (S' := ⟨[(0, .P 0), (2, .P 21000), (4, .I xt4_5), (37, .B (decide (xt4_5 = 0)))], [(0, .raw (d_token_scanner p0)), (21000, .raw [.I 0, .I 0, .str [], .I 0])]⟩) ?_
  rcases ite_some h with ⟨c22, h⟩ | ⟨c22, h⟩
  ·refine tt (b := (decide (xt4_5 = 0))) (decide_eq_true c22) ?_
   refine sr0 L 284 [] [] [] (S' := ⟨[(2, .P 21000), (3, .I 3)], [(0, .raw (d_token_scanner p0)), (21000, .raw [.I 0, .I 0, .str [], .I 0])]⟩) ?_
   refine awp_turn (Turns.rn [(0, 0), (21000, 100)] (S' := ⟨[(2, .P 100), (3, .I 3)], [(0, .raw (d_token_scanner p0)), (100, .raw [.I 0, .I 0, .str [], .I 0])]⟩)) ?_
   refine awp_ret ?_
   obtain rfl := Option.some.inj h
   exact er (.tup [.agg [.I 0, .I 0, .str [], .I 0], .I 3])
  refine ff (b := (decide (xt4_5 = 0))) (decide_eq_false c22) ?_
  refine awp_skip' ?_
  refine awp_seq ?_
  obtain ⟨g1, h⟩ := guard_some h
  refine ad L mixed 288 [] [] [] [] 16 (cs := [(0 : Int) ≤ p0.at_, p0.at_ ≤ (IntKind.i64.wrap (p0.at_ + xt4_5)), (IntKind.i64.wrap (p0.at_ + xt4_5)) ≤ (p0.src.length : Int)]) (S' := ⟨[(0, .P 0), (2, .P 21000), (4, .I xt4_5), (6, .cv (.str (slc p0.src p0.at_ (IntKind.i64.wrap (p0.at_ + xt4_5)))))], [(0, .raw (d_token_scanner p0)), (21000, .raw [.I 0, .I 0, .str [], .I 0])]⟩) (And.intro g1.1 (And.intro g1.2.1 g1.2.2)) ?_
  refine sr0 L 305 [] [] [] (S' := ⟨[(2, .P 21000), (6, .cv (.str (slc p0.src p0.at_ (IntKind.i64.wrap (p0.at_ + xt4_5)))))], [(0, .raw [.str p0.src, .I (IntKind.i64.wrap (p0.at_ + xt4_5))]), (21000, .raw [.I 0, .I 0, .str [], .I 0])]⟩) ?_
  refine sr0 L 315 [] [] [] (S' := ⟨[(2, .P 21000), (3, .I 0)], [(0, .raw [.str p0.src, .I (IntKind.i64.wrap (p0.at_ + xt4_5))]), (21000, .raw [.I 5, .I 0, .str (slc p0.src p0.at_ (IntKind.i64.wrap (p0.at_ + xt4_5))), .I 0])]⟩) ?_
  refine awp_turn (Turns.rn [(0, 0), (21000, 100)] (S' := ⟨[(2, .P 100), (3, .I 0)], [(0, .raw [.str p0.src, .I (IntKind.i64.wrap (p0.at_ + xt4_5))]), (100, .raw [.I 5, .I 0, .str (slc p0.src p0.at_ (IntKind.i64.wrap (p0.at_ + xt4_5))), .I 0])]⟩)) ?_
  refine awp_ret ?_
  obtain rfl := Option.some.inj h
  exact er (.tup [.agg [.I 5, .I 0, .str (slc p0.src p0.at_ (IntKind.i64.wrap (p0.at_ + xt4_5))), .I 0], .I 0])
theorem token_scanner_sign_v2.okE {K : Nat} {p0 : token_scanner} {r : api_Token × Int × token_scanner} (h : token_scanner_sign_v2 K p0 = some r) : ECall V P 40 [.P 0] [(0, .raw (d_token_scanner p0))] [0] (.tup [.agg [.I r.1.Kind, .I r.1.At, .str r.1.Text, .I r.1.Int], .I r.2.1]) [(0, .raw [.str r.2.2.src, .I r.2.2.at_])] :=
 eo (fn := Tryd.f40) (n := 64) (m := 100) fun Γ => token_scanner_sign_v2.body h
def token_scanner_next_v2 (K : Nat) (p0 : token_scanner) : Option (api_Token × Int × token_scanner) := (Option.bind (token_scanner_peek K p0 0) (fun a1 => (Option.bind (token_letter K a1) (fun a2 => (if a2 = true then (Option.bind (token_scanner_word_v2 K p0) (fun (a3_0, a3_1, a3_2) => some (a3_0, a3_1, a3_2))) else (Option.bind (token_digit K a1) (fun a4 => (if a4 = true then (Option.bind (token_scanner_number_v2 K p0) (fun (a5_0, a5_1, a5_2) => some (a5_0, a5_1, a5_2))) else (if a1 = 34 then (Option.bind (token_scanner_text_v2 K p0) (fun (a6_0, a6_1, a6_2) => some (a6_0, a6_1, a6_2))) else (Option.bind (token_scanner_sign_v2 K p0) (fun (a7_0, a7_1, a7_2) => some (a7_0, a7_1, a7_2))))))))))))
theorem token_scanner_next_v2.body {Γ : Ent} {K : Nat} {p0 : token_scanner} {r : api_Token × Int × token_scanner} (h : token_scanner_next_v2 K p0 = some r) : AWp V P 32 100 Γ (Tryd.f23.body.getD .skip) (EndsE P V Tryd.f23 (.tup [.agg [.I r.1.Kind, .I r.1.At, .str r.1.Text, .I r.1.Int], .I r.2.1]) [(0, .raw [.str r.2.2.src, .I r.2.2.at_])]) ⟨args0 0 [.P 0], [(0, .raw (d_token_scanner p0))]⟩ := by
 unfold token_scanner_next_v2 at h
 refine sr0 L 200 [] [] [] (S' := ⟨[(0, .P 0), (2, .P 200)], [(0, .raw (d_token_scanner p0)), (200, .raw [.I 0, .I 0, .str [], .I 0])]⟩) ?_
 refine awp_seq ?_
 refine awp_seq ?_
 obtain ⟨a1, h1, h⟩ := bind_some h
 refine ar L 203 [] [(1, .cv (.lit (.int .i32 a1)))] [] (cs := [PCall V P 34 [.cv (.pcs (d_token_scanner p0) 0), .I 0] (.cv (.lit (.int .i32 a1))), True]) (S' := ⟨[(0, .P 0), (2, .P 200), (4, .cv (.lit (.int .i32 a1)))], [(0, .raw (d_token_scanner p0)), (200, .raw [.I 0, .I 0, .str [], .I 0])]⟩) (And.intro (token_scanner_peek.ok h1) trivial) ?_
 refine awp_block ?_
 refine awp_seq ?_
 obtain ⟨a2, h2, h⟩ := bind_some h
 refine ar L 207 [] [(1, .B a2)] [] (cs := [PCall V P 35 [.cv (.lit (.int .i32 a1))] (.B a2), True]) (S' := ⟨[(0, .P 0), (2, .P 200), (4, .cv (.lit (.int .i32 a1))), (7, .B a2)], [(0, .raw (d_token_scanner p0)), (200, .raw [.I 0, .I 0, .str [], .I 0])]⟩) (And.intro (token_letter.ok h2) trivial) ?_
 rcases ite_some h with ⟨c1, h⟩ | ⟨c1, h⟩
 ·refine tt (b := a2) (c1) ?_
  refine awp_seq ?_
  obtain ⟨⟨a3_0, a3_1, a3_2⟩, h3, h⟩ := bind_some h
  dsimp only at h
  refine ar L 211 [] [] [(1, { hids := [0], fx := [0], r := .tup [.agg (d_api_Token a3_0), .I a3_1], H' := [(0, .raw (d_token_scanner a3_2))], σ := [(0, 0)] })] (cs := [ECall V P 36 [.P 0] [(0, .raw (d_token_scanner p0))] [0] (.tup [.agg (d_api_Token a3_0), .I a3_1]) [(0, .raw (d_token_scanner a3_2))]]) (S' := ⟨[(2, .P 200), (3, .I a3_1)], [(0, .raw (d_token_scanner a3_2)), (200, .raw (d_api_Token a3_0))]⟩) (token_scanner_word_v2.okE h3) ?_
  refine awp_turn (Turns.rn [(0, 0), (200, 100)] (S' := ⟨[(2, .P 100), (3, .I a3_1)], [(0, .raw (d_token_scanner a3_2)), (100, .raw (d_api_Token a3_0))]⟩)) ?_
  refine awp_ret ?_
  obtain rfl := Option.some.inj h
  exact er (.tup [.agg (d_api_Token a3_0), .I a3_1])
 refine ff (b := a2) (eq_false_of_ne_true c1) ?_
 refine awp_seq ?_
 obtain ⟨a4, h4, h⟩ := bind_some h
 refine ar L 218 [] [(1, .B a4)] [] (cs := [PCall V P 37 [.cv (.lit (.int .i32 a1))] (.B a4), True]) (S' := ⟨[(0, .P 0), (2, .P 200), (4, .cv (.lit (.int .i32 a1))), (14, .B a4)], [(0, .raw (d_token_scanner p0)), (200, .raw [.I 0, .I 0, .str [], .I 0])]⟩) (And.intro (token_digit.ok h4) trivial) ?_
 rcases ite_some h with ⟨c2, h⟩ | ⟨c2, h⟩
 ·refine tt (b := a4) (c2) ?_
  refine awp_seq ?_
  obtain ⟨⟨a5_0, a5_1, a5_2⟩, h5, h⟩ := bind_some h
  dsimp only at h
  refine ar L 222 [] [] [(1, { hids := [0], fx := [0], r := .tup [.agg [.I a5_0.Kind, .I a5_0.At, .str a5_0.Text, .I a5_0.Int], .I a5_1], H' := [(0, .raw [.str a5_2.src, .I a5_2.at_])], σ := [(0, 0)] })] (cs := [ECall V P 38 [.P 0] [(0, .raw (d_token_scanner p0))] [0] (.tup [.agg [.I a5_0.Kind, .I a5_0.At, .str a5_0.Text, .I a5_0.Int], .I a5_1]) [(0, .raw [.str a5_2.src, .I a5_2.at_])]]) (S' := ⟨[(2, .P 200), (3, .I a5_1)], [(0, .raw [.str a5_2.src, .I a5_2.at_]), (200, .raw [.I a5_0.Kind, .I a5_0.At, .str a5_0.Text, .I a5_0.Int])]⟩) (token_scanner_number_v2.okE h5) ?_
  refine awp_turn (Turns.rn [(0, 0), (200, 100)] (S' := ⟨[(2, .P 100), (3, .I a5_1)], [(0, .raw [.str a5_2.src, .I a5_2.at_]), (100, .raw [.I a5_0.Kind, .I a5_0.At, .str a5_0.Text, .I a5_0.Int])]⟩)) ?_
  refine awp_ret ?_
  obtain rfl := Option.some.inj h
  exact er (.tup [.agg [.I a5_0.Kind, .I a5_0.At, .str a5_0.Text, .I a5_0.Int], .I a5_1])
 refine ff (b := a4) (eq_false_of_ne_true c2) ?_
 refine sr0 L 229 [] [] [] (S' := ⟨[(0, .P 0), (2, .P 200), (21, .B (decide (a1 = 34)))], [(0, .raw (d_token_scanner p0)), (200, .raw [.I 0, .I 0, .str [], .I 0])]⟩) ?_
 rcases ite_some h with ⟨c3, h⟩ | ⟨c3, h⟩
 ·refine tt (b := (decide (a1 = 34))) (decide_eq_true c3) ?_
  refine awp_seq ?_
  obtain ⟨⟨a6_0, a6_1, a6_2⟩, h6, h⟩ := bind_some h
  dsimp only at h
  refine ar L 233 [] [] [(1, { hids := [0], fx := [0], r := .tup [.agg [.I a6_0.Kind, .I a6_0.At, .str a6_0.Text, .I a6_0.Int], .I a6_1], H' := [(0, .raw [.str a6_2.src, .I a6_2.at_])], σ := [(0, 0)] })] (cs := [ECall V P 39 [.P 0] [(0, .raw (d_token_scanner p0))] [0] (.tup [.agg [.I a6_0.Kind, .I a6_0.At, .str a6_0.Text, .I a6_0.Int], .I a6_1]) [(0, .raw [.str a6_2.src, .I a6_2.at_])]]) (S' := ⟨[(2, .P 200), (3, .I a6_1)], [(0, .raw [.str a6_2.src, .I a6_2.at_]), (200, .raw [.I a6_0.Kind, .I a6_0.At, .str a6_0.Text, .I a6_0.Int])]⟩) (token_scanner_text_v2.okE h6) ?_
  refine awp_turn (Turns.rn [(0, 0), (200, 100)] (S' := ⟨[(2, .P 100), (3, .I a6_1)], [(0, .raw [.str a6_2.src, .I a6_2.at_]), (100, .raw [.I a6_0.Kind, .I a6_0.At, .str a6_0.Text, .I a6_0.Int])]⟩)) ?_
  refine awp_ret ?_
  obtain rfl := Option.some.inj h
  exact er (.tup [.agg [.I a6_0.Kind, .I a6_0.At, .str a6_0.Text, .I a6_0.Int], .I a6_1])
 refine ff (b := (decide (a1 = 34))) (decide_eq_false c3) ?_
 refine awp_skip' ?_
 refine awp_seq ?_
 obtain ⟨⟨a7_0, a7_1, a7_2⟩, h7, h⟩ := bind_some h
 dsimp only at h
 refine ar L 240 [] [] [(1, { hids := [0], fx := [0], r := .tup [.agg [.I a7_0.Kind, .I a7_0.At, .str a7_0.Text, .I a7_0.Int], .I a7_1], H' := [(0, .raw [.str a7_2.src, .I a7_2.at_])], σ := [(0, 0)] })] (cs := [ECall V P 40 [.P 0] [(0, .raw (d_token_scanner p0))] [0] (.tup [.agg [.I a7_0.Kind, .I a7_0.At, .str a7_0.Text, .I a7_0.Int], .I a7_1]) [(0, .raw [.str a7_2.src, .I a7_2.at_])]]) (S' := ⟨[(2, .P 200), (3, .I a7_1)], [(0, .raw [.str a7_2.src, .I a7_2.at_]), (200, .raw [.I a7_0.Kind, .I a7_0.At, .str a7_0.Text, .I a7_0.Int])]⟩) (token_scanner_sign_v2.okE h7) ?_
 refine awp_turn (Turns.rn [(0, 0), (200, 100)] (S' := ⟨[(2, .P 100), (3, .I a7_1)], [(0, .raw [.str a7_2.src, .I a7_2.at_]), (100, .raw [.I a7_0.Kind, .I a7_0.At, .str a7_0.Text, .I a7_0.Int])]⟩)) ?_
 refine awp_ret ?_
 obtain rfl := Option.some.inj h
 exact er (.tup [.agg [.I a7_0.Kind, .I a7_0.At, .str a7_0.Text, .I a7_0.Int], .I a7_1])
theorem token_scanner_next_v2.okE {K : Nat} {p0 : token_scanner} {r : api_Token × Int × token_scanner} (h : token_scanner_next_v2 K p0 = some r) : ECall V P 23 [.P 0] [(0, .raw (d_token_scanner p0))] [0] (.tup [.agg [.I r.1.Kind, .I r.1.At, .str r.1.Text, .I r.1.Int], .I r.2.1]) [(0, .raw [.str r.2.2.src, .I r.2.2.at_])] :=
 eo (fn := Tryd.f23) (n := 32) (m := 100) fun Γ => token_scanner_next_v2.body h
def token_Scan.l16 (K : Nat) (p0 : List UInt8) : Nat → (List UInt8) → Int → (List api_Token) → Option (Out ((List api_Token) × Int × Int) Unit)
 | 0, _, _, _ => none
 | k + 1, x23300_0, x23300_1, x23301 => (Option.bind (token_scanner_while_v2 K (⟨x23300_0, x23300_1⟩ : token_scanner)) (fun (a1_0, a1_1) => (if a1_1.at_ ≥ (p0.length : Int) then (if (x23301.length + ([(⟨0, a1_1.at_, [], 0⟩ : api_Token)] : List api_Token).length) * 40 ≤ 140737488355328 then some (Out.done ((x23301 ++ ([(⟨0, a1_1.at_, [], 0⟩ : api_Token)] : List api_Token)), 0, 0)) else none) else (Option.bind (token_scanner_next_v2 K a1_1) (fun (a2_0, a2_1, a2_2) => (if a2_1 ≠ 0 then some (Out.done (([] : List api_Token), a1_1.at_, a2_1)) else (if (x23301.length + ([(⟨a2_0.Kind, a1_1.at_, a2_0.Text, a2_0.Int⟩ : api_Token)] : List api_Token).length) * 40 ≤ 140737488355328 then token_Scan.l16 K p0 k a2_2.src a2_2.at_ (x23301 ++ ([(⟨a2_0.Kind, a1_1.at_, a2_0.Text, a2_0.Int⟩ : api_Token)] : List api_Token)) else none)))))))
def token_Scan (K : Nat) (p0 : List UInt8) : Option ((List api_Token) × Int × Int) := (if (p0.length : Int) > 16384 then some (([] : List api_Token), 0, 6) else (obind (token_Scan.l16 K p0 K p0 0 ([] : List api_Token) : Option (Out ((List api_Token) × Int × Int) Unit)) (fun r => r) (fun _ => none)))
theorem token_Scan.body {Γ : Ent} {K : Nat} {p0 : List UInt8} {r : (List api_Token) × Int × Int} (h : token_Scan K p0 = some r) : AWp V P 46 100 Γ (Tryd.f11.body.getD .skip) (EndsE P V Tryd.f11 (.tup [.cv (.ro .t_api_Token r.1), .I r.2.1, .I r.2.2]) []) ⟨args0 0 [.cv (.str p0)], []⟩ := by
 unfold token_Scan at h
 refine sr0 L 200 [] [] [] (S' := ⟨[(0, .cv (.str p0))], []⟩) ?_
 refine awp_seq ?_
 refine sr0 L 204 [] [] [] (S' := ⟨[(0, .cv (.str p0)), (12, .B (decide ((p0.length : Int) > 16384)))], []⟩) ?_
 rcases ite_some h with ⟨c1, h⟩ | ⟨c1, h⟩
 ·refine tt (b := (decide ((p0.length : Int) > 16384))) (decide_eq_true c1) ?_
  refine sr0 L 208 [] [] [] (S' := ⟨[(2, .N), (3, .I 0), (4, .I 6)], []⟩) ?_
  refine awp_ret ?_
  obtain rfl := Option.some.inj h
  exact er (.tup [.N, .I 0, .I 6])
 refine ff (b := (decide ((p0.length : Int) > 16384))) (decide_eq_false c1) ?_
 refine awp_skip' ?_
 refine sr0 L 212 [] [] [] (S' := ⟨[(0, .cv (.str p0)), (5, .P 214)], [(214, .raw [.str p0, .I 0])]⟩) ?_
 refine sr0 L 217 [] [] [] (S' := ⟨[(0, .cv (.str p0)), (5, .P 214), (6, .N)], [(214, .raw [.str p0, .I 0])]⟩) ?_
 refine awp_block ?_
 refine awp_turn (Turns.trans (Turns.kp (S' := ⟨[(0, .cv (.str p0)), (5, .P 214), (6, .N)], [(214, .raw [.str p0, .I 0])]⟩)) (Turns.trans (Turns.nilown 6 9500 Tag.t_api_Token (by kernel_rfl) (by kernel_rfl) (S' := ⟨[(6, .cv (.own .t_api_Token 9500)), (0, .cv (.str p0)), (5, .P 214)], [(9500, .lst .t_api_Token ([] : List api_Token)), (214, .raw [.str p0, .I 0])]⟩) (by kernel_rfl)) (Turns.trans (Turns.kp (S' := ⟨[(0, .cv (.str p0)), (5, .P 214), (6, .cv (.own .t_api_Token 9500))], [(214, .raw [.str p0, .I 0]), (9500, .lst .t_api_Token ([] : List api_Token))]⟩)) (Turns.rn [(214, 23300), (9500, 23301)] (S' := ⟨[(0, .cv (.str p0)), (5, .P 23300), (6, .cv (.own .t_api_Token 23301))], [(23300, .raw [.str p0, .I 0]), (23301, .lst .t_api_Token ([] : List api_Token))]⟩))))) ?_
 refine kp (S' := ⟨[(0, .cv (.str p0)), (5, .P 23300), (6, .cv (.own .t_api_Token 23301))], [(23300, .raw [.str p0, .I 0]), (23301, .lst .t_api_Token ([] : List api_Token))]⟩) ?_
 obtain ⟨o1, hp1, h⟩ := obind_some h
 refine awp_conseq (Q' := fun e S => False ∨ (e = .ret ∧ ∃ a, Out.done a = o1 ∧ EndsE P V Tryd.f11 (.tup [.cv (.ro .t_api_Token a.1), .I a.2.1, .I a.2.2]) [] .ret S)) (awp_loop (fun k S => ∃ x23300_0 : List UInt8, ∃ x23300_1 : Int, ∃ x23301 : List api_Token, S = ⟨[(0, .cv (.str p0)), (5, .P 23300), (6, .cv (.own .t_api_Token 23301))], [(23300, .raw [.str x23300_0, .I x23300_1]), (23301, .lst .t_api_Token x23301)]⟩ ∧ token_Scan.l16 K p0 k x23300_0 x23300_1 x23301 = some o1) ?_ ⟨_, _, _, rfl, hp1⟩) ?_
 ·clear h hp1
  intro k S hS
  obtain ⟨x23300_0, x23300_1, x23301, rfl, h⟩ := hS
  cases k with
  | zero => cases h
  | succ k =>
  unfold token_Scan.l16 at h
  refine awp_block ?_
  refine awp_seq ?_
  obtain ⟨⟨a1_0, a1_1⟩, h1, h⟩ := bind_some h
  dsimp only at h
  refine ar L 219 [] [] [(1, { hids := [0], fx := [0], r := .cv (.str a1_0), H' := [(0, .raw (d_token_scanner a1_1))], σ := [(0, 23300)] })] (cs := [ECall V P 21 [.P 0, .cv (.fn (.func 22) [] [])] [(0, .raw [.str x23300_0, .I x23300_1])] [0] (.cv (.str a1_0)) [(0, .raw (d_token_scanner a1_1))]]) (S' := ⟨[(0, .cv (.str p0)), (5, .P 23300), (6, .cv (.own .t_api_Token 23301))], [(23300, .raw (d_token_scanner a1_1)), (23301, .lst .t_api_Token x23301)]⟩) (token_scanner_while_v2.okE h1) ?_
  refine sr0 L 222 [] [] [] (S' := ⟨[(0, .cv (.str p0)), (5, .P 23300), (6, .cv (.own .t_api_Token 23301)), (7, .I a1_1.at_)], [(23300, .raw (d_token_scanner a1_1)), (23301, .lst .t_api_Token x23301)]⟩) ?_
  refine awp_seq ?_
  refine sr0 L 228 [] [] [] (S' := ⟨[(0, .cv (.str p0)), (5, .P 23300), (6, .cv (.own .t_api_Token 23301)), (7, .I a1_1.at_), (25, .B (decide (a1_1.at_ ≥ (p0.length : Int))))], [(23300, .raw (d_token_scanner a1_1)), (23301, .lst .t_api_Token x23301)]⟩) ?_
  rcases ite_some h with ⟨c2, h⟩ | ⟨c2, h⟩
  ·refine tt (b := (decide (a1_1.at_ ≥ (p0.length : Int)))) (decide_eq_true c2) ?_
   refine awp_seq ?_
   obtain ⟨g1, h⟩ := guard_some h
   refine ar L 233 [] [] [] (cs := [(x23301.length + ([(⟨0, a1_1.at_, [], 0⟩ : api_Token)] : List api_Token).length) * 40 ≤ 140737488355328, True]) (S' := ⟨[(2, .cv (.own .t_api_Token 23301)), (3, .I 0), (4, .I 0)], [(23301, .lst .t_api_Token (x23301 ++ ([(⟨0, a1_1.at_, [], 0⟩ : api_Token)] : List api_Token)))]⟩) (And.intro g1 trivial) ?_
   refine awp_turn (Turns.frz 23301 (blk0 := .lst .t_api_Token (x23301 ++ ([(⟨0, a1_1.at_, [], 0⟩ : api_Token)] : List api_Token))) (by kernel_rfl) (by kernel_rfl) (S' := ⟨[(2, .cv (.ro .t_api_Token (x23301 ++ ([(⟨0, a1_1.at_, [], 0⟩ : api_Token)] : List api_Token)))), (3, .I 0), (4, .I 0)], []⟩) (by kernel_rfl)) ?_
   refine awp_ret ?_
   obtain rfl := Option.some.inj h
   exact .inr ⟨rfl, _, rfl, er (.tup [.cv (.ro .t_api_Token (x23301 ++ ([(⟨0, a1_1.at_, [], 0⟩ : api_Token)] : List api_Token))), .I 0, .I 0])⟩
  refine ff (b := (decide (a1_1.at_ ≥ (p0.length : Int)))) (decide_eq_false c2) ?_
  refine awp_skip' ?_
  refine awp_seq ?_
  obtain ⟨⟨a2_0, a2_1, a2_2⟩, h2, h⟩ := bind_some h
  dsimp only at h
  refine ar L 242 [] [] [(1, { hids := [0], fx := [0], r := .tup [.agg (d_api_Token a2_0), .I a2_1], H' := [(0, .raw (d_token_scanner a2_2))], σ := [(0, 23300)] })] (cs := [ECall V P 23 [.P 0] [(0, .raw (d_token_scanner a1_1))] [0] (.tup [.agg (d_api_Token a2_0), .I a2_1]) [(0, .raw (d_token_scanner a2_2))]]) (S' := ⟨[(0, .cv (.str p0)), (5, .P 23300), (6, .cv (.own .t_api_Token 23301)), (7, .I a1_1.at_), (8, .P 247), (9, .I a2_1)], [(247, .raw (d_api_Token a2_0)), (23300, .raw (d_token_scanner a2_2)), (23301, .lst .t_api_Token x23301)]⟩) (token_scanner_next_v2.okE h2) ?_
  refine awp_seq ?_
  refine sr0 L 251 [] [] [] (S' := ⟨[(0, .cv (.str p0)), (5, .P 23300), (6, .cv (.own .t_api_Token 23301)), (7, .I a1_1.at_), (8, .P 247), (9, .I a2_1), (37, .B (decide (a2_1 ≠ 0)))], [(247, .raw (d_api_Token a2_0)), (23300, .raw (d_token_scanner a2_2)), (23301, .lst .t_api_Token x23301)]⟩) ?_
  rcases ite_some h with ⟨c3, h⟩ | ⟨c3, h⟩
  ·refine tt (b := (decide (a2_1 ≠ 0))) (decide_eq_true c3) ?_
   refine sr0 L 254 [] [] [] (S' := ⟨[(2, .N), (3, .I a1_1.at_), (4, .I a2_1)], []⟩) ?_
   refine awp_ret ?_
   obtain rfl := Option.some.inj h
   exact .inr ⟨rfl, _, rfl, er (.tup [.N, .I a1_1.at_, .I a2_1])⟩
  refine ff (b := (decide (a2_1 ≠ 0))) (decide_eq_false c3) ?_
  refine awp_skip' ?_
  refine sr0 L 260 [] [] [] (S' := ⟨[(0, .cv (.str p0)), (5, .P 23300), (6, .cv (.own .t_api_Token 23301)), (8, .P 247)], [(247, .raw [.I a2_0.Kind, .I a1_1.at_, .str a2_0.Text, .I a2_0.Int]), (23300, .raw (d_token_scanner a2_2)), (23301, .lst .t_api_Token x23301)]⟩) ?_
  obtain ⟨g2, h⟩ := guard_some h
  refine ar L 264 [] [] [] (cs := [(x23301.length + ([(⟨a2_0.Kind, a1_1.at_, a2_0.Text, a2_0.Int⟩ : api_Token)] : List api_Token).length) * 40 ≤ 140737488355328, True]) (S' := ⟨[(0, .cv (.str p0)), (5, .P 23300), (6, .cv (.own .t_api_Token 23301))], [(23300, .raw (d_token_scanner a2_2)), (23301, .lst .t_api_Token (x23301 ++ ([(⟨a2_0.Kind, a1_1.at_, a2_0.Text, a2_0.Int⟩ : api_Token)] : List api_Token)))]⟩) (And.intro g2 trivial) ?_
  exact ⟨k, Nat.lt_succ_self k, _, _, _, rfl, h⟩
 ·rintro e S (hf | ⟨rfl, a, rfl, hr⟩)
  ·exact hf.elim
  ·rcases h with ⟨_, e1, h⟩ | ⟨_, e1, h⟩
   ·have e2 := Out.done.inj e1
    subst e2
    subst h
    exact ⟨_, Turns.refl, hr⟩
   ·cases e1
theorem token_Scan.ok {K : Nat} {p0 : List UInt8} {r : (List api_Token) × Int × Int} (h : token_Scan K p0 = some r) : PCall V P 11 [.cv (.str p0)] (.tup [.cv (.ro .t_api_Token r.1), .I r.2.1, .I r.2.2]) := ECall.pcall (eo (fn := Tryd.f11) (n := 46) (m := 100) fun Γ => token_Scan.body h) (by kernel_rfl)
def workflowlaw07_equal.l15 (K : Nat) (p0 : List api_Token) (p1 : List api_Token) : Nat → Int → Option (Out Bool Unit)
 | 0, _ => none
 | k + 1, xt13_15h => (if xt13_15h < (p0.length : Int) then (if (0 : Int) ≤ xt13_15h ∧ (xt13_15h : Int) < (p0.length : Int) then (if (xt13_15h : Int) < (p1.length : Int) then (if ((!((decide ((p0.getD (Int.toNat xt13_15h) z_api_Token).Kind = (p1.getD (Int.toNat xt13_15h) z_api_Token).Kind)) && ((decide ((p0.getD (Int.toNat xt13_15h) z_api_Token).At = (p1.getD (Int.toNat xt13_15h) z_api_Token).At)) && ((decide ((p0.getD (Int.toNat xt13_15h) z_api_Token).Text = (p1.getD (Int.toNat xt13_15h) z_api_Token).Text)) && ((decide ((p0.getD (Int.toNat xt13_15h) z_api_Token).Int = (p1.getD (Int.toNat xt13_15h) z_api_Token).Int)) && true)))))) = true then some (Out.done false) else workflowlaw07_equal.l15 K p0 p1 k (IntKind.i64.wrap (xt13_15h + 1))) else none) else none) else some (Out.go ()))
def workflowlaw07_equal (K : Nat) (p0 : List api_Token) (p1 : List api_Token) : Option Bool := (if (p0.length : Int) ≠ (p1.length : Int) then some false else (obind (workflowlaw07_equal.l15 K p0 p1 K 0 : Option (Out Bool Unit)) (fun r => r) (fun _ => some true)))
theorem workflowlaw07_equal.body {Γ : Ent} {K : Nat} {p0 : List api_Token} {p1 : List api_Token} {r : Bool} (h : workflowlaw07_equal K p0 p1 = some r) : AWp V P 26 100 Γ (Tryd.f13.body.getD .skip) (EndsE P V Tryd.f13 (.B r) []) ⟨args0 0 [.cv (.ro .t_api_Token p0), .cv (.ro .t_api_Token p1)], []⟩ := by
 unfold workflowlaw07_equal at h
 refine sr0 L 200 [] [] [] (S' := ⟨[(0, .cv (.ro .t_api_Token p0)), (1, .cv (.ro .t_api_Token p1))], []⟩) ?_
 refine awp_seq ?_
 refine sr0 L 202 [] [] [] (S' := ⟨[(0, .cv (.ro .t_api_Token p0)), (1, .cv (.ro .t_api_Token p1)), (10, .B (decide ((p0.length : Int) ≠ (p1.length : Int))))], []⟩) ?_
 rcases ite_some h with ⟨c1, h⟩ | ⟨c1, h⟩
 ·refine tt (b := (decide ((p0.length : Int) ≠ (p1.length : Int)))) (decide_eq_true c1) ?_
  refine sr0 L 208 [] [] [] (S' := ⟨[(4, .B false)], []⟩) ?_
  refine awp_ret ?_
  obtain rfl := Option.some.inj h
  exact er (.B false)
 refine ff (b := (decide ((p0.length : Int) ≠ (p1.length : Int)))) (decide_eq_false c1) ?_
 refine awp_skip' ?_
 refine awp_seq ?_
 refine sr0 L 210 [] [] [] (S' := ⟨[(0, .cv (.ro .t_api_Token p0)), (1, .cv (.ro .t_api_Token p1)), (12, .I (p0.length : Int)), (13, .I 0)], []⟩) ?_
 refine awp_block ?_
 refine kp (S' := ⟨[(0, .cv (.ro .t_api_Token p0)), (1, .cv (.ro .t_api_Token p1)), (12, .I (p0.length : Int)), (13, .I 0)], []⟩) ?_
 obtain ⟨o1, hp1, h⟩ := obind_some h
 refine awp_conseq (Q' := fun e S => (e = .exit 0 ∧ S = ⟨[], []⟩ ∧ Out.go () = o1) ∨ (e = .ret ∧ ∃ a, Out.done a = o1 ∧ EndsE P V Tryd.f13 (.B a) [] .ret S)) (awp_loop (fun k S => ∃ xt13_15h : Int, S = ⟨[(0, .cv (.ro .t_api_Token p0)), (1, .cv (.ro .t_api_Token p1)), (12, .I (p0.length : Int)), (13, .I xt13_15h)], []⟩ ∧ workflowlaw07_equal.l15 K p0 p1 k xt13_15h = some o1) ?_ ⟨_, rfl, hp1⟩) ?_
 ·clear h hp1
  intro k S hS
  obtain ⟨xt13_15h, rfl, h⟩ := hS
  cases k with
  | zero => cases h
  | succ k =>
  unfold workflowlaw07_equal.l15 at h
  refine sr0 L 214 [] [] [] (S' := ⟨[(0, .cv (.ro .t_api_Token p0)), (1, .cv (.ro .t_api_Token p1)), (12, .I (p0.length : Int)), (13, .I xt13_15h), (14, .B (decide (xt13_15h < (p0.length : Int))))], []⟩) ?_
  refine awp_seq ?_
  rcases ite_some h with ⟨c2, h⟩ | ⟨c2, h⟩
  ·refine tt (b := (decide (xt13_15h < (p0.length : Int)))) (decide_eq_true c2) ?_
   refine awp_skip' ?_
   refine awp_seq ?_
   refine awp_block ?_
   refine sr0 L 216 [] [] [] (S' := ⟨[(0, .cv (.ro .t_api_Token p0)), (1, .cv (.ro .t_api_Token p1)), (5, .I xt13_15h), (12, .I (p0.length : Int)), (13, .I xt13_15h)], []⟩) ?_
   refine awp_seq ?_
   obtain ⟨g1, h⟩ := guard_some h
   obtain ⟨g2, h⟩ := guard_some h
   refine ad L mixed 219 [] [] [] [] 9 (cs := [(0 : Int) ≤ xt13_15h, (xt13_15h : Int) < (p0.length : Int), (0 : Int) ≤ xt13_15h, (xt13_15h : Int) < (p1.length : Int)]) (S' := ⟨[(0, .cv (.ro .t_api_Token p0)), (1, .cv (.ro .t_api_Token p1)), (12, .I (p0.length : Int)), (13, .I xt13_15h), (24, .B ((!((decide ((p0.getD (Int.toNat xt13_15h) z_api_Token).Kind = (p1.getD (Int.toNat xt13_15h) z_api_Token).Kind)) && ((decide ((p0.getD (Int.toNat xt13_15h) z_api_Token).At = (p1.getD (Int.toNat xt13_15h) z_api_Token).At)) && ((decide ((p0.getD (Int.toNat xt13_15h) z_api_Token).Text = (p1.getD (Int.toNat xt13_15h) z_api_Token).Text)) && ((decide ((p0.getD (Int.toNat xt13_15h) z_api_Token).Int = (p1.getD (Int.toNat xt13_15h) z_api_Token).Int)) && true)))))))], []⟩) (And.intro g1.1 (And.intro g1.2 (And.intro g1.1 g2))) ?_
   rcases ite_some h with ⟨c3, h⟩ | ⟨c3, h⟩
   ·refine tt (b := (!((decide ((p0.getD (Int.toNat xt13_15h) z_api_Token).Kind = (p1.getD (Int.toNat xt13_15h) z_api_Token).Kind)) && ((decide ((p0.getD (Int.toNat xt13_15h) z_api_Token).At = (p1.getD (Int.toNat xt13_15h) z_api_Token).At)) && ((decide ((p0.getD (Int.toNat xt13_15h) z_api_Token).Text = (p1.getD (Int.toNat xt13_15h) z_api_Token).Text)) && ((decide ((p0.getD (Int.toNat xt13_15h) z_api_Token).Int = (p1.getD (Int.toNat xt13_15h) z_api_Token).Int)) && true)))))) (c3) ?_
    refine sr0 L 229 [] [] [] (S' := ⟨[(4, .B false)], []⟩) ?_
    refine awp_ret ?_
    obtain rfl := Option.some.inj h
    exact .inr ⟨rfl, _, rfl, er (.B false)⟩
   refine ff (b := (!((decide ((p0.getD (Int.toNat xt13_15h) z_api_Token).Kind = (p1.getD (Int.toNat xt13_15h) z_api_Token).Kind)) && ((decide ((p0.getD (Int.toNat xt13_15h) z_api_Token).At = (p1.getD (Int.toNat xt13_15h) z_api_Token).At)) && ((decide ((p0.getD (Int.toNat xt13_15h) z_api_Token).Text = (p1.getD (Int.toNat xt13_15h) z_api_Token).Text)) && ((decide ((p0.getD (Int.toNat xt13_15h) z_api_Token).Int = (p1.getD (Int.toNat xt13_15h) z_api_Token).Int)) && true)))))) (eq_false_of_ne_true c3) ?_
   refine awp_skip' ?_
   refine ar0 L 231 [] [] [] (S' := ⟨[(0, .cv (.ro .t_api_Token p0)), (1, .cv (.ro .t_api_Token p1)), (12, .I (p0.length : Int)), (13, .I (IntKind.i64.wrap (xt13_15h + 1)))], []⟩) ?_
   exact ⟨k, Nat.lt_succ_self k, _, rfl, h⟩
  refine ff (b := (decide (xt13_15h < (p0.length : Int)))) (decide_eq_false c2) ?_
  refine ex (S' := ⟨[], []⟩) ?_
  obtain rfl := Option.some.inj h
  exact .inl ⟨rfl, rfl, rfl⟩
 ·rintro e S (⟨rfl, rfl, rfl⟩ | ⟨rfl, a, rfl, hr⟩)
  ·rcases h with ⟨_, e1, h⟩ | ⟨_, e1, h⟩
   ·cases e1
   ·have e2 := Out.go.inj e1
    subst e2
    refine ⟨_, Turns.refl, ?_⟩
    refine sr0 L 234 [] [] [] (S' := ⟨[(4, .B true)], []⟩) ?_
    refine awp_ret ?_
    obtain rfl := Option.some.inj h
    exact er (.B true)
  ·rcases h with ⟨_, e1, h⟩ | ⟨_, e1, h⟩
   ·have e2 := Out.done.inj e1
    subst e2
    subst h
    exact ⟨_, Turns.refl, hr⟩
   ·cases e1
theorem workflowlaw07_equal.ok {K : Nat} {p0 : List api_Token} {p1 : List api_Token} {r : Bool} (h : workflowlaw07_equal K p0 p1 = some r) : PCall V P 13 [.cv (.ro .t_api_Token p0), .cv (.ro .t_api_Token p1)] (.B r) := ECall.pcall (eo (fn := Tryd.f13) (n := 26) (m := 100) fun Γ => workflowlaw07_equal.body h) (by kernel_rfl)
def strings_Builder_WriteByte (K : Nat) (p0 : Int) : Option (List UInt8) := (if 0 ≤ p0 ∧ p0 < 256 then (if ([(UInt8.ofNat (Int.toNat p0))] : List UInt8).length * 1 ≤ 140737488355328 then some ([(UInt8.ofNat (Int.toNat p0))] : List UInt8) else none) else none)
theorem strings_Builder_WriteByte.body {Γ : Ent} {K : Nat} {p0 : Int} {r : List UInt8} (h : strings_Builder_WriteByte K p0 = some r) : AWp V P 17 100 Γ (Tryd.f28.body.getD .skip) (EndsE P V Tryd.f28 (.cv (.lit .nilIface)) [(0, .raw [.P 0, .own .t_uint8 100]), (100, .lst .t_uint8 r)]) ⟨args0 0 [.P 0, .cv (.lit (.int .u8 p0))], [(0, .zr 51 [.pointer none, .slice none 0 0])]⟩ := by
 unfold strings_Builder_WriteByte at h
 refine sr0 L 200 [] [] [] (S' := ⟨[(0, .P 0), (1, .cv (.lit (.int .u8 p0)))], [(0, .zr 51 [.pointer none, .slice none 0 0])]⟩) ?_
 refine sr L 202 [] [] [(1, { hids := [0], fx := [0], r := .tup [], H' := [(0, .raw [.P 0, .N])], σ := [(0, 0)] })] (cs := [ECall V P 49 [.P 0] [(0, .zr 51 [.pointer none, .slice none 0 0])] [0] (.tup []) [(0, .raw [.P 0, .N])]]) (S' := ⟨[(0, .P 0), (1, .cv (.lit (.int .u8 p0)))], [(0, .raw [.P 0, .N])]⟩) Builder_copyCheck.okZ ?_
 refine awp_seq ?_
 obtain ⟨g1, h⟩ := guard_some h
 obtain ⟨g2, h⟩ := guard_some h
 refine ar L 205 [] [] [] (cs := [0 ≤ p0, p0 < 256, ([(UInt8.ofNat (Int.toNat p0))] : List UInt8).length * 1 ≤ 140737488355328, True]) (S' := ⟨[], [(0, .raw [.P 0, .own .t_uint8 212]), (212, .lst .t_uint8 ([(UInt8.ofNat (Int.toNat p0))] : List UInt8))]⟩) (And.intro g1.1 (And.intro g1.2 (And.intro g2 trivial))) ?_
 refine sr0 L 217 [] [] [] (S' := ⟨[(4, .cv (.lit .nilIface))], [(0, .raw [.P 0, .own .t_uint8 212]), (212, .lst .t_uint8 ([(UInt8.ofNat (Int.toNat p0))] : List UInt8))]⟩) ?_
 refine awp_turn (Turns.rn [(0, 0), (212, 100)] (S' := ⟨[(4, .cv (.lit .nilIface))], [(0, .raw [.P 0, .own .t_uint8 100]), (100, .lst .t_uint8 ([(UInt8.ofNat (Int.toNat p0))] : List UInt8))]⟩)) ?_
 refine awp_ret ?_
 obtain rfl := Option.some.inj h
 exact er (.cv (.lit .nilIface))
theorem strings_Builder_WriteByte.okE {K : Nat} {p0 : Int} {r : List UInt8} (h : strings_Builder_WriteByte K p0 = some r) : ECall V P 28 [.P 0, .cv (.lit (.int .u8 p0))] [(0, .zr 51 [.pointer none, .slice none 0 0])] [0] (.cv (.lit .nilIface)) [(0, .raw [.P 0, .own .t_uint8 100]), (100, .lst .t_uint8 r)] :=
 eo (fn := Tryd.f28) (n := 17) (m := 100) fun Γ => strings_Builder_WriteByte.body h
def strings_Builder_WriteByte_v2 (K : Nat) (p0 : Int) (p1 : List UInt8) : Option (List UInt8) := (if 0 ≤ p0 ∧ p0 < 256 then (if (p1.length + ([(UInt8.ofNat (Int.toNat p0))] : List UInt8).length) * 1 ≤ 140737488355328 then some (p1 ++ ([(UInt8.ofNat (Int.toNat p0))] : List UInt8)) else none) else none)
theorem strings_Builder_WriteByte_v2.body {Γ : Ent} {K : Nat} {p0 : Int} {p1 : List UInt8} {r : List UInt8} (h : strings_Builder_WriteByte_v2 K p0 p1 = some r) : AWp V P 17 1 Γ (Tryd.f28.body.getD .skip) (EndsE P V Tryd.f28 (.cv (.lit .nilIface)) [(0, .raw [.P 0, .own .t_uint8 1]), (1, .lst .t_uint8 r)]) ⟨args0 0 [.P 0, .cv (.lit (.int .u8 p0))], [(0, .raw [.P 0, .own .t_uint8 1]), (1, .lst .t_uint8 p1)]⟩ := by
 unfold strings_Builder_WriteByte_v2 at h
 refine sr0 L 200 [] [] [] (S' := ⟨[(0, .P 0), (1, .cv (.lit (.int .u8 p0)))], [(0, .raw [.P 0, .own .t_uint8 1]), (1, .lst .t_uint8 p1)]⟩) ?_
 refine sr L 202 [] [] [(1, { hids := [0, 1], fx := [0, 1], r := .tup [], H' := [(0, .raw [.P 0, .own .t_uint8 1]), (1, .lst .t_uint8 p1)], σ := [(0, 0), (1, 1)] })] (cs := [ECall V P 49 [.P 0] [(0, .raw [.P 0, .own .t_uint8 1]), (1, .lst .t_uint8 p1)] [0, 1] (.tup []) [(0, .raw [.P 0, .own .t_uint8 1]), (1, .lst .t_uint8 p1)]]) (S' := ⟨[(0, .P 0), (1, .cv (.lit (.int .u8 p0)))], [(0, .raw [.P 0, .own .t_uint8 1]), (1, .lst .t_uint8 p1)]⟩) (Builder_copyCheck.okE _ rfl _) ?_
 refine awp_seq ?_
 obtain ⟨g1, h⟩ := guard_some h
 obtain ⟨g2, h⟩ := guard_some h
 refine ar L 205 [] [] [] (cs := [0 ≤ p0, p0 < 256, (p1.length + ([(UInt8.ofNat (Int.toNat p0))] : List UInt8).length) * 1 ≤ 140737488355328, True]) (S' := ⟨[], [(0, .raw [.P 0, .own .t_uint8 1]), (1, .lst .t_uint8 (p1 ++ ([(UInt8.ofNat (Int.toNat p0))] : List UInt8)))]⟩) (And.intro g1.1 (And.intro g1.2 (And.intro g2 trivial))) ?_
 refine sr0 L 217 [] [] [] (S' := ⟨[(4, .cv (.lit .nilIface))], [(0, .raw [.P 0, .own .t_uint8 1]), (1, .lst .t_uint8 (p1 ++ ([(UInt8.ofNat (Int.toNat p0))] : List UInt8)))]⟩) ?_
 refine awp_ret ?_
 obtain rfl := Option.some.inj h
 exact er (.cv (.lit .nilIface))
theorem strings_Builder_WriteByte_v2.okE {K : Nat} {p0 : Int} {p1 : List UInt8} {r : List UInt8} (h : strings_Builder_WriteByte_v2 K p0 p1 = some r) : ECall V P 28 [.P 0, .cv (.lit (.int .u8 p0))] [(0, .raw [.P 0, .own .t_uint8 1]), (1, .lst .t_uint8 p1)] [0] (.cv (.lit .nilIface)) [(0, .raw [.P 0, .own .t_uint8 1]), (1, .lst .t_uint8 r)] :=
 eo (fn := Tryd.f28) (n := 17) (m := 1) fun Γ => strings_Builder_WriteByte_v2.body h
def strings_Builder_WriteString (K : Nat) (p0 : List UInt8) (p1 : List UInt8) : Option (Int × (List UInt8)) := (if p1.length + p0.length ≤ 140737488355328 then some ((p0.length : Int), (p1 ++ (p0.map (V.ofB Tag.t_uint8)))) else none)
theorem strings_Builder_WriteString.body {Γ : Ent} {K : Nat} {p0 : List UInt8} {p1 : List UInt8} {r : Int × (List UInt8)} (h : strings_Builder_WriteString K p0 p1 = some r) : AWp V P 19 1 Γ (Tryd.f29.body.getD .skip) (EndsE P V Tryd.f29 (.tup [.I r.1, .cv (.lit .nilIface)]) [(0, .raw [.P 0, .own .t_uint8 1]), (1, .lst .t_uint8 r.2)]) ⟨args0 0 [.P 0, .cv (.str p0)], [(0, .raw [.P 0, .own .t_uint8 1]), (1, .lst .t_uint8 p1)]⟩ := by
 unfold strings_Builder_WriteString at h
 refine sr0 L 200 [] [] [] (S' := ⟨[(0, .P 0), (1, .cv (.str p0))], [(0, .raw [.P 0, .own .t_uint8 1]), (1, .lst .t_uint8 p1)]⟩) ?_
 refine sr L 203 [] [] [(1, { hids := [0, 1], fx := [0, 1], r := .tup [], H' := [(0, .raw [.P 0, .own .t_uint8 1]), (1, .lst .t_uint8 p1)], σ := [(0, 0), (1, 1)] })] (cs := [ECall V P 49 [.P 0] [(0, .raw [.P 0, .own .t_uint8 1]), (1, .lst .t_uint8 p1)] [0, 1] (.tup []) [(0, .raw [.P 0, .own .t_uint8 1]), (1, .lst .t_uint8 p1)]]) (S' := ⟨[(0, .P 0), (1, .cv (.str p0))], [(0, .raw [.P 0, .own .t_uint8 1]), (1, .lst .t_uint8 p1)]⟩) (Builder_copyCheck.okE _ rfl _) ?_
 refine awp_seq ?_
 obtain ⟨g1, h⟩ := guard_some h
 refine ar L 206 [] [] [] (cs := [p1.length + p0.length ≤ 140737488355328, ∀ b, V.E.k Tag.t_uint8 (V.ofB Tag.t_uint8 b) = [.lit (.int .u8 b.toNat)]]) (S' := ⟨[(1, .cv (.str p0))], [(0, .raw [.P 0, .own .t_uint8 1]), (1, .lst .t_uint8 (p1 ++ (p0.map (V.ofB Tag.t_uint8))))]⟩) (And.intro g1 ofB_t_uint8) ?_
 refine sr0 L 217 [] [] [] (S' := ⟨[(4, .I (p0.length : Int)), (5, .cv (.lit .nilIface))], [(0, .raw [.P 0, .own .t_uint8 1]), (1, .lst .t_uint8 (p1 ++ (p0.map (V.ofB Tag.t_uint8))))]⟩) ?_
 refine awp_ret ?_
 obtain rfl := Option.some.inj h
 exact er (.tup [.I (p0.length : Int), .cv (.lit .nilIface)])
theorem strings_Builder_WriteString.okE {K : Nat} {p0 : List UInt8} {p1 : List UInt8} {r : Int × (List UInt8)} (h : strings_Builder_WriteString K p0 p1 = some r) : ECall V P 29 [.P 0, .cv (.str p0)] [(0, .raw [.P 0, .own .t_uint8 1]), (1, .lst .t_uint8 p1)] [0] (.tup [.I r.1, .cv (.lit .nilIface)]) [(0, .raw [.P 0, .own .t_uint8 1]), (1, .lst .t_uint8 r.2)] :=
 eo (fn := Tryd.f29) (n := 19) (m := 1) fun Γ => strings_Builder_WriteString.body h
def token_Quote.l11 (K : Nat) (p0 : List UInt8) : Nat → Int → (List UInt8) → Option (List UInt8)
 | 0, _, _ => none
 | k + 1, xt9_11h, x22301 => (if xt9_11h < (p0.length : Int) then (if (0 : Int) ≤ xt9_11h ∧ (xt9_11h : Int) < (p0.length : Int) then (Option.bind (((if ((p0.getD (Int.toNat xt9_11h) 0).toNat : Int) = 34 then some true else some (decide (((p0.getD (Int.toNat xt9_11h) 0).toNat : Int) = 92)))) : Option Bool) (fun xt24_25 => (if xt24_25 = true then (Option.bind (strings_Builder_WriteByte_v2 K 92 x22301) (fun a2 => (Option.bind (strings_Builder_WriteByte_v2 K ((p0.getD (Int.toNat xt9_11h) 0).toNat : Int) a2) (fun a3 => token_Quote.l11 K p0 k (IntKind.i64.wrap (xt9_11h + 1)) a3)))) else (if ((p0.getD (Int.toNat xt9_11h) 0).toNat : Int) = 10 then (Option.bind (strings_Builder_WriteString K ([92, 110] : List UInt8) x22301) (fun (a4_0, a4_1) => token_Quote.l11 K p0 k (IntKind.i64.wrap (xt9_11h + 1)) a4_1)) else (if ((p0.getD (Int.toNat xt9_11h) 0).toNat : Int) = 9 then (Option.bind (strings_Builder_WriteString K ([92, 116] : List UInt8) x22301) (fun (a5_0, a5_1) => token_Quote.l11 K p0 k (IntKind.i64.wrap (xt9_11h + 1)) a5_1)) else (Option.bind (((if ((p0.getD (Int.toNat xt9_11h) 0).toNat : Int) ≥ 32 then some (decide (((p0.getD (Int.toNat xt9_11h) 0).toNat : Int) ≤ 126)) else some false)) : Option Bool) (fun xt42_39 => (if xt42_39 = true then (Option.bind (strings_Builder_WriteByte_v2 K ((p0.getD (Int.toNat xt9_11h) 0).toNat : Int) x22301) (fun a6 => token_Quote.l11 K p0 k (IntKind.i64.wrap (xt9_11h + 1)) a6)) else (Option.bind (strings_Builder_WriteString K ([92, 120] : List UInt8) x22301) (fun (a7_0, a7_1) => (if (0 : Int) ≤ (Int.fdiv ((p0.getD (Int.toNat xt9_11h) 0).toNat : Int) (2 ^ (min (Int.toNat 4) 8))) ∧ ((Int.fdiv ((p0.getD (Int.toNat xt9_11h) 0).toNat : Int) (2 ^ (min (Int.toNat 4) 8))) : Int) < (([48, 49, 50, 51, 52, 53, 54, 55, 56, 57, 97, 98, 99, 100, 101, 102] : List UInt8).length : Int) then (Option.bind (strings_Builder_WriteByte_v2 K (((([48, 49, 50, 51, 52, 53, 54, 55, 56, 57, 97, 98, 99, 100, 101, 102] : List UInt8).getD (Int.toNat (Int.fdiv ((p0.getD (Int.toNat xt9_11h) 0).toNat : Int) (2 ^ (min (Int.toNat 4) 8)))) 0).toNat : Int)) a7_1) (fun a8 => (if (0 : Int) ≤ (IntKind.u8.wrap ((BitVec.ofInt 8 ((p0.getD (Int.toNat xt9_11h) 0).toNat : Int) &&& BitVec.ofInt 8 15).toNat : Int)) ∧ ((IntKind.u8.wrap ((BitVec.ofInt 8 ((p0.getD (Int.toNat xt9_11h) 0).toNat : Int) &&& BitVec.ofInt 8 15).toNat : Int)) : Int) < (([48, 49, 50, 51, 52, 53, 54, 55, 56, 57, 97, 98, 99, 100, 101, 102] : List UInt8).length : Int) then (Option.bind (strings_Builder_WriteByte_v2 K (((([48, 49, 50, 51, 52, 53, 54, 55, 56, 57, 97, 98, 99, 100, 101, 102] : List UInt8).getD (Int.toNat ((IntKind.u8.wrap ((BitVec.ofInt 8 ((p0.getD (Int.toNat xt9_11h) 0).toNat : Int) &&& BitVec.ofInt 8 15).toNat : Int)))) 0).toNat : Int)) a8) (fun a9 => token_Quote.l11 K p0 k (IntKind.i64.wrap (xt9_11h + 1)) a9)) else none))) else none))))))))))) else none) else some x22301)
def token_Quote (K : Nat) (p0 : List UInt8) : Option (List UInt8) := (Option.bind (strings_Builder_WriteByte K 34) (fun a1 => (Option.bind (token_Quote.l11 K p0 K 0 a1 : Option (List UInt8)) (fun x22201 => (Option.bind (strings_Builder_WriteByte_v2 K 34 x22201) (fun a10 => (if 0 < a10.length then some a10 else none)))))))
theorem token_Quote.body {Γ : Ent} {K : Nat} {p0 : List UInt8} {r : List UInt8} (h : token_Quote K p0 = some r) : AWp V P 54 100 Γ (Tryd.f16.body.getD .skip) (EndsE P V Tryd.f16 (.cv (.str r)) []) ⟨args0 0 [.cv (.str p0)], []⟩ := by
 unfold token_Quote at h
 refine sr0 L 200 [] [] [] (S' := ⟨[(0, .cv (.str p0))], []⟩) ?_
 refine sr0 L 202 [] [] [] (S' := ⟨[(0, .cv (.str p0)), (3, .P 202)], [(202, .zr 51 [.pointer none, .slice none 0 0])]⟩) ?_
 refine awp_seq ?_
 obtain ⟨a1, h1, h⟩ := bind_some h
 refine ar L 204 [] [] [(0, { hids := [0], fx := [0], r := .cv (.lit .nilIface), H' := [(0, .raw [.P 0, .own .t_uint8 100]), (100, .lst .t_uint8 a1)], σ := [(0, 202), (100, 5032)] })] (cs := [ECall V P 28 [.P 0, .cv (.lit (.int .u8 34))] [(0, .zr 51 [.pointer none, .slice none 0 0])] [0] (.cv (.lit .nilIface)) [(0, .raw [.P 0, .own .t_uint8 100]), (100, .lst .t_uint8 a1)]]) (S' := ⟨[(0, .cv (.str p0)), (3, .P 202)], [(202, .raw [.P 202, .own .t_uint8 5032]), (5032, .lst .t_uint8 a1)]⟩) (strings_Builder_WriteByte.okE h1) ?_
 refine awp_seq ?_
 refine sr0 L 206 [] [] [] (S' := ⟨[(0, .cv (.str p0)), (3, .P 202), (8, .I (p0.length : Int)), (9, .I 0)], [(202, .raw [.P 202, .own .t_uint8 5032]), (5032, .lst .t_uint8 a1)]⟩) ?_
 refine awp_block ?_
 refine awp_turn (Turns.trans (Turns.kp (S' := ⟨[(0, .cv (.str p0)), (3, .P 202), (8, .I (p0.length : Int)), (9, .I 0)], [(202, .raw [.P 202, .own .t_uint8 5032]), (5032, .lst .t_uint8 a1)]⟩)) (Turns.rn [(202, 22300), (5032, 22301)] (S' := ⟨[(0, .cv (.str p0)), (3, .P 22300), (8, .I (p0.length : Int)), (9, .I 0)], [(22300, .raw [.P 22300, .own .t_uint8 22301]), (22301, .lst .t_uint8 a1)]⟩))) ?_
 refine kp (S' := ⟨[(0, .cv (.str p0)), (3, .P 22300), (8, .I (p0.length : Int)), (9, .I 0)], [(22300, .raw [.P 22300, .own .t_uint8 22301]), (22301, .lst .t_uint8 a1)]⟩) ?_
 obtain ⟨o3, hp3, h⟩ := bind_some h
 refine awp_conseq (Q' := fun e S => (e = .exit 0 ∧ ∃ x22201 : List UInt8, S = ⟨[(3, .P 22200)], [(22200, .raw [.P 22200, .own .t_uint8 22201]), (22201, .lst .t_uint8 x22201)]⟩ ∧ x22201 = o3)) (awp_loop (fun k S => ∃ xt9_11h : Int, ∃ x22301 : List UInt8, S = ⟨[(0, .cv (.str p0)), (3, .P 22300), (8, .I (p0.length : Int)), (9, .I xt9_11h)], [(22300, .raw [.P 22300, .own .t_uint8 22301]), (22301, .lst .t_uint8 x22301)]⟩ ∧ token_Quote.l11 K p0 k xt9_11h x22301 = some o3) ?_ ⟨_, _, rfl, hp3⟩) ?_
 ·clear h hp3
  intro k S hS
  obtain ⟨xt9_11h, x22301, rfl, h⟩ := hS
  cases k with
  | zero => cases h
  | succ k =>
  unfold token_Quote.l11 at h
  refine sr0 L 210 [] [] [] (S' := ⟨[(0, .cv (.str p0)), (3, .P 22300), (8, .I (p0.length : Int)), (9, .I xt9_11h), (10, .B (decide (xt9_11h < (p0.length : Int))))], [(22300, .raw [.P 22300, .own .t_uint8 22301]), (22301, .lst .t_uint8 x22301)]⟩) ?_
  refine awp_seq ?_
  rcases ite_some h with ⟨c1, h⟩ | ⟨c1, h⟩
  ·refine tt (b := (decide (xt9_11h < (p0.length : Int)))) (decide_eq_true c1) ?_
   refine awp_skip' ?_
   refine awp_seq ?_
   refine awp_block ?_
   refine sr0 L 212 [] [] [] (S' := ⟨[(0, .cv (.str p0)), (3, .P 22300), (4, .I xt9_11h), (8, .I (p0.length : Int)), (9, .I xt9_11h)], [(22300, .raw [.P 22300, .own .t_uint8 22301]), (22301, .lst .t_uint8 x22301)]⟩) ?_
   refine awp_seq ?_
   obtain ⟨g1, h⟩ := guard_some h
   refine ar L 215 [] [] [] (cs := [(0 : Int) ≤ xt9_11h, (xt9_11h : Int) < (p0.length : Int)]) (S' := ⟨[(0, .cv (.str p0)), (3, .P 22300), (5, .cv (.lit (.int .u8 ((p0.getD (Int.toNat xt9_11h) 0).toNat : Int)))), (8, .I (p0.length : Int)), (9, .I xt9_11h)], [(22300, .raw [.P 22300, .own .t_uint8 22301]), (22301, .lst .t_uint8 x22301)]⟩) (And.intro g1.1 g1.2) ?_
   refine awp_block ?_
   obtain ⟨o1, hp1, h⟩ := bind_some h
   refine awp_seq (awp_mono (Q' := fun e S => (e = .normal ∧ ∃ xt24_25 : Bool, S = ⟨[(0, .cv (.str p0)), (3, .P 25000), (5, .cv (.lit (.int .u8 ((p0.getD (Int.toNat xt9_11h) 0).toNat : Int)))), (8, .I (p0.length : Int)), (9, .I xt9_11h), (24, .B xt24_25)], [(25000, .raw [.P 25000, .own .t_uint8 25001]), (25001, .lst .t_uint8 x22301)]⟩ ∧ xt24_25 = o1)) ?_ ?_)
   ·clear h
    replace h := hp1
    rcases ite_some h with ⟨c2, h⟩ | ⟨c2, h⟩
    ·refine awp_post (ar L 220 [(2, true)] [] [] (cs := [(decide (((p0.getD (Int.toNat xt9_11h) 0).toNat : Int) = 34)) = true]) (S' := ⟨[(0, .cv (.str p0)), (3, .P 22300), (5, .cv (.lit (.int .u8 ((p0.getD (Int.toNat xt9_11h) 0).toNat : Int)))), (8, .I (p0.length : Int)), (9, .I xt9_11h), (24, .B true)], [(22300, .raw [.P 22300, .own .t_uint8 22301]), (22301, .lst .t_uint8 x22301)]⟩) (decide_eq_true c2) ⟨rfl, rfl⟩) (Turns.trans (Turns.kp (S' := ⟨[(0, .cv (.str p0)), (3, .P 22300), (5, .cv (.lit (.int .u8 ((p0.getD (Int.toNat xt9_11h) 0).toNat : Int)))), (8, .I (p0.length : Int)), (9, .I xt9_11h), (24, .B true)], [(22300, .raw [.P 22300, .own .t_uint8 22301]), (22301, .lst .t_uint8 x22301)]⟩)) (Turns.trans (Turns.rn [(22300, 25000), (22301, 25001)] (S' := ⟨[(0, .cv (.str p0)), (3, .P 25000), (5, .cv (.lit (.int .u8 ((p0.getD (Int.toNat xt9_11h) 0).toNat : Int)))), (8, .I (p0.length : Int)), (9, .I xt9_11h), (24, .B true)], [(25000, .raw [.P 25000, .own .t_uint8 25001]), (25001, .lst .t_uint8 x22301)]⟩)) (Turns.kp (S' := ⟨[(0, .cv (.str p0)), (3, .P 25000), (5, .cv (.lit (.int .u8 ((p0.getD (Int.toNat xt9_11h) 0).toNat : Int)))), (8, .I (p0.length : Int)), (9, .I xt9_11h), (24, .B true)], [(25000, .raw [.P 25000, .own .t_uint8 25001]), (25001, .lst .t_uint8 x22301)]⟩)))) ?_
     obtain rfl := Option.some.inj h
     exact ⟨rfl, _, rfl, rfl⟩
    refine awp_post (ar L 220 [(2, false)] [] [] (cs := [(decide (((p0.getD (Int.toNat xt9_11h) 0).toNat : Int) = 34)) = false]) (S' := ⟨[(0, .cv (.str p0)), (3, .P 22300), (5, .cv (.lit (.int .u8 ((p0.getD (Int.toNat xt9_11h) 0).toNat : Int)))), (8, .I (p0.length : Int)), (9, .I xt9_11h), (24, .B (decide (((p0.getD (Int.toNat xt9_11h) 0).toNat : Int) = 92)))], [(22300, .raw [.P 22300, .own .t_uint8 22301]), (22301, .lst .t_uint8 x22301)]⟩) (decide_eq_false c2) ⟨rfl, rfl⟩) (Turns.trans (Turns.kp (S' := ⟨[(0, .cv (.str p0)), (3, .P 22300), (5, .cv (.lit (.int .u8 ((p0.getD (Int.toNat xt9_11h) 0).toNat : Int)))), (8, .I (p0.length : Int)), (9, .I xt9_11h), (24, .B (decide (((p0.getD (Int.toNat xt9_11h) 0).toNat : Int) = 92)))], [(22300, .raw [.P 22300, .own .t_uint8 22301]), (22301, .lst .t_uint8 x22301)]⟩)) (Turns.trans (Turns.rn [(22300, 25000), (22301, 25001)] (S' := ⟨[(0, .cv (.str p0)), (3, .P 25000), (5, .cv (.lit (.int .u8 ((p0.getD (Int.toNat xt9_11h) 0).toNat : Int)))), (8, .I (p0.length : Int)), (9, .I xt9_11h), (24, .B (decide (((p0.getD (Int.toNat xt9_11h) 0).toNat : Int) = 92)))], [(25000, .raw [.P 25000, .own .t_uint8 25001]), (25001, .lst .t_uint8 x22301)]⟩)) (Turns.kp (S' := ⟨[(0, .cv (.str p0)), (3, .P 25000), (5, .cv (.lit (.int .u8 ((p0.getD (Int.toNat xt9_11h) 0).toNat : Int)))), (8, .I (p0.length : Int)), (9, .I xt9_11h), (24, .B (decide (((p0.getD (Int.toNat xt9_11h) 0).toNat : Int) = 92)))], [(25000, .raw [.P 25000, .own .t_uint8 25001]), (25001, .lst .t_uint8 x22301)]⟩)))) ?_
    obtain rfl := Option.some.inj h
    exact ⟨rfl, _, rfl, rfl⟩
   ·rintro e S ⟨rfl, xt24_25, rfl, rfl⟩
    rcases ite_some h with ⟨c3, h⟩ | ⟨c3, h⟩
    ·refine tt (b := xt24_25) (c3) ?_
     refine awp_seq ?_
     obtain ⟨a2, h2, h⟩ := bind_some h
     refine ar L 228 [] [] [(0, { hids := [0, 1], fx := [0], r := .cv (.lit .nilIface), H' := [(0, .raw [.P 0, .own .t_uint8 1]), (1, .lst .t_uint8 a2)], σ := [(0, 25000), (1, 25001)] })] (cs := [ECall V P 28 [.P 0, .cv (.lit (.int .u8 92))] [(0, .raw [.P 0, .own .t_uint8 1]), (1, .lst .t_uint8 x22301)] [0] (.cv (.lit .nilIface)) [(0, .raw [.P 0, .own .t_uint8 1]), (1, .lst .t_uint8 a2)]]) (S' := ⟨[(0, .cv (.str p0)), (3, .P 25000), (5, .cv (.lit (.int .u8 ((p0.getD (Int.toNat xt9_11h) 0).toNat : Int)))), (8, .I (p0.length : Int)), (9, .I xt9_11h)], [(25000, .raw [.P 25000, .own .t_uint8 25001]), (25001, .lst .t_uint8 a2)]⟩) (strings_Builder_WriteByte_v2.okE h2) ?_
     obtain ⟨a3, h3, h⟩ := bind_some h
     refine ar L 230 [] [] [(1, { hids := [0, 1], fx := [0], r := .cv (.lit .nilIface), H' := [(0, .raw [.P 0, .own .t_uint8 1]), (1, .lst .t_uint8 a3)], σ := [(0, 25000), (1, 25001)] })] (cs := [ECall V P 28 [.P 0, .cv (.lit (.int .u8 ((p0.getD (Int.toNat xt9_11h) 0).toNat : Int)))] [(0, .raw [.P 0, .own .t_uint8 1]), (1, .lst .t_uint8 a2)] [0] (.cv (.lit .nilIface)) [(0, .raw [.P 0, .own .t_uint8 1]), (1, .lst .t_uint8 a3)]]) (S' := ⟨[(0, .cv (.str p0)), (3, .P 25000), (8, .I (p0.length : Int)), (9, .I xt9_11h)], [(25000, .raw [.P 25000, .own .t_uint8 25001]), (25001, .lst .t_uint8 a3)]⟩) (strings_Builder_WriteByte_v2.okE h3) ?_
     refine awp_post (ar0 L 268 [] [] [] (S' := ⟨[(0, .cv (.str p0)), (3, .P 25000), (8, .I (p0.length : Int)), (9, .I (IntKind.i64.wrap (xt9_11h + 1)))], [(25000, .raw [.P 25000, .own .t_uint8 25001]), (25001, .lst .t_uint8 a3)]⟩) ⟨rfl, rfl⟩) (Turns.trans (Turns.kp (S' := ⟨[(0, .cv (.str p0)), (3, .P 25000), (8, .I (p0.length : Int)), (9, .I (IntKind.i64.wrap (xt9_11h + 1)))], [(25000, .raw [.P 25000, .own .t_uint8 25001]), (25001, .lst .t_uint8 a3)]⟩)) (Turns.trans (Turns.rn [(25000, 22300), (25001, 22301)] (S' := ⟨[(0, .cv (.str p0)), (3, .P 22300), (8, .I (p0.length : Int)), (9, .I (IntKind.i64.wrap (xt9_11h + 1)))], [(22300, .raw [.P 22300, .own .t_uint8 22301]), (22301, .lst .t_uint8 a3)]⟩)) (Turns.kp (S' := ⟨[(0, .cv (.str p0)), (3, .P 22300), (8, .I (p0.length : Int)), (9, .I (IntKind.i64.wrap (xt9_11h + 1)))], [(22300, .raw [.P 22300, .own .t_uint8 22301]), (22301, .lst .t_uint8 a3)]⟩)))) ?_
     exact ⟨k, Nat.lt_succ_self k, _, _, rfl, h⟩
    refine ff (b := xt24_25) (eq_false_of_ne_true c3) ?_
    refine sr0 L 233 [] [] [] (S' := ⟨[(0, .cv (.str p0)), (3, .P 25000), (5, .cv (.lit (.int .u8 ((p0.getD (Int.toNat xt9_11h) 0).toNat : Int)))), (8, .I (p0.length : Int)), (9, .I xt9_11h), (34, .B (decide (((p0.getD (Int.toNat xt9_11h) 0).toNat : Int) = 10)))], [(25000, .raw [.P 25000, .own .t_uint8 25001]), (25001, .lst .t_uint8 x22301)]⟩) ?_
    rcases ite_some h with ⟨c4, h⟩ | ⟨c4, h⟩
    ·refine tt (b := (decide (((p0.getD (Int.toNat xt9_11h) 0).toNat : Int) = 10))) (decide_eq_true c4) ?_
     obtain ⟨⟨a4_0, a4_1⟩, h4, h⟩ := bind_some h
     dsimp only at h
     refine ar L 237 [] [] [(0, { hids := [0, 1], fx := [0], r := .tup [.I a4_0, .cv (.lit .nilIface)], H' := [(0, .raw [.P 0, .own .t_uint8 1]), (1, .lst .t_uint8 a4_1)], σ := [(0, 25000), (1, 25001)] })] (cs := [ECall V P 29 [.P 0, .cv (.str ([92, 110] : List UInt8))] [(0, .raw [.P 0, .own .t_uint8 1]), (1, .lst .t_uint8 x22301)] [0] (.tup [.I a4_0, .cv (.lit .nilIface)]) [(0, .raw [.P 0, .own .t_uint8 1]), (1, .lst .t_uint8 a4_1)]]) (S' := ⟨[(0, .cv (.str p0)), (3, .P 25000), (8, .I (p0.length : Int)), (9, .I xt9_11h)], [(25000, .raw [.P 25000, .own .t_uint8 25001]), (25001, .lst .t_uint8 a4_1)]⟩) (strings_Builder_WriteString.okE h4) ?_
     refine awp_post (ar0 L 268 [] [] [] (S' := ⟨[(0, .cv (.str p0)), (3, .P 25000), (8, .I (p0.length : Int)), (9, .I (IntKind.i64.wrap (xt9_11h + 1)))], [(25000, .raw [.P 25000, .own .t_uint8 25001]), (25001, .lst .t_uint8 a4_1)]⟩) ⟨rfl, rfl⟩) (Turns.trans (Turns.kp (S' := ⟨[(0, .cv (.str p0)), (3, .P 25000), (8, .I (p0.length : Int)), (9, .I (IntKind.i64.wrap (xt9_11h + 1)))], [(25000, .raw [.P 25000, .own .t_uint8 25001]), (25001, .lst .t_uint8 a4_1)]⟩)) (Turns.trans (Turns.rn [(25000, 22300), (25001, 22301)] (S' := ⟨[(0, .cv (.str p0)), (3, .P 22300), (8, .I (p0.length : Int)), (9, .I (IntKind.i64.wrap (xt9_11h + 1)))], [(22300, .raw [.P 22300, .own .t_uint8 22301]), (22301, .lst .t_uint8 a4_1)]⟩)) (Turns.kp (S' := ⟨[(0, .cv (.str p0)), (3, .P 22300), (8, .I (p0.length : Int)), (9, .I (IntKind.i64.wrap (xt9_11h + 1)))], [(22300, .raw [.P 22300, .own .t_uint8 22301]), (22301, .lst .t_uint8 a4_1)]⟩)))) ?_
     exact ⟨k, Nat.lt_succ_self k, _, _, rfl, h⟩
    refine ff (b := (decide (((p0.getD (Int.toNat xt9_11h) 0).toNat : Int) = 10))) (decide_eq_false c4) ?_
    refine sr0 L 239 [] [] [] (S' := ⟨[(0, .cv (.str p0)), (3, .P 25000), (5, .cv (.lit (.int .u8 ((p0.getD (Int.toNat xt9_11h) 0).toNat : Int)))), (8, .I (p0.length : Int)), (9, .I xt9_11h), (38, .B (decide (((p0.getD (Int.toNat xt9_11h) 0).toNat : Int) = 9)))], [(25000, .raw [.P 25000, .own .t_uint8 25001]), (25001, .lst .t_uint8 x22301)]⟩) ?_
    rcases ite_some h with ⟨c5, h⟩ | ⟨c5, h⟩
    ·refine tt (b := (decide (((p0.getD (Int.toNat xt9_11h) 0).toNat : Int) = 9))) (decide_eq_true c5) ?_
     obtain ⟨⟨a5_0, a5_1⟩, h5, h⟩ := bind_some h
     dsimp only at h
     refine ar L 243 [] [] [(0, { hids := [0, 1], fx := [0], r := .tup [.I a5_0, .cv (.lit .nilIface)], H' := [(0, .raw [.P 0, .own .t_uint8 1]), (1, .lst .t_uint8 a5_1)], σ := [(0, 25000), (1, 25001)] })] (cs := [ECall V P 29 [.P 0, .cv (.str ([92, 116] : List UInt8))] [(0, .raw [.P 0, .own .t_uint8 1]), (1, .lst .t_uint8 x22301)] [0] (.tup [.I a5_0, .cv (.lit .nilIface)]) [(0, .raw [.P 0, .own .t_uint8 1]), (1, .lst .t_uint8 a5_1)]]) (S' := ⟨[(0, .cv (.str p0)), (3, .P 25000), (8, .I (p0.length : Int)), (9, .I xt9_11h)], [(25000, .raw [.P 25000, .own .t_uint8 25001]), (25001, .lst .t_uint8 a5_1)]⟩) (strings_Builder_WriteString.okE h5) ?_
     refine awp_post (ar0 L 268 [] [] [] (S' := ⟨[(0, .cv (.str p0)), (3, .P 25000), (8, .I (p0.length : Int)), (9, .I (IntKind.i64.wrap (xt9_11h + 1)))], [(25000, .raw [.P 25000, .own .t_uint8 25001]), (25001, .lst .t_uint8 a5_1)]⟩) ⟨rfl, rfl⟩) (Turns.trans (Turns.kp (S' := ⟨[(0, .cv (.str p0)), (3, .P 25000), (8, .I (p0.length : Int)), (9, .I (IntKind.i64.wrap (xt9_11h + 1)))], [(25000, .raw [.P 25000, .own .t_uint8 25001]), (25001, .lst .t_uint8 a5_1)]⟩)) (Turns.trans (Turns.rn [(25000, 22300), (25001, 22301)] (S' := ⟨[(0, .cv (.str p0)), (3, .P 22300), (8, .I (p0.length : Int)), (9, .I (IntKind.i64.wrap (xt9_11h + 1)))], [(22300, .raw [.P 22300, .own .t_uint8 22301]), (22301, .lst .t_uint8 a5_1)]⟩)) (Turns.kp (S' := ⟨[(0, .cv (.str p0)), (3, .P 22300), (8, .I (p0.length : Int)), (9, .I (IntKind.i64.wrap (xt9_11h + 1)))], [(22300, .raw [.P 22300, .own .t_uint8 22301]), (22301, .lst .t_uint8 a5_1)]⟩)))) ?_
     exact ⟨k, Nat.lt_succ_self k, _, _, rfl, h⟩
    refine ff (b := (decide (((p0.getD (Int.toNat xt9_11h) 0).toNat : Int) = 9))) (decide_eq_false c5) ?_
    obtain ⟨o2, hp2, h⟩ := bind_some h
    refine awp_seq (awp_mono (Q' := fun e S => (e = .normal ∧ ∃ xt42_39 : Bool, S = ⟨[(0, .cv (.str p0)), (3, .P 27800), (5, .cv (.lit (.int .u8 ((p0.getD (Int.toNat xt9_11h) 0).toNat : Int)))), (8, .I (p0.length : Int)), (9, .I xt9_11h), (42, .B xt42_39)], [(27800, .raw [.P 27800, .own .t_uint8 27801]), (27801, .lst .t_uint8 x22301)]⟩ ∧ xt42_39 = o2)) ?_ ?_)
    ·clear h
     replace h := hp2
     rcases ite_some h with ⟨c6, h⟩ | ⟨c6, h⟩
     ·refine awp_post (ar L 245 [(2, true)] [] [] (cs := [(decide (((p0.getD (Int.toNat xt9_11h) 0).toNat : Int) ≥ 32)) = true]) (S' := ⟨[(0, .cv (.str p0)), (3, .P 25000), (5, .cv (.lit (.int .u8 ((p0.getD (Int.toNat xt9_11h) 0).toNat : Int)))), (8, .I (p0.length : Int)), (9, .I xt9_11h), (42, .B (decide (((p0.getD (Int.toNat xt9_11h) 0).toNat : Int) ≤ 126)))], [(25000, .raw [.P 25000, .own .t_uint8 25001]), (25001, .lst .t_uint8 x22301)]⟩) (decide_eq_true c6) ⟨rfl, rfl⟩) (Turns.trans (Turns.kp (S' := ⟨[(0, .cv (.str p0)), (3, .P 25000), (5, .cv (.lit (.int .u8 ((p0.getD (Int.toNat xt9_11h) 0).toNat : Int)))), (8, .I (p0.length : Int)), (9, .I xt9_11h), (42, .B (decide (((p0.getD (Int.toNat xt9_11h) 0).toNat : Int) ≤ 126)))], [(25000, .raw [.P 25000, .own .t_uint8 25001]), (25001, .lst .t_uint8 x22301)]⟩)) (Turns.trans (Turns.rn [(25000, 27800), (25001, 27801)] (S' := ⟨[(0, .cv (.str p0)), (3, .P 27800), (5, .cv (.lit (.int .u8 ((p0.getD (Int.toNat xt9_11h) 0).toNat : Int)))), (8, .I (p0.length : Int)), (9, .I xt9_11h), (42, .B (decide (((p0.getD (Int.toNat xt9_11h) 0).toNat : Int) ≤ 126)))], [(27800, .raw [.P 27800, .own .t_uint8 27801]), (27801, .lst .t_uint8 x22301)]⟩)) (Turns.kp (S' := ⟨[(0, .cv (.str p0)), (3, .P 27800), (5, .cv (.lit (.int .u8 ((p0.getD (Int.toNat xt9_11h) 0).toNat : Int)))), (8, .I (p0.length : Int)), (9, .I xt9_11h), (42, .B (decide (((p0.getD (Int.toNat xt9_11h) 0).toNat : Int) ≤ 126)))], [(27800, .raw [.P 27800, .own .t_uint8 27801]), (27801, .lst .t_uint8 x22301)]⟩)))) ?_
      obtain rfl := Option.some.inj h
      exact ⟨rfl, _, rfl, rfl⟩
     refine awp_post (ar L 245 [(2, false)] [] [] (cs := [(decide (((p0.getD (Int.toNat xt9_11h) 0).toNat : Int) ≥ 32)) = false]) (S' := ⟨[(0, .cv (.str p0)), (3, .P 25000), (5, .cv (.lit (.int .u8 ((p0.getD (Int.toNat xt9_11h) 0).toNat : Int)))), (8, .I (p0.length : Int)), (9, .I xt9_11h), (42, .B false)], [(25000, .raw [.P 25000, .own .t_uint8 25001]), (25001, .lst .t_uint8 x22301)]⟩) (decide_eq_false c6) ⟨rfl, rfl⟩) (Turns.trans (Turns.kp (S' := ⟨[(0, .cv (.str p0)), (3, .P 25000), (5, .cv (.lit (.int .u8 ((p0.getD (Int.toNat xt9_11h) 0).toNat : Int)))), (8, .I (p0.length : Int)), (9, .I xt9_11h), (42, .B false)], [(25000, .raw [.P 25000, .own .t_uint8 25001]), (25001, .lst .t_uint8 x22301)]⟩)) (Turns.trans (Turns.rn [(25000, 27800), (25001, 27801)] (S' := ⟨[(0, .cv (.str p0)), (3, .P 27800), (5, .cv (.lit (.int .u8 ((p0.getD (Int.toNat xt9_11h) 0).toNat : Int)))), (8, .I (p0.length : Int)), (9, .I xt9_11h), (42, .B false)], [(27800, .raw [.P 27800, .own .t_uint8 27801]), (27801, .lst .t_uint8 x22301)]⟩)) (Turns.kp (S' := ⟨[(0, .cv (.str p0)), (3, .P 27800), (5, .cv (.lit (.int .u8 ((p0.getD (Int.toNat xt9_11h) 0).toNat : Int)))), (8, .I (p0.length : Int)), (9, .I xt9_11h), (42, .B false)], [(27800, .raw [.P 27800, .own .t_uint8 27801]), (27801, .lst .t_uint8 x22301)]⟩)))) ?_
     obtain rfl := Option.some.inj h
     exact ⟨rfl, _, rfl, rfl⟩
    ·rintro e S ⟨rfl, xt42_39, rfl, rfl⟩
     rcases ite_some h with ⟨c7, h⟩ | ⟨c7, h⟩
     ·refine tt (b := xt42_39) (c7) ?_
      obtain ⟨a6, h6, h⟩ := bind_some h
      refine ar L 253 [] [] [(1, { hids := [0, 1], fx := [0], r := .cv (.lit .nilIface), H' := [(0, .raw [.P 0, .own .t_uint8 1]), (1, .lst .t_uint8 a6)], σ := [(0, 27800), (1, 27801)] })] (cs := [ECall V P 28 [.P 0, .cv (.lit (.int .u8 ((p0.getD (Int.toNat xt9_11h) 0).toNat : Int)))] [(0, .raw [.P 0, .own .t_uint8 1]), (1, .lst .t_uint8 x22301)] [0] (.cv (.lit .nilIface)) [(0, .raw [.P 0, .own .t_uint8 1]), (1, .lst .t_uint8 a6)]]) (S' := ⟨[(0, .cv (.str p0)), (3, .P 27800), (8, .I (p0.length : Int)), (9, .I xt9_11h)], [(27800, .raw [.P 27800, .own .t_uint8 27801]), (27801, .lst .t_uint8 a6)]⟩) (strings_Builder_WriteByte_v2.okE h6) ?_
      refine awp_post (ar0 L 268 [] [] [] (S' := ⟨[(0, .cv (.str p0)), (3, .P 27800), (8, .I (p0.length : Int)), (9, .I (IntKind.i64.wrap (xt9_11h + 1)))], [(27800, .raw [.P 27800, .own .t_uint8 27801]), (27801, .lst .t_uint8 a6)]⟩) ⟨rfl, rfl⟩) (Turns.trans (Turns.kp (S' := ⟨[(0, .cv (.str p0)), (3, .P 27800), (8, .I (p0.length : Int)), (9, .I (IntKind.i64.wrap (xt9_11h + 1)))], [(27800, .raw [.P 27800, .own .t_uint8 27801]), (27801, .lst .t_uint8 a6)]⟩)) (Turns.trans (Turns.rn [(27800, 22300), (27801, 22301)] (S' := ⟨[(0, .cv (.str p0)), (3, .P 22300), (8, .I (p0.length : Int)), (9, .I (IntKind.i64.wrap (xt9_11h + 1)))], [(22300, .raw [.P 22300, .own .t_uint8 22301]), (22301, .lst .t_uint8 a6)]⟩)) (Turns.kp (S' := ⟨[(0, .cv (.str p0)), (3, .P 22300), (8, .I (p0.length : Int)), (9, .I (IntKind.i64.wrap (xt9_11h + 1)))], [(22300, .raw [.P 22300, .own .t_uint8 22301]), (22301, .lst .t_uint8 a6)]⟩)))) ?_
      exact ⟨k, Nat.lt_succ_self k, _, _, rfl, h⟩
     refine ff (b := xt42_39) (eq_false_of_ne_true c7) ?_
     refine awp_seq ?_
     obtain ⟨⟨a7_0, a7_1⟩, h7, h⟩ := bind_some h
     dsimp only at h
     refine ar L 256 [] [] [(0, { hids := [0, 1], fx := [0], r := .tup [.I a7_0, .cv (.lit .nilIface)], H' := [(0, .raw [.P 0, .own .t_uint8 1]), (1, .lst .t_uint8 a7_1)], σ := [(0, 27800), (1, 27801)] })] (cs := [ECall V P 29 [.P 0, .cv (.str ([92, 120] : List UInt8))] [(0, .raw [.P 0, .own .t_uint8 1]), (1, .lst .t_uint8 x22301)] [0] (.tup [.I a7_0, .cv (.lit .nilIface)]) [(0, .raw [.P 0, .own .t_uint8 1]), (1, .lst .t_uint8 a7_1)]]) (S' := ⟨[(0, .cv (.str p0)), (3, .P 27800), (5, .cv (.lit (.int .u8 ((p0.getD (Int.toNat xt9_11h) 0).toNat : Int)))), (8, .I (p0.length : Int)), (9, .I xt9_11h)], [(27800, .raw [.P 27800, .own .t_uint8 27801]), (27801, .lst .t_uint8 a7_1)]⟩) (strings_Builder_WriteString.okE h7) ?_
     refine awp_seq ?_
     obtain ⟨g2, h⟩ := guard_some h
     obtain ⟨a8, h8, h⟩ := bind_some h
     refine ar L 258 [] [] [(3, { hids := [0, 1], fx := [0], r := .cv (.lit .nilIface), H' := [(0, .raw [.P 0, .own .t_uint8 1]), (1, .lst .t_uint8 a8)], σ := [(0, 27800), (1, 27801)] })] (cs := [(0 : Int) ≤ 4, (0 : Int) ≤ (Int.fdiv ((p0.getD (Int.toNat xt9_11h) 0).toNat : Int) (2 ^ (min (Int.toNat 4) 8))), ((Int.fdiv ((p0.getD (Int.toNat xt9_11h) 0).toNat : Int) (2 ^ (min (Int.toNat 4) 8))) : Int) < (([48, 49, 50, 51, 52, 53, 54, 55, 56, 57, 97, 98, 99, 100, 101, 102] : List UInt8).length : Int), ECall V P 28 [.P 0, .cv (.lit (.int .u8 (((([48, 49, 50, 51, 52, 53, 54, 55, 56, 57, 97, 98, 99, 100, 101, 102] : List UInt8).getD (Int.toNat (Int.fdiv ((p0.getD (Int.toNat xt9_11h) 0).toNat : Int) (2 ^ (min (Int.toNat 4) 8)))) 0).toNat : Int))))] [(0, .raw [.P 0, .own .t_uint8 1]), (1, .lst .t_uint8 a7_1)] [0] (.cv (.lit .nilIface)) [(0, .raw [.P 0, .own .t_uint8 1]), (1, .lst .t_uint8 a8)]]) (S' := ⟨[(0, .cv (.str p0)), (3, .P 27800), (5, .cv (.lit (.int .u8 ((p0.getD (Int.toNat xt9_11h) 0).toNat : Int)))), (8, .I (p0.length : Int)), (9, .I xt9_11h)], [(27800, .raw [.P 27800, .own .t_uint8 27801]), (27801, .lst .t_uint8 a8)]⟩) (And.intro (show (0 : Int) ≤ 4 from by decide) (And.intro g2.1 (And.intro g2.2 (strings_Builder_WriteByte_v2.okE h8)))) ?_
     obtain ⟨g3, h⟩ := guard_some h
     obtain ⟨a9, h9, h⟩ := bind_some h
     refine ar L 263 [] [] [(3, { hids := [0, 1], fx := [0], r := .cv (.lit .nilIface), H' := [(0, .raw [.P 0, .own .t_uint8 1]), (1, .lst .t_uint8 a9)], σ := [(0, 27800), (1, 27801)] })] (cs := [(0 : Int) ≤ (IntKind.u8.wrap ((BitVec.ofInt 8 ((p0.getD (Int.toNat xt9_11h) 0).toNat : Int) &&& BitVec.ofInt 8 15).toNat : Int)), ((IntKind.u8.wrap ((BitVec.ofInt 8 ((p0.getD (Int.toNat xt9_11h) 0).toNat : Int) &&& BitVec.ofInt 8 15).toNat : Int)) : Int) < (([48, 49, 50, 51, 52, 53, 54, 55, 56, 57, 97, 98, 99, 100, 101, 102] : List UInt8).length : Int), ECall V P 28 [.P 0, .cv (.lit (.int .u8 (((([48, 49, 50, 51, 52, 53, 54, 55, 56, 57, 97, 98, 99, 100, 101, 102] : List UInt8).getD (Int.toNat ((IntKind.u8.wrap ((BitVec.ofInt 8 ((p0.getD (Int.toNat xt9_11h) 0).toNat : Int) &&& BitVec.ofInt 8 15).toNat : Int)))) 0).toNat : Int))))] [(0, .raw [.P 0, .own .t_uint8 1]), (1, .lst .t_uint8 a8)] [0] (.cv (.lit .nilIface)) [(0, .raw [.P 0, .own .t_uint8 1]), (1, .lst .t_uint8 a9)]]) (S' := ⟨[(0, .cv (.str p0)), (3, .P 27800), (8, .I (p0.length : Int)), (9, .I xt9_11h)], [(27800, .raw [.P 27800, .own .t_uint8 27801]), (27801, .lst .t_uint8 a9)]⟩) (And.intro g3.1 (And.intro g3.2 (strings_Builder_WriteByte_v2.okE h9))) ?_
     refine awp_post (ar0 L 268 [] [] [] (S' := ⟨[(0, .cv (.str p0)), (3, .P 27800), (8, .I (p0.length : Int)), (9, .I (IntKind.i64.wrap (xt9_11h + 1)))], [(27800, .raw [.P 27800, .own .t_uint8 27801]), (27801, .lst .t_uint8 a9)]⟩) ⟨rfl, rfl⟩) (Turns.trans (Turns.kp (S' := ⟨[(0, .cv (.str p0)), (3, .P 27800), (8, .I (p0.length : Int)), (9, .I (IntKind.i64.wrap (xt9_11h + 1)))], [(27800, .raw [.P 27800, .own .t_uint8 27801]), (27801, .lst .t_uint8 a9)]⟩)) (Turns.trans (Turns.rn [(27800, 22300), (27801, 22301)] (S' := ⟨[(0, .cv (.str p0)), (3, .P 22300), (8, .I (p0.length : Int)), (9, .I (IntKind.i64.wrap (xt9_11h + 1)))], [(22300, .raw [.P 22300, .own .t_uint8 22301]), (22301, .lst .t_uint8 a9)]⟩)) (Turns.kp (S' := ⟨[(0, .cv (.str p0)), (3, .P 22300), (8, .I (p0.length : Int)), (9, .I (IntKind.i64.wrap (xt9_11h + 1)))], [(22300, .raw [.P 22300, .own .t_uint8 22301]), (22301, .lst .t_uint8 a9)]⟩)))) ?_
     exact ⟨k, Nat.lt_succ_self k, _, _, rfl, h⟩
  refine ff (b := (decide (xt9_11h < (p0.length : Int)))) (decide_eq_false c1) ?_
  refine awp_turn (Turns.trans (Turns.kp (S' := ⟨[(3, .P 22300)], [(22300, .raw [.P 22300, .own .t_uint8 22301]), (22301, .lst .t_uint8 x22301)]⟩)) (Turns.rn [(22300, 22200), (22301, 22201)] (S' := ⟨[(3, .P 22200)], [(22200, .raw [.P 22200, .own .t_uint8 22201]), (22201, .lst .t_uint8 x22301)]⟩))) ?_
  refine ex (S' := ⟨[(3, .P 22200)], [(22200, .raw [.P 22200, .own .t_uint8 22201]), (22201, .lst .t_uint8 x22301)]⟩) ?_
  obtain rfl := Option.some.inj h
  exact ⟨rfl, _, rfl, rfl⟩
 ·rintro e S ⟨rfl, x22201, rfl, rfl⟩
  refine ⟨_, Turns.refl, ?_⟩
  refine awp_seq ?_
  obtain ⟨a10, h10, h⟩ := bind_some h
  refine ar L 271 [] [] [(0, { hids := [0, 1], fx := [0], r := .cv (.lit .nilIface), H' := [(0, .raw [.P 0, .own .t_uint8 1]), (1, .lst .t_uint8 a10)], σ := [(0, 22200), (1, 22201)] })] (cs := [ECall V P 28 [.P 0, .cv (.lit (.int .u8 34))] [(0, .raw [.P 0, .own .t_uint8 1]), (1, .lst .t_uint8 x22201)] [0] (.cv (.lit .nilIface)) [(0, .raw [.P 0, .own .t_uint8 1]), (1, .lst .t_uint8 a10)]]) (S' := ⟨[(3, .P 22200)], [(22200, .raw [.P 22200, .own .t_uint8 22201]), (22201, .lst .t_uint8 a10)]⟩) (strings_Builder_WriteByte_v2.okE h10) ?_
  refine awp_seq ?_
  obtain ⟨g4, h⟩ := guard_some h
  refine ar L 273 [] [] [(0, { hids := [0, 1], fx := [], r := .cv (.str a10), H' := [], σ := [(0, 22200), (1, 22201)] })] (cs := [ECall V P 30 [.P 0] [(0, .raw [.P 0, .own .t_uint8 1]), (1, .lst .t_uint8 a10)] [] (.cv (.str a10)) []]) (S' := ⟨[(2, .cv (.str a10))], []⟩) (Builder_String.okE g4) ?_
  refine awp_ret ?_
  obtain rfl := Option.some.inj h
  exact er (.cv (.str a10))
theorem token_Quote.ok {K : Nat} {p0 : List UInt8} {r : List UInt8} (h : token_Quote K p0 = some r) : PCall V P 16 [.cv (.str p0)] (.cv (.str r)) := ECall.pcall (eo (fn := Tryd.f16) (n := 54) (m := 100) fun Γ => token_Quote.body h) (by kernel_rfl)
def workflowlaw07_works (K : Nat) : Option Bool := (Option.bind (token_Scan K ([108, 101, 116, 32, 120, 32, 61, 32, 49, 48, 59] : List UInt8)) (fun (a1_0, a1_1, a1_2) => (Option.bind (token_Scan K ([97, 32, 33, 98] : List UInt8)) (fun (a2_0, a2_1, a2_2) => (Option.bind (workflowlaw07_equal K a1_0 ([(⟨2, 0, ([108, 101, 116] : List UInt8), 0⟩ : api_Token), (⟨1, 4, ([120] : List UInt8), 0⟩ : api_Token), (⟨5, 6, ([61] : List UInt8), 0⟩ : api_Token), (⟨3, 8, [], 10⟩ : api_Token), (⟨5, 10, ([59] : List UInt8), 0⟩ : api_Token), (⟨0, 11, [], 0⟩ : api_Token)] : List api_Token)) (fun a3 => (if a3 = true then (if a1_1 = 0 then (if a1_2 = 0 then (if a2_1 = 2 then (if a2_2 = 3 then (Option.bind (token_Quote K ([97, 10] : List UInt8)) (fun a4 => some (decide (a4 = ([34, 97, 92, 110, 34] : List UInt8))))) else some false) else some false) else some false) else some false) else some false)))))))
theorem workflowlaw07_works.body {Γ : Ent} {K : Nat} {r : Bool} (h : workflowlaw07_works K = some r) : AWp V P 48 100 Γ (Tryd.f10.body.getD .skip) (EndsE P V Tryd.f10 (.B r) []) ⟨args0 0 [], []⟩ := by
 unfold workflowlaw07_works at h
 refine sr0 L 200 [] [] [] (S' := ⟨[], []⟩) ?_
 refine awp_seq ?_
 obtain ⟨⟨a1_0, a1_1, a1_2⟩, h1, h⟩ := bind_some h
 dsimp only at h
 refine ar L 202 [] [(0, .tup [.cv (.ro .t_api_Token a1_0), .I a1_1, .I a1_2])] [] (cs := [PCall V P 11 [.cv (.str ([108, 101, 116, 32, 120, 32, 61, 32, 49, 48, 59] : List UInt8))] (.tup [.cv (.ro .t_api_Token a1_0), .I a1_1, .I a1_2]), True]) (S' := ⟨[(1, .cv (.ro .t_api_Token a1_0)), (2, .I a1_1), (3, .I a1_2)], []⟩) (And.intro (token_Scan.ok h1) trivial) ?_
 refine awp_seq ?_
 obtain ⟨⟨a2_0, a2_1, a2_2⟩, h2, h⟩ := bind_some h
 dsimp only at h
 refine ar L 211 [] [(0, .tup [.cv (.ro .t_api_Token a2_0), .I a2_1, .I a2_2])] [] (cs := [PCall V P 11 [.cv (.str ([97, 32, 33, 98] : List UInt8))] (.tup [.cv (.ro .t_api_Token a2_0), .I a2_1, .I a2_2]), True]) (S' := ⟨[(1, .cv (.ro .t_api_Token a1_0)), (2, .I a1_1), (3, .I a1_2), (5, .I a2_1), (6, .I a2_2)], []⟩) (And.intro (token_Scan.ok h2) trivial) ?_
 refine sr0 L 220 [] [] [] (S' := ⟨[(1, .cv (.ro .t_api_Token a1_0)), (2, .I a1_1), (3, .I a1_2), (5, .I a2_1), (6, .I a2_2), (7, .cv (.ro .t_api_Token ([(⟨2, 0, ([108, 101, 116] : List UInt8), 0⟩ : api_Token), (⟨1, 4, ([120] : List UInt8), 0⟩ : api_Token), (⟨5, 6, ([61] : List UInt8), 0⟩ : api_Token), (⟨3, 8, [], 10⟩ : api_Token), (⟨5, 10, ([59] : List UInt8), 0⟩ : api_Token), (⟨0, 11, [], 0⟩ : api_Token)] : List api_Token)))], []⟩) ?_
 refine awp_seq ?_
 obtain ⟨a3, h3, h⟩ := bind_some h
 rcases ite_some h with ⟨c1, h⟩ | ⟨c1, h⟩
 ·rcases ite_some h with ⟨c2, h⟩ | ⟨c2, h⟩
  ·rcases ite_some h with ⟨c3, h⟩ | ⟨c3, h⟩
   ·rcases ite_some h with ⟨c4, h⟩ | ⟨c4, h⟩
    ·rcases ite_some h with ⟨c5, h⟩ | ⟨c5, h⟩
     ·obtain ⟨a4, h4, h⟩ := bind_some h
      refine ar L 229 [(3, true), (7, true), (11, true), (15, true), (19, true)] [(2, .B a3), (20, .cv (.str a4))] [] (cs := [PCall V P 13 [.cv (.ro .t_api_Token a1_0), .cv (.ro .t_api_Token ([(⟨2, 0, ([108, 101, 116] : List UInt8), 0⟩ : api_Token), (⟨1, 4, ([120] : List UInt8), 0⟩ : api_Token), (⟨5, 6, ([61] : List UInt8), 0⟩ : api_Token), (⟨3, 8, [], 10⟩ : api_Token), (⟨5, 10, ([59] : List UInt8), 0⟩ : api_Token), (⟨0, 11, [], 0⟩ : api_Token)] : List api_Token))] (.B a3), True, a3 = true, (decide (a1_1 = 0)) = true, (decide (a1_2 = 0)) = true, (decide (a2_1 = 2)) = true, (decide (a2_2 = 3)) = true, PCall V P 16 [.cv (.str ([97, 10] : List UInt8))] (.cv (.str a4)), True]) (S' := ⟨[(0, .B (decide (a4 = ([34, 97, 92, 110, 34] : List UInt8))))], []⟩) (And.intro (workflowlaw07_equal.ok h3) (And.intro trivial (And.intro c1 (And.intro (decide_eq_true c2) (And.intro (decide_eq_true c3) (And.intro (decide_eq_true c4) (And.intro (decide_eq_true c5) (And.intro (token_Quote.ok h4) trivial)))))))) ?_
      refine awp_ret ?_
      obtain rfl := Option.some.inj h
      exact er (.B (decide (a4 = ([34, 97, 92, 110, 34] : List UInt8))))
     refine ar L 229 [(3, true), (7, true), (11, true), (15, true), (19, false)] [(2, .B a3)] [] (cs := [PCall V P 13 [.cv (.ro .t_api_Token a1_0), .cv (.ro .t_api_Token ([(⟨2, 0, ([108, 101, 116] : List UInt8), 0⟩ : api_Token), (⟨1, 4, ([120] : List UInt8), 0⟩ : api_Token), (⟨5, 6, ([61] : List UInt8), 0⟩ : api_Token), (⟨3, 8, [], 10⟩ : api_Token), (⟨5, 10, ([59] : List UInt8), 0⟩ : api_Token), (⟨0, 11, [], 0⟩ : api_Token)] : List api_Token))] (.B a3), True, a3 = true, (decide (a1_1 = 0)) = true, (decide (a1_2 = 0)) = true, (decide (a2_1 = 2)) = true, (decide (a2_2 = 3)) = false]) (S' := ⟨[(0, .B false)], []⟩) (And.intro (workflowlaw07_equal.ok h3) (And.intro trivial (And.intro c1 (And.intro (decide_eq_true c2) (And.intro (decide_eq_true c3) (And.intro (decide_eq_true c4) (decide_eq_false c5))))))) ?_
     refine awp_ret ?_
     obtain rfl := Option.some.inj h
     exact er (.B false)
    refine ar L 229 [(3, true), (7, true), (11, true), (15, false)] [(2, .B a3)] [] (cs := [PCall V P 13 [.cv (.ro .t_api_Token a1_0), .cv (.ro .t_api_Token ([(⟨2, 0, ([108, 101, 116] : List UInt8), 0⟩ : api_Token), (⟨1, 4, ([120] : List UInt8), 0⟩ : api_Token), (⟨5, 6, ([61] : List UInt8), 0⟩ : api_Token), (⟨3, 8, [], 10⟩ : api_Token), (⟨5, 10, ([59] : List UInt8), 0⟩ : api_Token), (⟨0, 11, [], 0⟩ : api_Token)] : List api_Token))] (.B a3), True, a3 = true, (decide (a1_1 = 0)) = true, (decide (a1_2 = 0)) = true, (decide (a2_1 = 2)) = false]) (S' := ⟨[(0, .B false)], []⟩) (And.intro (workflowlaw07_equal.ok h3) (And.intro trivial (And.intro c1 (And.intro (decide_eq_true c2) (And.intro (decide_eq_true c3) (decide_eq_false c4)))))) ?_
    refine awp_ret ?_
    obtain rfl := Option.some.inj h
    exact er (.B false)
   refine ar L 229 [(3, true), (7, true), (11, false)] [(2, .B a3)] [] (cs := [PCall V P 13 [.cv (.ro .t_api_Token a1_0), .cv (.ro .t_api_Token ([(⟨2, 0, ([108, 101, 116] : List UInt8), 0⟩ : api_Token), (⟨1, 4, ([120] : List UInt8), 0⟩ : api_Token), (⟨5, 6, ([61] : List UInt8), 0⟩ : api_Token), (⟨3, 8, [], 10⟩ : api_Token), (⟨5, 10, ([59] : List UInt8), 0⟩ : api_Token), (⟨0, 11, [], 0⟩ : api_Token)] : List api_Token))] (.B a3), True, a3 = true, (decide (a1_1 = 0)) = true, (decide (a1_2 = 0)) = false]) (S' := ⟨[(0, .B false)], []⟩) (And.intro (workflowlaw07_equal.ok h3) (And.intro trivial (And.intro c1 (And.intro (decide_eq_true c2) (decide_eq_false c3))))) ?_
   refine awp_ret ?_
   obtain rfl := Option.some.inj h
   exact er (.B false)
  refine ar L 229 [(3, true), (7, false)] [(2, .B a3)] [] (cs := [PCall V P 13 [.cv (.ro .t_api_Token a1_0), .cv (.ro .t_api_Token ([(⟨2, 0, ([108, 101, 116] : List UInt8), 0⟩ : api_Token), (⟨1, 4, ([120] : List UInt8), 0⟩ : api_Token), (⟨5, 6, ([61] : List UInt8), 0⟩ : api_Token), (⟨3, 8, [], 10⟩ : api_Token), (⟨5, 10, ([59] : List UInt8), 0⟩ : api_Token), (⟨0, 11, [], 0⟩ : api_Token)] : List api_Token))] (.B a3), True, a3 = true, (decide (a1_1 = 0)) = false]) (S' := ⟨[(0, .B false)], []⟩) (And.intro (workflowlaw07_equal.ok h3) (And.intro trivial (And.intro c1 (decide_eq_false c2)))) ?_
  refine awp_ret ?_
  obtain rfl := Option.some.inj h
  exact er (.B false)
 refine ar L 229 [(3, false)] [(2, .B a3)] [] (cs := [PCall V P 13 [.cv (.ro .t_api_Token a1_0), .cv (.ro .t_api_Token ([(⟨2, 0, ([108, 101, 116] : List UInt8), 0⟩ : api_Token), (⟨1, 4, ([120] : List UInt8), 0⟩ : api_Token), (⟨5, 6, ([61] : List UInt8), 0⟩ : api_Token), (⟨3, 8, [], 10⟩ : api_Token), (⟨5, 10, ([59] : List UInt8), 0⟩ : api_Token), (⟨0, 11, [], 0⟩ : api_Token)] : List api_Token))] (.B a3), True, a3 = false]) (S' := ⟨[(0, .B false)], []⟩) (And.intro (workflowlaw07_equal.ok h3) (And.intro trivial (eq_false_of_ne_true c1))) ?_
 refine awp_ret ?_
 obtain rfl := Option.some.inj h
 exact er (.B false)
theorem workflowlaw07_works.ok {K : Nat} {r : Bool} (h : workflowlaw07_works K = some r) : PCall V P 10 [] (.B r) := ECall.pcall (eo (fn := Tryd.f10) (n := 48) (m := 100) fun Γ => workflowlaw07_works.body h) (by kernel_rfl)
def workflowref07_letter (K : Nat) (p0 : Int) : Option Bool := (if p0 ≥ 97 then (if p0 ≤ 122 then some true else (if p0 ≥ 65 then (if p0 ≤ 90 then some true else some (decide (p0 = 95))) else some (decide (p0 = 95)))) else (if p0 ≥ 65 then (if p0 ≤ 90 then some true else some (decide (p0 = 95))) else some (decide (p0 = 95))))
theorem workflowref07_letter.body {Γ : Ent} {K : Nat} {p0 : Int} {r : Bool} (h : workflowref07_letter K p0 = some r) : AWp V P 21 100 Γ (Tryd.f41.body.getD .skip) (EndsE P V Tryd.f41 (.B r) []) ⟨args0 0 [.cv (.lit (.int .u8 p0))], []⟩ := by
 unfold workflowref07_letter at h
 refine sr0 L 200 [] [] [] (S' := ⟨[(0, .cv (.lit (.int .u8 p0)))], []⟩) ?_
 refine awp_seq ?_
 rcases ite_some h with ⟨c1, h⟩ | ⟨c1, h⟩
 ·rcases ite_some h with ⟨c2, h⟩ | ⟨c2, h⟩
  ·refine ar L 202 [(2, true), (6, true)] [] [] (cs := [(decide (p0 ≥ 97)) = true, (decide (p0 ≤ 122)) = true]) (S' := ⟨[(2, .B true)], []⟩) (And.intro (decide_eq_true c1) (decide_eq_true c2)) ?_
   refine awp_ret ?_
   obtain rfl := Option.some.inj h
   exact er (.B true)
  rcases ite_some h with ⟨c3, h⟩ | ⟨c3, h⟩
  ·rcases ite_some h with ⟨c4, h⟩ | ⟨c4, h⟩
   ·refine ar L 202 [(2, true), (6, false), (9, true), (14, true)] [] [] (cs := [(decide (p0 ≥ 97)) = true, (decide (p0 ≤ 122)) = false, (decide (p0 ≥ 65)) = true, (decide (p0 ≤ 90)) = true]) (S' := ⟨[(2, .B true)], []⟩) (And.intro (decide_eq_true c1) (And.intro (decide_eq_false c2) (And.intro (decide_eq_true c3) (decide_eq_true c4)))) ?_
    refine awp_ret ?_
    obtain rfl := Option.some.inj h
    exact er (.B true)
   refine ar L 202 [(2, true), (6, false), (9, true), (14, false)] [] [] (cs := [(decide (p0 ≥ 97)) = true, (decide (p0 ≤ 122)) = false, (decide (p0 ≥ 65)) = true, (decide (p0 ≤ 90)) = false]) (S' := ⟨[(2, .B (decide (p0 = 95)))], []⟩) (And.intro (decide_eq_true c1) (And.intro (decide_eq_false c2) (And.intro (decide_eq_true c3) (decide_eq_false c4)))) ?_
   refine awp_ret ?_
   obtain rfl := Option.some.inj h
   exact er (.B (decide (p0 = 95)))
  refine ar L 202 [(2, true), (6, false), (9, false)] [] [] (cs := [(decide (p0 ≥ 97)) = true, (decide (p0 ≤ 122)) = false, (decide (p0 ≥ 65)) = false]) (S' := ⟨[(2, .B (decide (p0 = 95)))], []⟩) (And.intro (decide_eq_true c1) (And.intro (decide_eq_false c2) (decide_eq_false c3))) ?_
  refine awp_ret ?_
  obtain rfl := Option.some.inj h
  exact er (.B (decide (p0 = 95)))
 rcases ite_some h with ⟨c5, h⟩ | ⟨c5, h⟩
 ·rcases ite_some h with ⟨c6, h⟩ | ⟨c6, h⟩
  ·refine ar L 202 [(2, false), (9, true), (14, true)] [] [] (cs := [(decide (p0 ≥ 97)) = false, (decide (p0 ≥ 65)) = true, (decide (p0 ≤ 90)) = true]) (S' := ⟨[(2, .B true)], []⟩) (And.intro (decide_eq_false c1) (And.intro (decide_eq_true c5) (decide_eq_true c6))) ?_
   refine awp_ret ?_
   obtain rfl := Option.some.inj h
   exact er (.B true)
  refine ar L 202 [(2, false), (9, true), (14, false)] [] [] (cs := [(decide (p0 ≥ 97)) = false, (decide (p0 ≥ 65)) = true, (decide (p0 ≤ 90)) = false]) (S' := ⟨[(2, .B (decide (p0 = 95)))], []⟩) (And.intro (decide_eq_false c1) (And.intro (decide_eq_true c5) (decide_eq_false c6))) ?_
  refine awp_ret ?_
  obtain rfl := Option.some.inj h
  exact er (.B (decide (p0 = 95)))
 refine ar L 202 [(2, false), (9, false)] [] [] (cs := [(decide (p0 ≥ 97)) = false, (decide (p0 ≥ 65)) = false]) (S' := ⟨[(2, .B (decide (p0 = 95)))], []⟩) (And.intro (decide_eq_false c1) (decide_eq_false c5)) ?_
 refine awp_ret ?_
 obtain rfl := Option.some.inj h
 exact er (.B (decide (p0 = 95)))
theorem workflowref07_letter.ok {K : Nat} {p0 : Int} {r : Bool} (h : workflowref07_letter K p0 = some r) : PCall V P 41 [.cv (.lit (.int .u8 p0))] (.B r) := ECall.pcall (eo (fn := Tryd.f41) (n := 21) (m := 100) fun Γ => workflowref07_letter.body h) (by kernel_rfl)
def workflowref07_digit (K : Nat) (p0 : Int) : Option Bool := (if p0 ≥ 48 then some (decide (p0 ≤ 57)) else some false)
theorem workflowref07_digit.body {Γ : Ent} {K : Nat} {p0 : Int} {r : Bool} (h : workflowref07_digit K p0 = some r) : AWp V P 9 100 Γ (Tryd.f42.body.getD .skip) (EndsE P V Tryd.f42 (.B r) []) ⟨args0 0 [.cv (.lit (.int .u8 p0))], []⟩ := by
 unfold workflowref07_digit at h
 refine sr0 L 200 [] [] [] (S' := ⟨[(0, .cv (.lit (.int .u8 p0)))], []⟩) ?_
 refine awp_seq ?_
 rcases ite_some h with ⟨c1, h⟩ | ⟨c1, h⟩
 ·refine ar L 202 [(2, true)] [] [] (cs := [(decide (p0 ≥ 48)) = true]) (S' := ⟨[(2, .B (decide (p0 ≤ 57)))], []⟩) (decide_eq_true c1) ?_
  refine awp_ret ?_
  obtain rfl := Option.some.inj h
  exact er (.B (decide (p0 ≤ 57)))
 refine ar L 202 [(2, false)] [] [] (cs := [(decide (p0 ≥ 48)) = false]) (S' := ⟨[(2, .B false)], []⟩) (decide_eq_false c1) ?_
 refine awp_ret ?_
 obtain rfl := Option.some.inj h
 exact er (.B false)
theorem workflowref07_digit.ok {K : Nat} {p0 : Int} {r : Bool} (h : workflowref07_digit K p0 = some r) : PCall V P 42 [.cv (.lit (.int .u8 p0))] (.B r) := ECall.pcall (eo (fn := Tryd.f42) (n := 9) (m := 100) fun Γ => workflowref07_digit.body h) (by kernel_rfl)
def workflowref07_keywords (K : Nat) : Option (List (List UInt8)) := some ([([97, 110, 100] : List UInt8), ([97, 119, 97, 105, 116] : List UInt8), ([99, 97, 115, 101] : List UInt8), ([99, 97, 116, 99, 104] : List UInt8), ([99, 104, 101, 99, 107] : List UInt8), ([101, 108, 115, 101] : List UInt8), ([102, 97, 108, 115, 101] : List UInt8), ([102, 117, 110, 99] : List UInt8), ([103, 111] : List UInt8), ([105, 102] : List UInt8), ([108, 101, 116] : List UInt8), ([110, 111, 116] : List UInt8), ([110, 117, 108, 108] : List UInt8), ([111, 110] : List UInt8), ([111, 114] : List UInt8), ([113, 117, 101, 114, 121] : List UInt8), ([114, 101, 116, 117, 114, 110] : List UInt8), ([115, 97, 103, 97] : List UInt8), ([115, 101, 108, 101, 99, 116] : List UInt8), ([115, 105, 103, 110, 97, 108] : List UInt8), ([116, 104, 114, 111, 119] : List UInt8), ([116, 114, 117, 101] : List UInt8), ([116, 114, 121] : List UInt8), ([117, 110, 100, 111] : List UInt8), ([117, 112, 100, 97, 116, 101] : List UInt8), ([118, 97, 114] : List UInt8), ([119, 104, 105, 108, 101] : List UInt8)] : List (List UInt8))
theorem workflowref07_keywords.body {Γ : Ent} {K : Nat} {r : List (List UInt8)} (h : workflowref07_keywords K = some r) : AWp V P 2 100 Γ (Tryd.f27.body.getD .skip) (EndsE P V Tryd.f27 (.cv (.ro .t_string r)) []) ⟨args0 0 [], []⟩ := by
 unfold workflowref07_keywords at h
 refine sr0 L 200 [] [] [] (S' := ⟨[], []⟩) ?_
 refine sr0 L 202 [] [] [] (S' := ⟨[(0, .cv (.ro .t_string ([([97, 110, 100] : List UInt8), ([97, 119, 97, 105, 116] : List UInt8), ([99, 97, 115, 101] : List UInt8), ([99, 97, 116, 99, 104] : List UInt8), ([99, 104, 101, 99, 107] : List UInt8), ([101, 108, 115, 101] : List UInt8), ([102, 97, 108, 115, 101] : List UInt8), ([102, 117, 110, 99] : List UInt8), ([103, 111] : List UInt8), ([105, 102] : List UInt8), ([108, 101, 116] : List UInt8), ([110, 111, 116] : List UInt8), ([110, 117, 108, 108] : List UInt8), ([111, 110] : List UInt8), ([111, 114] : List UInt8), ([113, 117, 101, 114, 121] : List UInt8), ([114, 101, 116, 117, 114, 110] : List UInt8), ([115, 97, 103, 97] : List UInt8), ([115, 101, 108, 101, 99, 116] : List UInt8), ([115, 105, 103, 110, 97, 108] : List UInt8), ([116, 104, 114, 111, 119] : List UInt8), ([116, 114, 117, 101] : List UInt8), ([116, 114, 121] : List UInt8), ([117, 110, 100, 111] : List UInt8), ([117, 112, 100, 97, 116, 101] : List UInt8), ([118, 97, 114] : List UInt8), ([119, 104, 105, 108, 101] : List UInt8)] : List (List UInt8))))], []⟩) ?_
 refine awp_ret ?_
 obtain rfl := Option.some.inj h
 exact er (.cv (.ro .t_string ([([97, 110, 100] : List UInt8), ([97, 119, 97, 105, 116] : List UInt8), ([99, 97, 115, 101] : List UInt8), ([99, 97, 116, 99, 104] : List UInt8), ([99, 104, 101, 99, 107] : List UInt8), ([101, 108, 115, 101] : List UInt8), ([102, 97, 108, 115, 101] : List UInt8), ([102, 117, 110, 99] : List UInt8), ([103, 111] : List UInt8), ([105, 102] : List UInt8), ([108, 101, 116] : List UInt8), ([110, 111, 116] : List UInt8), ([110, 117, 108, 108] : List UInt8), ([111, 110] : List UInt8), ([111, 114] : List UInt8), ([113, 117, 101, 114, 121] : List UInt8), ([114, 101, 116, 117, 114, 110] : List UInt8), ([115, 97, 103, 97] : List UInt8), ([115, 101, 108, 101, 99, 116] : List UInt8), ([115, 105, 103, 110, 97, 108] : List UInt8), ([116, 104, 114, 111, 119] : List UInt8), ([116, 114, 117, 101] : List UInt8), ([116, 114, 121] : List UInt8), ([117, 110, 100, 111] : List UInt8), ([117, 112, 100, 97, 116, 101] : List UInt8), ([118, 97, 114] : List UInt8), ([119, 104, 105, 108, 101] : List UInt8)] : List (List UInt8))))
theorem workflowref07_keywords.ok {K : Nat} {r : List (List UInt8)} (h : workflowref07_keywords K = some r) : PCall V P 27 [] (.cv (.ro .t_string r)) := ECall.pcall (eo (fn := Tryd.f27) (n := 2) (m := 100) fun Γ => workflowref07_keywords.body h) (by kernel_rfl)
def workflowref07_Keyword.l7 (K : Nat) (p0 : List UInt8) (a1 : List (List UInt8)) : Nat → Int → Option (Out Bool Unit)
 | 0, _ => none
 | k + 1, xt7_7h => (if xt7_7h < (a1.length : Int) then (if (0 : Int) ≤ xt7_7h ∧ (xt7_7h : Int) < (a1.length : Int) then (if (a1.getD (Int.toNat xt7_7h) ([] : List UInt8)) = p0 then some (Out.done true) else workflowref07_Keyword.l7 K p0 a1 k (IntKind.i64.wrap (xt7_7h + 1))) else none) else some (Out.go ()))
def workflowref07_Keyword (K : Nat) (p0 : List UInt8) : Option Bool := (Option.bind (workflowref07_keywords K) (fun a1 => (obind (workflowref07_Keyword.l7 K p0 a1 K 0 : Option (Out Bool Unit)) (fun r => r) (fun _ => some false))))
theorem workflowref07_Keyword.body {Γ : Ent} {K : Nat} {p0 : List UInt8} {r : Bool} (h : workflowref07_Keyword K p0 = some r) : AWp V P 15 100 Γ (Tryd.f15.body.getD .skip) (EndsE P V Tryd.f15 (.B r) []) ⟨args0 0 [.cv (.str p0)], []⟩ := by
 unfold workflowref07_Keyword at h
 refine sr0 L 200 [] [] [] (S' := ⟨[(0, .cv (.str p0))], []⟩) ?_
 refine awp_seq ?_
 refine awp_seq ?_
 obtain ⟨a1, h1, h⟩ := bind_some h
 refine ar L 202 [] [(0, .cv (.ro .t_string a1))] [] (cs := [PCall V P 27 [] (.cv (.ro .t_string a1)), True]) (S' := ⟨[(0, .cv (.str p0)), (5, .cv (.ro .t_string a1)), (6, .I (a1.length : Int)), (7, .I 0)], []⟩) (And.intro (workflowref07_keywords.ok h1) trivial) ?_
 refine awp_block ?_
 refine kp (S' := ⟨[(0, .cv (.str p0)), (5, .cv (.ro .t_string a1)), (6, .I (a1.length : Int)), (7, .I 0)], []⟩) ?_
 obtain ⟨o1, hp1, h⟩ := obind_some h
 refine awp_conseq (Q' := fun e S => (e = .exit 0 ∧ S = ⟨[], []⟩ ∧ Out.go () = o1) ∨ (e = .ret ∧ ∃ a, Out.done a = o1 ∧ EndsE P V Tryd.f15 (.B a) [] .ret S)) (awp_loop (fun k S => ∃ xt7_7h : Int, S = ⟨[(0, .cv (.str p0)), (5, .cv (.ro .t_string a1)), (6, .I (a1.length : Int)), (7, .I xt7_7h)], []⟩ ∧ workflowref07_Keyword.l7 K p0 a1 k xt7_7h = some o1) ?_ ⟨_, rfl, hp1⟩) ?_
 ·clear h hp1
  intro k S hS
  obtain ⟨xt7_7h, rfl, h⟩ := hS
  cases k with
  | zero => cases h
  | succ k =>
  unfold workflowref07_Keyword.l7 at h
  refine sr0 L 206 [] [] [] (S' := ⟨[(0, .cv (.str p0)), (5, .cv (.ro .t_string a1)), (6, .I (a1.length : Int)), (7, .I xt7_7h), (8, .B (decide (xt7_7h < (a1.length : Int))))], []⟩) ?_
  refine awp_seq ?_
  rcases ite_some h with ⟨c1, h⟩ | ⟨c1, h⟩
  ·refine tt (b := (decide (xt7_7h < (a1.length : Int)))) (decide_eq_true c1) ?_
   refine awp_skip' ?_
   refine awp_seq ?_
   refine awp_block ?_
   refine awp_seq ?_
   obtain ⟨g1, h⟩ := guard_some h
   refine ar L 208 [] [] [] (cs := [(0 : Int) ≤ xt7_7h, (xt7_7h : Int) < (a1.length : Int)]) (S' := ⟨[(0, .cv (.str p0)), (4, .cv (.str (a1.getD (Int.toNat xt7_7h) ([] : List UInt8)))), (5, .cv (.ro .t_string a1)), (6, .I (a1.length : Int)), (7, .I xt7_7h)], []⟩) (And.intro g1.1 g1.2) ?_
   refine sr0 L 212 [] [] [] (S' := ⟨[(0, .cv (.str p0)), (5, .cv (.ro .t_string a1)), (6, .I (a1.length : Int)), (7, .I xt7_7h), (13, .B (decide ((a1.getD (Int.toNat xt7_7h) ([] : List UInt8)) = p0)))], []⟩) ?_
   rcases ite_some h with ⟨c2, h⟩ | ⟨c2, h⟩
   ·refine tt (b := (decide ((a1.getD (Int.toNat xt7_7h) ([] : List UInt8)) = p0))) (decide_eq_true c2) ?_
    refine sr0 L 216 [] [] [] (S' := ⟨[(2, .B true)], []⟩) ?_
    refine awp_ret ?_
    obtain rfl := Option.some.inj h
    exact .inr ⟨rfl, _, rfl, er (.B true)⟩
   refine ff (b := (decide ((a1.getD (Int.toNat xt7_7h) ([] : List UInt8)) = p0))) (decide_eq_false c2) ?_
   refine awp_skip' ?_
   refine ar0 L 218 [] [] [] (S' := ⟨[(0, .cv (.str p0)), (5, .cv (.ro .t_string a1)), (6, .I (a1.length : Int)), (7, .I (IntKind.i64.wrap (xt7_7h + 1)))], []⟩) ?_
   exact ⟨k, Nat.lt_succ_self k, _, rfl, h⟩
  refine ff (b := (decide (xt7_7h < (a1.length : Int)))) (decide_eq_false c1) ?_
  refine ex (S' := ⟨[], []⟩) ?_
  obtain rfl := Option.some.inj h
  exact .inl ⟨rfl, rfl, rfl⟩
 ·rintro e S (⟨rfl, rfl, rfl⟩ | ⟨rfl, a, rfl, hr⟩)
  ·rcases h with ⟨_, e1, h⟩ | ⟨_, e1, h⟩
   ·cases e1
   ·have e2 := Out.go.inj e1
    subst e2
    refine ⟨_, Turns.refl, ?_⟩
    refine sr0 L 221 [] [] [] (S' := ⟨[(2, .B false)], []⟩) ?_
    refine awp_ret ?_
    obtain rfl := Option.some.inj h
    exact er (.B false)
  ·rcases h with ⟨_, e1, h⟩ | ⟨_, e1, h⟩
   ·have e2 := Out.done.inj e1
    subst e2
    subst h
    exact ⟨_, Turns.refl, hr⟩
   ·cases e1
theorem workflowref07_Keyword.ok {K : Nat} {p0 : List UInt8} {r : Bool} (h : workflowref07_Keyword K p0 = some r) : PCall V P 15 [.cv (.str p0)] (.B r) := ECall.pcall (eo (fn := Tryd.f15) (n := 15) (m := 100) fun Γ => workflowref07_Keyword.body h) (by kernel_rfl)
def workflowref07_number.l7 (K : Nat) (p0 : List UInt8) : Nat → Int → Option Int
 | 0, _ => none
 | k + 1, xt5_7h => (if xt5_7h < (p0.length : Int) then (if (0 : Int) ≤ xt5_7h ∧ (xt5_7h : Int) < (p0.length : Int) then (Option.bind (workflowref07_digit K ((p0.getD (Int.toNat xt5_7h) 0).toNat : Int)) (fun a1 => (if a1 = true then workflowref07_number.l7 K p0 k (IntKind.i64.wrap (xt5_7h + 1)) else some xt5_7h))) else none) else some xt5_7h)
def workflowref07_number.l30 (K : Nat) (p0 : List UInt8) (xt5_7 : Int) : Nat → Int → Int → Option (Out (Int × Int × Int) Int)
 | 0, _, _ => none
 | k + 1, xt6_30h, xt7_30h => (if xt7_30h < xt5_7 then (if (0 : Int) ≤ xt7_30h ∧ (xt7_30h : Int) < (p0.length : Int) then (if xt6_30h > (IntKind.i64.wrap (Int.tdiv ((IntKind.i64.wrap (9223372036854775807 - (IntKind.i64.wrap (IntKind.u8.wrap (((p0.getD (Int.toNat xt7_30h) 0).toNat : Int) - 48)))))) 10)) then some (Out.done (0, 0, 14)) else workflowref07_number.l30 K p0 xt5_7 k ((IntKind.i64.wrap ((IntKind.i64.wrap (10 * xt6_30h)) + (IntKind.i64.wrap (IntKind.u8.wrap (((p0.getD (Int.toNat xt7_30h) 0).toNat : Int) - 48)))))) (IntKind.i64.wrap (xt7_30h + 1))) else none) else some (Out.go xt6_30h))
def workflowref07_number (K : Nat) (p0 : List UInt8) : Option (Int × Int × Int) := (Option.bind (workflowref07_number.l7 K p0 K 0 : Option Int) (fun xt5_7 => (obind (((if xt5_7 > 1 then (if (0 : Int) < (p0.length : Int) then (if ((p0.getD (Int.toNat 0) 0).toNat : Int) = 48 then some (Out.done (0, 0, 3)) else (if xt5_7 < (p0.length : Int) then (if (0 : Int) ≤ xt5_7 ∧ (xt5_7 : Int) < (p0.length : Int) then (Option.bind (workflowref07_letter K ((p0.getD (Int.toNat xt5_7) 0).toNat : Int)) (fun a2 => (if a2 = true then some (Out.done (0, 0, 3)) else some (Out.go ())))) else none) else some (Out.go ()))) else none) else (if xt5_7 < (p0.length : Int) then (if (0 : Int) ≤ xt5_7 ∧ (xt5_7 : Int) < (p0.length : Int) then (Option.bind (workflowref07_letter K ((p0.getD (Int.toNat xt5_7) 0).toNat : Int)) (fun a3 => (if a3 = true then some (Out.done (0, 0, 3)) else some (Out.go ())))) else none) else some (Out.go ())))) : Option (Out (Int × Int × Int) Unit)) (fun r => r) (fun _ => (obind (workflowref07_number.l30 K p0 xt5_7 K 0 0 : Option (Out (Int × Int × Int) Int)) (fun r => r) (fun xt6_30 => some (xt6_30, xt5_7, 0)))))))
theorem workflowref07_number.body {Γ : Ent} {K : Nat} {p0 : List UInt8} {r : Int × Int × Int} (h : workflowref07_number K p0 = some r) : AWp V P 61 100 Γ (Tryd.f43.body.getD .skip) (EndsE P V Tryd.f43 (.tup [.I r.1, .I r.2.1, .I r.2.2]) []) ⟨args0 0 [.cv (.str p0)], []⟩ := by
 unfold workflowref07_number at h
 refine sr0 L 200 [] [] [] (S' := ⟨[(0, .cv (.str p0))], []⟩) ?_
 refine sr0 L 204 [] [] [] (S' := ⟨[(0, .cv (.str p0)), (5, .I 0)], []⟩) ?_
 refine awp_seq ?_
 refine awp_block ?_
 refine kp (S' := ⟨[(0, .cv (.str p0)), (5, .I 0)], []⟩) ?_
 obtain ⟨o1, hp1, h⟩ := bind_some h
 refine awp_conseq (Q' := fun e S => (e = .exit 0 ∧ ∃ xt5_7 : Int, S = ⟨[(0, .cv (.str p0)), (5, .I xt5_7)], []⟩ ∧ xt5_7 = o1)) (awp_loop (fun k S => ∃ xt5_7h : Int, S = ⟨[(0, .cv (.str p0)), (5, .I xt5_7h)], []⟩ ∧ workflowref07_number.l7 K p0 k xt5_7h = some o1) ?_ ⟨_, rfl, hp1⟩) ?_
 ·clear h hp1
  intro k S hS
  obtain ⟨xt5_7h, rfl, h⟩ := hS
  cases k with
  | zero => cases h
  | succ k =>
  unfold workflowref07_number.l7 at h
  refine awp_seq ?_
  refine awp_seq ?_
  rcases ite_some h with ⟨c1, h⟩ | ⟨c1, h⟩
  ·obtain ⟨g1, h⟩ := guard_some h
   obtain ⟨a1, h1, h⟩ := bind_some h
   refine ar L 206 [(4, true)] [(8, .B a1)] [] (cs := [(decide (xt5_7h < (p0.length : Int))) = true, (0 : Int) ≤ xt5_7h, (xt5_7h : Int) < (p0.length : Int), PCall V P 42 [.cv (.lit (.int .u8 ((p0.getD (Int.toNat xt5_7h) 0).toNat : Int)))] (.B a1), True]) (S' := ⟨[(0, .cv (.str p0)), (5, .I xt5_7h), (18, .B a1)], []⟩) (And.intro (decide_eq_true c1) (And.intro g1.1 (And.intro g1.2 (And.intro (workflowref07_digit.ok h1) trivial)))) ?_
   rcases ite_some h with ⟨c2, h⟩ | ⟨c2, h⟩
   ·refine tt (b := a1) (c2) ?_
    refine awp_skip' ?_
    refine awp_block ?_
    refine ar0 L 217 [] [] [] (S' := ⟨[(0, .cv (.str p0)), (5, .I (IntKind.i64.wrap (xt5_7h + 1)))], []⟩) ?_
    exact ⟨k, Nat.lt_succ_self k, _, rfl, h⟩
   refine ff (b := a1) (eq_false_of_ne_true c2) ?_
   refine ex (S' := ⟨[(0, .cv (.str p0)), (5, .I xt5_7h)], []⟩) ?_
   obtain rfl := Option.some.inj h
   exact ⟨rfl, _, rfl, rfl⟩
  refine ar L 206 [(4, false)] [] [] (cs := [(decide (xt5_7h < (p0.length : Int))) = false]) (S' := ⟨[(0, .cv (.str p0)), (5, .I xt5_7h), (18, .B false)], []⟩) (decide_eq_false c1) ?_
  refine ff (b := false) (rfl) ?_
  refine ex (S' := ⟨[(0, .cv (.str p0)), (5, .I xt5_7h)], []⟩) ?_
  obtain rfl := Option.some.inj h
  exact ⟨rfl, _, rfl, rfl⟩
 ·rintro e S ⟨rfl, xt5_7, rfl, rfl⟩
  refine ⟨_, Turns.refl, ?_⟩
  obtain ⟨o2, hp2, h⟩ := obind_some h
  refine awp_seq (awp_mono (Q' := fun e S => (e = .normal ∧ S = ⟨[(0, .cv (.str p0)), (5, .I xt5_7)], []⟩ ∧ Out.go () = o2) ∨ (e = .ret ∧ ∃ a, Out.done a = o2 ∧ EndsE P V Tryd.f43 (.tup [.I a.1, .I a.2.1, .I a.2.2]) [] .ret S)) ?_ ?_)
  ·clear h
   replace h := hp2
   refine awp_seq ?_
   rcases ite_some h with ⟨c3, h⟩ | ⟨c3, h⟩
   ·obtain ⟨g2, h⟩ := guard_some h
    rcases ite_some h with ⟨c4, h⟩ | ⟨c4, h⟩
    ·refine ar L 221 [(2, true), (7, true)] [] [] (cs := [(decide (xt5_7 > 1)) = true, (0 : Int) ≤ 0, (0 : Int) < (p0.length : Int), (decide (((p0.getD (Int.toNat 0) 0).toNat : Int) = 48)) = true]) (S' := ⟨[(0, .cv (.str p0)), (5, .I xt5_7), (39, .B true)], []⟩) (And.intro (decide_eq_true c3) (And.intro (show (0 : Int) ≤ 0 from by decide) (And.intro g2 (decide_eq_true c4)))) ?_
     refine tt (b := true) (rfl) ?_
     refine sr0 L 241 [] [] [] (S' := ⟨[(2, .I 0), (3, .I 0), (4, .I 3)], []⟩) ?_
     refine awp_ret ?_
     obtain rfl := Option.some.inj h
     exact .inr ⟨rfl, _, rfl, er (.tup [.I 0, .I 0, .I 3])⟩
    rcases ite_some h with ⟨c5, h⟩ | ⟨c5, h⟩
    ·obtain ⟨g3, h⟩ := guard_some h
     obtain ⟨a2, h2, h⟩ := bind_some h
     refine ar L 221 [(2, true), (7, false), (12, true)] [(16, .B a2)] [] (cs := [(decide (xt5_7 > 1)) = true, (0 : Int) ≤ 0, (0 : Int) < (p0.length : Int), (decide (((p0.getD (Int.toNat 0) 0).toNat : Int) = 48)) = false, (decide (xt5_7 < (p0.length : Int))) = true, (0 : Int) ≤ xt5_7, (xt5_7 : Int) < (p0.length : Int), PCall V P 41 [.cv (.lit (.int .u8 ((p0.getD (Int.toNat xt5_7) 0).toNat : Int)))] (.B a2), True]) (S' := ⟨[(0, .cv (.str p0)), (5, .I xt5_7), (39, .B a2)], []⟩) (And.intro (decide_eq_true c3) (And.intro (show (0 : Int) ≤ 0 from by decide) (And.intro g2 (And.intro (decide_eq_false c4) (And.intro (decide_eq_true c5) (And.intro g3.1 (And.intro g3.2 (And.intro (workflowref07_letter.ok h2) trivial)))))))) ?_
     rcases ite_some h with ⟨c6, h⟩ | ⟨c6, h⟩
     ·refine tt (b := a2) (c6) ?_
      refine sr0 L 241 [] [] [] (S' := ⟨[(2, .I 0), (3, .I 0), (4, .I 3)], []⟩) ?_
      refine awp_ret ?_
      obtain rfl := Option.some.inj h
      exact .inr ⟨rfl, _, rfl, er (.tup [.I 0, .I 0, .I 3])⟩
     refine ff (b := a2) (eq_false_of_ne_true c6) ?_
     refine sk (S' := ⟨[(0, .cv (.str p0)), (5, .I xt5_7)], []⟩) ?_
     obtain rfl := Option.some.inj h
     exact .inl ⟨rfl, rfl, rfl⟩
    refine ar L 221 [(2, true), (7, false), (12, false)] [] [] (cs := [(decide (xt5_7 > 1)) = true, (0 : Int) ≤ 0, (0 : Int) < (p0.length : Int), (decide (((p0.getD (Int.toNat 0) 0).toNat : Int) = 48)) = false, (decide (xt5_7 < (p0.length : Int))) = false]) (S' := ⟨[(0, .cv (.str p0)), (5, .I xt5_7), (39, .B false)], []⟩) (And.intro (decide_eq_true c3) (And.intro (show (0 : Int) ≤ 0 from by decide) (And.intro g2 (And.intro (decide_eq_false c4) (decide_eq_false c5))))) ?_
    refine ff (b := false) (rfl) ?_
    refine sk (S' := ⟨[(0, .cv (.str p0)), (5, .I xt5_7)], []⟩) ?_
    obtain rfl := Option.some.inj h
    exact .inl ⟨rfl, rfl, rfl⟩
   rcases ite_some h with ⟨c7, h⟩ | ⟨c7, h⟩
   ·obtain ⟨g4, h⟩ := guard_some h
    obtain ⟨a3, h3, h⟩ := bind_some h
    refine ar L 221 [(2, false), (12, true)] [(16, .B a3)] [] (cs := [(decide (xt5_7 > 1)) = false, (decide (xt5_7 < (p0.length : Int))) = true, (0 : Int) ≤ xt5_7, (xt5_7 : Int) < (p0.length : Int), PCall V P 41 [.cv (.lit (.int .u8 ((p0.getD (Int.toNat xt5_7) 0).toNat : Int)))] (.B a3), True]) (S' := ⟨[(0, .cv (.str p0)), (5, .I xt5_7), (39, .B a3)], []⟩) (And.intro (decide_eq_false c3) (And.intro (decide_eq_true c7) (And.intro g4.1 (And.intro g4.2 (And.intro (workflowref07_letter.ok h3) trivial))))) ?_
    rcases ite_some h with ⟨c8, h⟩ | ⟨c8, h⟩
    ·refine tt (b := a3) (c8) ?_
     refine sr0 L 241 [] [] [] (S' := ⟨[(2, .I 0), (3, .I 0), (4, .I 3)], []⟩) ?_
     refine awp_ret ?_
     obtain rfl := Option.some.inj h
     exact .inr ⟨rfl, _, rfl, er (.tup [.I 0, .I 0, .I 3])⟩
    refine ff (b := a3) (eq_false_of_ne_true c8) ?_
    refine sk (S' := ⟨[(0, .cv (.str p0)), (5, .I xt5_7)], []⟩) ?_
    obtain rfl := Option.some.inj h
    exact .inl ⟨rfl, rfl, rfl⟩
   refine ar L 221 [(2, false), (12, false)] [] [] (cs := [(decide (xt5_7 > 1)) = false, (decide (xt5_7 < (p0.length : Int))) = false]) (S' := ⟨[(0, .cv (.str p0)), (5, .I xt5_7), (39, .B false)], []⟩) (And.intro (decide_eq_false c3) (decide_eq_false c7)) ?_
   refine ff (b := false) (rfl) ?_
   refine sk (S' := ⟨[(0, .cv (.str p0)), (5, .I xt5_7)], []⟩) ?_
   obtain rfl := Option.some.inj h
   exact .inl ⟨rfl, rfl, rfl⟩
  ·rintro e S (⟨rfl, rfl, rfl⟩ | ⟨rfl, a, rfl, hr⟩)
   ·rcases h with ⟨_, e1, h⟩ | ⟨_, e1, h⟩
    ·cases e1
    ·have e2 := Out.go.inj e1
     subst e2
     refine sr0 L 245 [] [] [] (S' := ⟨[(0, .cv (.str p0)), (5, .I xt5_7), (6, .I 0)], []⟩) ?_
     refine awp_seq ?_
     refine sr0 L 247 [] [] [] (S' := ⟨[(0, .cv (.str p0)), (5, .I xt5_7), (6, .I 0), (7, .I 0)], []⟩) ?_
     refine awp_block ?_
     refine kp (S' := ⟨[(0, .cv (.str p0)), (5, .I xt5_7), (6, .I 0), (7, .I 0)], []⟩) ?_
     obtain ⟨o3, hp3, h⟩ := obind_some h
     refine awp_conseq (Q' := fun e S => (e = .exit 2 ∧ ∃ xt6_30 : Int, S = ⟨[(5, .I xt5_7), (6, .I xt6_30)], []⟩ ∧ Out.go xt6_30 = o3) ∨ (e = .ret ∧ ∃ a, Out.done a = o3 ∧ EndsE P V Tryd.f43 (.tup [.I a.1, .I a.2.1, .I a.2.2]) [] .ret S)) (awp_loop (fun k S => ∃ xt6_30h : Int, ∃ xt7_30h : Int, S = ⟨[(0, .cv (.str p0)), (5, .I xt5_7), (6, .I xt6_30h), (7, .I xt7_30h)], []⟩ ∧ workflowref07_number.l30 K p0 xt5_7 k xt6_30h xt7_30h = some o3) ?_ ⟨_, _, rfl, hp3⟩) ?_
     ·clear h hp3
      intro k S hS
      obtain ⟨xt6_30h, xt7_30h, rfl, h⟩ := hS
      cases k with
      | zero => cases h
      | succ k =>
      unfold workflowref07_number.l30 at h
      refine awp_seq ?_
      refine sr0 L 249 [] [] [] (S' := ⟨[(0, .cv (.str p0)), (5, .I xt5_7), (6, .I xt6_30h), (7, .I xt7_30h), (42, .B (decide (xt7_30h < xt5_7)))], []⟩) ?_
      rcases ite_some h with ⟨c9, h⟩ | ⟨c9, h⟩
      ·refine tt (b := (decide (xt7_30h < xt5_7))) (decide_eq_true c9) ?_
       refine awp_skip' ?_
       refine awp_seq ?_
       refine awp_block ?_
       refine awp_seq ?_
       obtain ⟨g5, h⟩ := guard_some h
       refine ar L 253 [] [] [] (cs := [(0 : Int) ≤ xt7_30h, (xt7_30h : Int) < (p0.length : Int)]) (S' := ⟨[(0, .cv (.str p0)), (5, .I xt5_7), (6, .I xt6_30h), (7, .I xt7_30h), (8, .I ((IntKind.i64.wrap (IntKind.u8.wrap (((p0.getD (Int.toNat xt7_30h) 0).toNat : Int) - 48)))))], []⟩) (And.intro g5.1 g5.2) ?_
       refine awp_seq ?_
       refine sr L 260 [] [] [] (cs := [10 ≠ (0 : Int)]) (S' := ⟨[(0, .cv (.str p0)), (5, .I xt5_7), (6, .I xt6_30h), (7, .I xt7_30h), (8, .I ((IntKind.i64.wrap (IntKind.u8.wrap (((p0.getD (Int.toNat xt7_30h) 0).toNat : Int) - 48))))), (54, .B ((decide (xt6_30h > (IntKind.i64.wrap (Int.tdiv ((IntKind.i64.wrap (9223372036854775807 - (IntKind.i64.wrap (IntKind.u8.wrap (((p0.getD (Int.toNat xt7_30h) 0).toNat : Int) - 48)))))) 10))))))], []⟩) (show 10 ≠ (0 : Int) from by decide) ?_
       rcases ite_some h with ⟨c10, h⟩ | ⟨c10, h⟩
       ·refine tt (b := (decide (xt6_30h > (IntKind.i64.wrap (Int.tdiv ((IntKind.i64.wrap (9223372036854775807 - (IntKind.i64.wrap (IntKind.u8.wrap (((p0.getD (Int.toNat xt7_30h) 0).toNat : Int) - 48)))))) 10))))) (decide_eq_true c10) ?_
        refine sr0 L 266 [] [] [] (S' := ⟨[(2, .I 0), (3, .I 0), (4, .I 14)], []⟩) ?_
        refine awp_ret ?_
        obtain rfl := Option.some.inj h
        exact .inr ⟨rfl, _, rfl, er (.tup [.I 0, .I 0, .I 14])⟩
       refine ff (b := (decide (xt6_30h > (IntKind.i64.wrap (Int.tdiv ((IntKind.i64.wrap (9223372036854775807 - (IntKind.i64.wrap (IntKind.u8.wrap (((p0.getD (Int.toNat xt7_30h) 0).toNat : Int) - 48)))))) 10))))) (decide_eq_false c10) ?_
       refine awp_skip' ?_
       refine ar0 L 270 [] [] [] (S' := ⟨[(0, .cv (.str p0)), (5, .I xt5_7), (6, .I ((IntKind.i64.wrap ((IntKind.i64.wrap (10 * xt6_30h)) + (IntKind.i64.wrap (IntKind.u8.wrap (((p0.getD (Int.toNat xt7_30h) 0).toNat : Int) - 48))))))), (7, .I xt7_30h)], []⟩) ?_
       refine ar0 L 276 [] [] [] (S' := ⟨[(0, .cv (.str p0)), (5, .I xt5_7), (6, .I ((IntKind.i64.wrap ((IntKind.i64.wrap (10 * xt6_30h)) + (IntKind.i64.wrap (IntKind.u8.wrap (((p0.getD (Int.toNat xt7_30h) 0).toNat : Int) - 48))))))), (7, .I (IntKind.i64.wrap (xt7_30h + 1)))], []⟩) ?_
       exact ⟨k, Nat.lt_succ_self k, _, _, rfl, h⟩
      refine ff (b := (decide (xt7_30h < xt5_7))) (decide_eq_false c9) ?_
      refine ex (S' := ⟨[(5, .I xt5_7), (6, .I xt6_30h)], []⟩) ?_
      obtain rfl := Option.some.inj h
      exact .inl ⟨rfl, _, rfl, rfl⟩
     ·rintro e S (⟨rfl, xt6_30, rfl, rfl⟩ | ⟨rfl, a, rfl, hr⟩)
      ·rcases h with ⟨_, e1, h⟩ | ⟨_, e1, h⟩
       ·cases e1
       ·have e2 := Out.go.inj e1
        subst e2
        refine ⟨_, Turns.refl, ?_⟩
        refine sr0 L 280 [] [] [] (S' := ⟨[(2, .I xt6_30), (3, .I xt5_7), (4, .I 0)], []⟩) ?_
        refine awp_ret ?_
        obtain rfl := Option.some.inj h
        exact er (.tup [.I xt6_30, .I xt5_7, .I 0])
      ·rcases h with ⟨_, e1, h⟩ | ⟨_, e1, h⟩
       ·have e2 := Out.done.inj e1
        subst e2
        subst h
        exact ⟨_, Turns.refl, hr⟩
       ·cases e1
   ·rcases h with ⟨_, e1, h⟩ | ⟨_, e1, h⟩
    ·have e2 := Out.done.inj e1
     subst e2
     subst h
     exact hr
    ·cases e1
theorem workflowref07_number.ok {K : Nat} {p0 : List UInt8} {r : Int × Int × Int} (h : workflowref07_number K p0 = some r) : PCall V P 43 [.cv (.str p0)] (.tup [.I r.1, .I r.2.1, .I r.2.2]) := ECall.pcall (eo (fn := Tryd.f43) (n := 61) (m := 100) fun Γ => workflowref07_number.body h) (by kernel_rfl)
def workflowref07_hex (K : Nat) (p0 : Int) : Option Int := (Option.bind (workflowref07_digit K p0) (fun a1 => (if a1 = true then some (IntKind.i64.wrap (IntKind.u8.wrap (p0 - 48))) else (if p0 ≥ 97 then (if p0 ≤ 102 then some (IntKind.i64.wrap ((IntKind.i64.wrap (IntKind.u8.wrap (p0 - 97))) + 10)) else some (-1)) else some (-1)))))
theorem workflowref07_hex.body {Γ : Ent} {K : Nat} {p0 : Int} {r : Int} (h : workflowref07_hex K p0 = some r) : AWp V P 18 100 Γ (Tryd.f55.body.getD .skip) (EndsE P V Tryd.f55 (.I r) []) ⟨args0 0 [.cv (.lit (.int .u8 p0))], []⟩ := by
 unfold workflowref07_hex at h
 refine sr0 L 200 [] [] [] (S' := ⟨[(0, .cv (.lit (.int .u8 p0)))], []⟩) ?_
 refine awp_seq ?_
 refine awp_seq ?_
 obtain ⟨a1, h1, h⟩ := bind_some h
 refine ar L 202 [] [(1, .B a1)] [] (cs := [PCall V P 42 [.cv (.lit (.int .u8 p0))] (.B a1), True]) (S' := ⟨[(0, .cv (.lit (.int .u8 p0))), (4, .B a1)], []⟩) (And.intro (workflowref07_digit.ok h1) trivial) ?_
 rcases ite_some h with ⟨c1, h⟩ | ⟨c1, h⟩
 ·refine tt (b := a1) (c1) ?_
  refine sr0 L 205 [] [] [] (S' := ⟨[(2, .I (IntKind.i64.wrap (IntKind.u8.wrap (p0 - 48))))], []⟩) ?_
  refine awp_ret ?_
  obtain rfl := Option.some.inj h
  exact er (.I (IntKind.i64.wrap (IntKind.u8.wrap (p0 - 48))))
 refine ff (b := a1) (eq_false_of_ne_true c1) ?_
 refine awp_skip' ?_
 refine awp_seq ?_
 refine awp_seq ?_
 rcases ite_some h with ⟨c2, h⟩ | ⟨c2, h⟩
 ·refine ar L 210 [(2, true)] [] [] (cs := [(decide (p0 ≥ 97)) = true]) (S' := ⟨[(0, .cv (.lit (.int .u8 p0))), (13, .B (decide (p0 ≤ 102)))], []⟩) (decide_eq_true c2) ?_
  rcases ite_some h with ⟨c3, h⟩ | ⟨c3, h⟩
  ·refine tt (b := (decide (p0 ≤ 102))) (decide_eq_true c3) ?_
   refine sr0 L 217 [] [] [] (S' := ⟨[(2, .I (IntKind.i64.wrap ((IntKind.i64.wrap (IntKind.u8.wrap (p0 - 97))) + 10)))], []⟩) ?_
   refine awp_ret ?_
   obtain rfl := Option.some.inj h
   exact er (.I (IntKind.i64.wrap ((IntKind.i64.wrap (IntKind.u8.wrap (p0 - 97))) + 10)))
  refine ff (b := (decide (p0 ≤ 102))) (decide_eq_false c3) ?_
  refine awp_skip' ?_
  refine sr0 L 223 [] [] [] (S' := ⟨[(2, .I (-1))], []⟩) ?_
  refine awp_ret ?_
  obtain rfl := Option.some.inj h
  exact er (.I (-1))
 refine ar L 210 [(2, false)] [] [] (cs := [(decide (p0 ≥ 97)) = false]) (S' := ⟨[(0, .cv (.lit (.int .u8 p0))), (13, .B false)], []⟩) (decide_eq_false c2) ?_
 refine ff (b := false) (rfl) ?_
 refine awp_skip' ?_
 refine sr0 L 223 [] [] [] (S' := ⟨[(2, .I (-1))], []⟩) ?_
 refine awp_ret ?_
 obtain rfl := Option.some.inj h
 exact er (.I (-1))
theorem workflowref07_hex.ok {K : Nat} {p0 : Int} {r : Int} (h : workflowref07_hex K p0 = some r) : PCall V P 55 [.cv (.lit (.int .u8 p0))] (.I r) := ECall.pcall (eo (fn := Tryd.f55) (n := 18) (m := 100) fun Γ => workflowref07_hex.body h) (by kernel_rfl)
end Go.Proofs.YtahpbjjfpbmaiaaDoor
