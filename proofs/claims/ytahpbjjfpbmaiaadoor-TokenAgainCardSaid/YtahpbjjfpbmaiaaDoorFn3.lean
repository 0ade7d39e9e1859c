/- What functions of the program compute, as Lean functions, and that they compute it. -/
import Derived.Test.YtahpbjjfpbmaiaaDoorFn2
set_option linter.unusedVariables false
set_option maxHeartbeats 0
namespace Go.Proofs.YtahpbjjfpbmaiaaDoor
open Eng
def workflowlaw07_TokenSpell.l15 (K : Nat) (p0 : List api_Token) : Nat → Int → Option (Out Bool Unit)
 | 0, _ => none
 | k + 1, xt18_15h => (if xt18_15h < (p0.length : Int) then (if (0 : Int) ≤ xt18_15h ∧ (xt18_15h : Int) < (p0.length : Int) then (if (((p0.getD (Int.toNat xt18_15h) z_api_Token).Text).length : Int) > 200 then (Option.bind (workflowlaw07_works K) (fun a2 => some (Out.done a2))) else workflowlaw07_TokenSpell.l15 K p0 k (IntKind.i64.wrap (xt18_15h + 1))) else none) else some (Out.go ()))
def workflowlaw07_TokenSpell (K : Nat) (p0 : List api_Token) (p1 : List UInt8) : Option Bool := (Option.bind ((if (p0.length : Int) > 100 then some true else some (decide ((p1.length : Int) > 500))) : Option Bool) (fun xt14_4 => (if xt14_4 = true then (Option.bind (workflowlaw07_works K) (fun a1 => some a1)) else (obind (workflowlaw07_TokenSpell.l15 K p0 K 0 : Option (Out Bool Unit)) (fun r => r) (fun _ => (Option.bind (token_Spell K p0) (fun a3 => (Option.bind (workflowref07_Spell K p0) (fun a4 => (if a3 = a4 then (Option.bind (token_Quote K p1) (fun a5 => (Option.bind (workflowref07_Quote K p1) (fun a6 => (if a5 = a6 then (Option.bind (workflowlaw07_works K) (fun a7 => some a7)) else some false))))) else some false))))))))))
theorem workflowlaw07_TokenSpell.body {Γ : Ent} {K : Nat} {p0 : List api_Token} {p1 : List UInt8} {r : Bool} (h : workflowlaw07_TokenSpell K p0 p1 = some r) : AWp V P 43 100 Γ (Tryd.f8.body.getD .skip) (EndsE P V Tryd.f8 (.B r) []) ⟨args0 0 [.cv (.ro .t_api_Token p0), .cv (.str p1)], []⟩ := by
 unfold workflowlaw07_TokenSpell at h
 refine sr0 L 200 [] [] [] (S' := ⟨[(0, .cv (.ro .t_api_Token p0)), (1, .cv (.str p1))], []⟩) ?_
 refine awp_seq ?_
 obtain ⟨o1, hp1, h⟩ := bind_some h
 refine awp_seq (awp_mono (Q' := fun e S => (e = .normal ∧ ∃ xt14_4 : Bool, S = ⟨[(0, .cv (.ro .t_api_Token p0)), (1, .cv (.str p1)), (14, .B xt14_4)], []⟩ ∧ xt14_4 = o1)) ?_ ?_)
 ·clear h
  replace h := hp1
  rcases ite_some h with ⟨c1, h⟩ | ⟨c1, h⟩
  ·refine ar L 202 [(3, true)] [] [] (cs := [(decide ((p0.length : Int) > 100)) = true]) (S' := ⟨[(0, .cv (.ro .t_api_Token p0)), (1, .cv (.str p1)), (14, .B true)], []⟩) (decide_eq_true c1) ?_
   obtain rfl := Option.some.inj h
   exact ⟨rfl, _, rfl, rfl⟩
  refine ar L 202 [(3, false)] [] [] (cs := [(decide ((p0.length : Int) > 100)) = false]) (S' := ⟨[(0, .cv (.ro .t_api_Token p0)), (1, .cv (.str p1)), (14, .B (decide ((p1.length : Int) > 500)))], []⟩) (decide_eq_false c1) ?_
  obtain rfl := Option.some.inj h
  exact ⟨rfl, _, rfl, rfl⟩
 ·rintro e S ⟨rfl, xt14_4, rfl, rfl⟩
  rcases ite_some h with ⟨c2, h⟩ | ⟨c2, h⟩
  ·refine tt (b := xt14_4) (c2) ?_
   refine awp_seq ?_
   obtain ⟨a1, h1, h⟩ := bind_some h
   refine ar L 211 [] [(0, .B a1)] [] (cs := [PCall V P 10 [] (.B a1), True]) (S' := ⟨[(4, .B a1)], []⟩) (And.intro (workflowlaw07_works.ok h1) trivial) ?_
   refine awp_ret ?_
   obtain rfl := Option.some.inj h
   exact er (.B a1)
  refine ff (b := xt14_4) (eq_false_of_ne_true c2) ?_
  refine awp_skip' ?_
  refine awp_seq ?_
  refine sr0 L 214 [] [] [] (S' := ⟨[(0, .cv (.ro .t_api_Token p0)), (1, .cv (.str p1)), (16, .cv (.ro .t_api_Token p0)), (17, .I (p0.length : Int)), (18, .I 0)], []⟩) ?_
  refine awp_block ?_
  refine kp (S' := ⟨[(0, .cv (.ro .t_api_Token p0)), (1, .cv (.str p1)), (16, .cv (.ro .t_api_Token p0)), (17, .I (p0.length : Int)), (18, .I 0)], []⟩) ?_
  obtain ⟨o2, hp2, h⟩ := obind_some h
  refine awp_conseq (Q' := fun e S => (e = .exit 0 ∧ S = ⟨[(0, .cv (.ro .t_api_Token p0)), (1, .cv (.str p1))], []⟩ ∧ Out.go () = o2) ∨ (e = .ret ∧ ∃ a, Out.done a = o2 ∧ EndsE P V Tryd.f8 (.B a) [] .ret S)) (awp_loop (fun k S => ∃ xt18_15h : Int, S = ⟨[(0, .cv (.ro .t_api_Token p0)), (1, .cv (.str p1)), (16, .cv (.ro .t_api_Token p0)), (17, .I (p0.length : Int)), (18, .I xt18_15h)], []⟩ ∧ workflowlaw07_TokenSpell.l15 K p0 k xt18_15h = some o2) ?_ ⟨_, rfl, hp2⟩) ?_
  ·clear h hp2
   intro k S hS
   obtain ⟨xt18_15h, rfl, h⟩ := hS
   cases k with
   | zero => cases h
   | succ k =>
   unfold workflowlaw07_TokenSpell.l15 at h
   refine sr0 L 218 [] [] [] (S' := ⟨[(0, .cv (.ro .t_api_Token p0)), (1, .cv (.str p1)), (16, .cv (.ro .t_api_Token p0)), (17, .I (p0.length : Int)), (18, .I xt18_15h), (19, .B (decide (xt18_15h < (p0.length : Int))))], []⟩) ?_
   refine awp_seq ?_
   rcases ite_some h with ⟨c3, h⟩ | ⟨c3, h⟩
   ·refine tt (b := (decide (xt18_15h < (p0.length : Int)))) (decide_eq_true c3) ?_
    refine awp_skip' ?_
    refine awp_seq ?_
    refine awp_block ?_
    refine awp_seq ?_
    obtain ⟨g1, h⟩ := guard_some h
    refine ar L 220 [] [] [] (cs := [(0 : Int) ≤ xt18_15h, (xt18_15h : Int) < (p0.length : Int)]) (S' := ⟨[(0, .cv (.ro .t_api_Token p0)), (1, .cv (.str p1)), (6, .P 222), (16, .cv (.ro .t_api_Token p0)), (17, .I (p0.length : Int)), (18, .I xt18_15h)], [(222, .raw (d_api_Token (p0.getD (Int.toNat xt18_15h) z_api_Token)))]⟩) (And.intro g1.1 g1.2) ?_
    refine sr0 L 225 [] [] [] (S' := ⟨[(0, .cv (.ro .t_api_Token p0)), (1, .cv (.str p1)), (16, .cv (.ro .t_api_Token p0)), (17, .I (p0.length : Int)), (18, .I xt18_15h), (25, .B ((decide ((((p0.getD (Int.toNat xt18_15h) z_api_Token).Text).length : Int) > 200))))], []⟩) ?_
    rcases ite_some h with ⟨c4, h⟩ | ⟨c4, h⟩
    ·refine tt (b := (decide ((((p0.getD (Int.toNat xt18_15h) z_api_Token).Text).length : Int) > 200))) (decide_eq_true c4) ?_
     refine awp_seq ?_
     obtain ⟨a2, h2, h⟩ := bind_some h
     refine ar L 230 [] [(0, .B a2)] [] (cs := [PCall V P 10 [] (.B a2), True]) (S' := ⟨[(4, .B a2)], []⟩) (And.intro (workflowlaw07_works.ok h2) trivial) ?_
     refine awp_ret ?_
     obtain rfl := Option.some.inj h
     exact .inr ⟨rfl, _, rfl, er (.B a2)⟩
    refine ff (b := (decide ((((p0.getD (Int.toNat xt18_15h) z_api_Token).Text).length : Int) > 200))) (decide_eq_false c4) ?_
    refine awp_skip' ?_
    refine ar0 L 233 [] [] [] (S' := ⟨[(0, .cv (.ro .t_api_Token p0)), (1, .cv (.str p1)), (16, .cv (.ro .t_api_Token p0)), (17, .I (p0.length : Int)), (18, .I (IntKind.i64.wrap (xt18_15h + 1)))], []⟩) ?_
    exact ⟨k, Nat.lt_succ_self k, _, rfl, h⟩
   refine ff (b := (decide (xt18_15h < (p0.length : Int)))) (decide_eq_false c3) ?_
   refine ex (S' := ⟨[(0, .cv (.ro .t_api_Token p0)), (1, .cv (.str p1))], []⟩) ?_
   obtain rfl := Option.some.inj h
   exact .inl ⟨rfl, rfl, rfl⟩
  ·rintro e S (⟨rfl, rfl, rfl⟩ | ⟨rfl, a, rfl, hr⟩)
   ·rcases h with ⟨_, e1, h⟩ | ⟨_, e1, h⟩
    ·cases e1
    ·have e2 := Out.go.inj e1
     subst e2
     refine ⟨_, Turns.refl, ?_⟩
     refine awp_seq ?_
     obtain ⟨a3, h3, h⟩ := bind_some h
     obtain ⟨a4, h4, h⟩ := bind_some h
     rcases ite_some h with ⟨c5, h⟩ | ⟨c5, h⟩
     ·obtain ⟨a5, h5, h⟩ := bind_some h
      obtain ⟨a6, h6, h⟩ := bind_some h
      rcases ite_some h with ⟨c6, h⟩ | ⟨c6, h⟩
      ·obtain ⟨a7, h7, h⟩ := bind_some h
       refine ar L 236 [(5, true), (12, true)] [(1, .cv (.str a3)), (3, .cv (.str a4)), (7, .cv (.str a5)), (9, .cv (.str a6)), (13, .B a7)] [] (cs := [PCall V P 18 [.cv (.ro .t_api_Token p0)] (.cv (.str a3)), True, PCall V P 19 [.cv (.ro .t_api_Token p0)] (.cv (.str a4)), True, (decide (a3 = a4)) = true, PCall V P 16 [.cv (.str p1)] (.cv (.str a5)), True, PCall V P 20 [.cv (.str p1)] (.cv (.str a6)), True, (decide (a5 = a6)) = true, PCall V P 10 [] (.B a7), True]) (S' := ⟨[(4, .B a7)], []⟩) (And.intro (token_Spell.ok h3) (And.intro trivial (And.intro (workflowref07_Spell.ok h4) (And.intro trivial (And.intro (decide_eq_true c5) (And.intro (token_Quote.ok h5) (And.intro trivial (And.intro (workflowref07_Quote.ok h6) (And.intro trivial (And.intro (decide_eq_true c6) (And.intro (workflowlaw07_works.ok h7) trivial))))))))))) ?_
       refine awp_ret ?_
       obtain rfl := Option.some.inj h
       exact er (.B a7)
      refine ar L 236 [(5, true), (12, false)] [(1, .cv (.str a3)), (3, .cv (.str a4)), (7, .cv (.str a5)), (9, .cv (.str a6))] [] (cs := [PCall V P 18 [.cv (.ro .t_api_Token p0)] (.cv (.str a3)), True, PCall V P 19 [.cv (.ro .t_api_Token p0)] (.cv (.str a4)), True, (decide (a3 = a4)) = true, PCall V P 16 [.cv (.str p1)] (.cv (.str a5)), True, PCall V P 20 [.cv (.str p1)] (.cv (.str a6)), True, (decide (a5 = a6)) = false]) (S' := ⟨[(4, .B false)], []⟩) (And.intro (token_Spell.ok h3) (And.intro trivial (And.intro (workflowref07_Spell.ok h4) (And.intro trivial (And.intro (decide_eq_true c5) (And.intro (token_Quote.ok h5) (And.intro trivial (And.intro (workflowref07_Quote.ok h6) (And.intro trivial (decide_eq_false c6)))))))))) ?_
      refine awp_ret ?_
      obtain rfl := Option.some.inj h
      exact er (.B false)
     refine ar L 236 [(5, false)] [(1, .cv (.str a3)), (3, .cv (.str a4))] [] (cs := [PCall V P 18 [.cv (.ro .t_api_Token p0)] (.cv (.str a3)), True, PCall V P 19 [.cv (.ro .t_api_Token p0)] (.cv (.str a4)), True, (decide (a3 = a4)) = false]) (S' := ⟨[(4, .B false)], []⟩) (And.intro (token_Spell.ok h3) (And.intro trivial (And.intro (workflowref07_Spell.ok h4) (And.intro trivial (decide_eq_false c5))))) ?_
     refine awp_ret ?_
     obtain rfl := Option.some.inj h
     exact er (.B false)
   ·rcases h with ⟨_, e1, h⟩ | ⟨_, e1, h⟩
    ·have e2 := Out.done.inj e1
     subst e2
     subst h
     exact ⟨_, Turns.refl, hr⟩
    ·cases e1
theorem workflowlaw07_TokenSpell.ok {K : Nat} {p0 : List api_Token} {p1 : List UInt8} {r : Bool} (h : workflowlaw07_TokenSpell K p0 p1 = some r) : PCall V P 8 [.cv (.ro .t_api_Token p0), .cv (.str p1)] (.B r) := ECall.pcall (eo (fn := Tryd.f8) (n := 43) (m := 100) fun Γ => workflowlaw07_TokenSpell.body h) (by kernel_rfl)
def workflowlaw07_TokenAgain (K : Nat) (p0 : List UInt8) : Option Bool := (if (p0.length : Int) > 400 then (Option.bind (workflowlaw07_works K) (fun a1 => some a1)) else (Option.bind (token_Scan K p0) (fun (a2_0, a2_1, a2_2) => (if a2_2 ≠ 0 then (Option.bind (workflowref07_Scan K p0) (fun (a3_0, a3_1, a3_2) => (if a3_2 = a2_2 then (Option.bind (workflowlaw07_works K) (fun a4 => some a4)) else some false))) else (Option.bind (token_Spell K a2_0) (fun a5 => (if (a5.length : Int) > 16384 then (Option.bind (workflowlaw07_works K) (fun a6 => some a6)) else (Option.bind (token_Scan K a5) (fun (a7_0, a7_1, a7_2) => (if a7_2 = 0 then (Option.bind (workflowlaw07_same K a2_0 a7_0) (fun a8 => (if a8 = true then (Option.bind (token_Spell K a7_0) (fun a9 => (if a9 = a5 then (Option.bind (workflowlaw07_works K) (fun a10 => some a10)) else some false))) else some false))) else some false))))))))))
theorem workflowlaw07_TokenAgain.body {Γ : Ent} {K : Nat} {p0 : List UInt8} {r : Bool} (h : workflowlaw07_TokenAgain K p0 = some r) : AWp V P 64 100 Γ (Tryd.f9.body.getD .skip) (EndsE P V Tryd.f9 (.B r) []) ⟨args0 0 [.cv (.str p0)], []⟩ := by
 unfold workflowlaw07_TokenAgain at h
 refine sr0 L 200 [] [] [] (S' := ⟨[(0, .cv (.str p0))], []⟩) ?_
 refine awp_seq ?_
 refine sr0 L 202 [] [] [] (S' := ⟨[(0, .cv (.str p0)), (14, .B (decide ((p0.length : Int) > 400)))], []⟩) ?_
 rcases ite_some h with ⟨c1, h⟩ | ⟨c1, h⟩
 ·refine tt (b := (decide ((p0.length : Int) > 400))) (decide_eq_true c1) ?_
  refine awp_seq ?_
  obtain ⟨a1, h1, h⟩ := bind_some h
  refine ar L 206 [] [(0, .B a1)] [] (cs := [PCall V P 10 [] (.B a1), True]) (S' := ⟨[(2, .B a1)], []⟩) (And.intro (workflowlaw07_works.ok h1) trivial) ?_
  refine awp_ret ?_
  obtain rfl := Option.some.inj h
  exact er (.B a1)
 refine ff (b := (decide ((p0.length : Int) > 400))) (decide_eq_false c1) ?_
 refine awp_skip' ?_
 refine awp_seq ?_
 obtain ⟨⟨a2_0, a2_1, a2_2⟩, h2, h⟩ := bind_some h
 dsimp only at h
 refine ar L 209 [] [(1, .tup [.cv (.ro .t_api_Token a2_0), .I a2_1, .I a2_2])] [] (cs := [PCall V P 11 [.cv (.str p0)] (.tup [.cv (.ro .t_api_Token a2_0), .I a2_1, .I a2_2]), True]) (S' := ⟨[(0, .cv (.str p0)), (3, .cv (.ro .t_api_Token a2_0)), (5, .I a2_2)], []⟩) (And.intro (token_Scan.ok h2) trivial) ?_
 refine awp_seq ?_
 refine sr0 L 219 [] [] [] (S' := ⟨[(0, .cv (.str p0)), (3, .cv (.ro .t_api_Token a2_0)), (5, .I a2_2), (23, .B (decide (a2_2 ≠ 0)))], []⟩) ?_
 rcases ite_some h with ⟨c2, h⟩ | ⟨c2, h⟩
 ·refine tt (b := (decide (a2_2 ≠ 0))) (decide_eq_true c2) ?_
  refine awp_seq ?_
  obtain ⟨⟨a3_0, a3_1, a3_2⟩, h3, h⟩ := bind_some h
  dsimp only at h
  refine ar L 222 [] [(1, .tup [.cv (.ro .t_api_Token a3_0), .I a3_1, .I a3_2])] [] (cs := [PCall V P 12 [.cv (.str p0)] (.tup [.cv (.ro .t_api_Token a3_0), .I a3_1, .I a3_2]), True]) (S' := ⟨[(5, .I a2_2), (8, .I a3_2)], []⟩) (And.intro (workflowref07_Scan.ok h3) trivial) ?_
  refine awp_seq ?_
  rcases ite_some h with ⟨c3, h⟩ | ⟨c3, h⟩
  ·obtain ⟨a4, h4, h⟩ := bind_some h
   refine ar L 232 [(3, true)] [(4, .B a4)] [] (cs := [(decide (a3_2 = a2_2)) = true, PCall V P 10 [] (.B a4), True]) (S' := ⟨[(2, .B a4)], []⟩) (And.intro (decide_eq_true c3) (And.intro (workflowlaw07_works.ok h4) trivial)) ?_
   refine awp_ret ?_
   obtain rfl := Option.some.inj h
   exact er (.B a4)
  refine ar L 232 [(3, false)] [] [] (cs := [(decide (a3_2 = a2_2)) = false]) (S' := ⟨[(2, .B false)], []⟩) (decide_eq_false c3) ?_
  refine awp_ret ?_
  obtain rfl := Option.some.inj h
  exact er (.B false)
 refine ff (b := (decide (a2_2 ≠ 0))) (decide_eq_false c2) ?_
 refine awp_skip' ?_
 refine awp_seq ?_
 obtain ⟨a5, h5, h⟩ := bind_some h
 refine ar L 240 [] [(1, .cv (.str a5))] [] (cs := [PCall V P 18 [.cv (.ro .t_api_Token a2_0)] (.cv (.str a5)), True]) (S' := ⟨[(3, .cv (.ro .t_api_Token a2_0)), (9, .cv (.str a5))], []⟩) (And.intro (token_Spell.ok h5) trivial) ?_
 refine awp_seq ?_
 refine sr0 L 244 [] [] [] (S' := ⟨[(3, .cv (.ro .t_api_Token a2_0)), (9, .cv (.str a5)), (40, .B (decide ((a5.length : Int) > 16384)))], []⟩) ?_
 rcases ite_some h with ⟨c4, h⟩ | ⟨c4, h⟩
 ·refine tt (b := (decide ((a5.length : Int) > 16384))) (decide_eq_true c4) ?_
  refine awp_seq ?_
  obtain ⟨a6, h6, h⟩ := bind_some h
  refine ar L 248 [] [(0, .B a6)] [] (cs := [PCall V P 10 [] (.B a6), True]) (S' := ⟨[(2, .B a6)], []⟩) (And.intro (workflowlaw07_works.ok h6) trivial) ?_
  refine awp_ret ?_
  obtain rfl := Option.some.inj h
  exact er (.B a6)
 refine ff (b := (decide ((a5.length : Int) > 16384))) (decide_eq_false c4) ?_
 refine awp_skip' ?_
 refine awp_seq ?_
 obtain ⟨⟨a7_0, a7_1, a7_2⟩, h7, h⟩ := bind_some h
 dsimp only at h
 refine ar L 251 [] [(1, .tup [.cv (.ro .t_api_Token a7_0), .I a7_1, .I a7_2])] [] (cs := [PCall V P 11 [.cv (.str a5)] (.tup [.cv (.ro .t_api_Token a7_0), .I a7_1, .I a7_2]), True]) (S' := ⟨[(3, .cv (.ro .t_api_Token a2_0)), (5, .I a7_2), (9, .cv (.str a5)), (10, .cv (.ro .t_api_Token a7_0))], []⟩) (And.intro (token_Scan.ok h7) trivial) ?_
 refine awp_seq ?_
 rcases ite_some h with ⟨c5, h⟩ | ⟨c5, h⟩
 ·obtain ⟨a8, h8, h⟩ := bind_some h
  rcases ite_some h with ⟨c6, h⟩ | ⟨c6, h⟩
  ·obtain ⟨a9, h9, h⟩ := bind_some h
   rcases ite_some h with ⟨c7, h⟩ | ⟨c7, h⟩
   ·obtain ⟨a10, h10, h⟩ := bind_some h
    refine ar L 261 [(2, true), (7, true), (13, true)] [(5, .B a8), (9, .cv (.str a9)), (14, .B a10)] [] (cs := [(decide (a7_2 = 0)) = true, PCall V P 17 [.cv (.ro .t_api_Token a2_0), .cv (.ro .t_api_Token a7_0)] (.B a8), True, a8 = true, PCall V P 18 [.cv (.ro .t_api_Token a7_0)] (.cv (.str a9)), True, (decide (a9 = a5)) = true, PCall V P 10 [] (.B a10), True]) (S' := ⟨[(2, .B a10)], []⟩) (And.intro (decide_eq_true c5) (And.intro (workflowlaw07_same.ok h8) (And.intro trivial (And.intro c6 (And.intro (token_Spell.ok h9) (And.intro trivial (And.intro (decide_eq_true c7) (And.intro (workflowlaw07_works.ok h10) trivial)))))))) ?_
    refine awp_ret ?_
    obtain rfl := Option.some.inj h
    exact er (.B a10)
   refine ar L 261 [(2, true), (7, true), (13, false)] [(5, .B a8), (9, .cv (.str a9))] [] (cs := [(decide (a7_2 = 0)) = true, PCall V P 17 [.cv (.ro .t_api_Token a2_0), .cv (.ro .t_api_Token a7_0)] (.B a8), True, a8 = true, PCall V P 18 [.cv (.ro .t_api_Token a7_0)] (.cv (.str a9)), True, (decide (a9 = a5)) = false]) (S' := ⟨[(2, .B false)], []⟩) (And.intro (decide_eq_true c5) (And.intro (workflowlaw07_same.ok h8) (And.intro trivial (And.intro c6 (And.intro (token_Spell.ok h9) (And.intro trivial (decide_eq_false c7))))))) ?_
   refine awp_ret ?_
   obtain rfl := Option.some.inj h
   exact er (.B false)
  refine ar L 261 [(2, true), (7, false)] [(5, .B a8)] [] (cs := [(decide (a7_2 = 0)) = true, PCall V P 17 [.cv (.ro .t_api_Token a2_0), .cv (.ro .t_api_Token a7_0)] (.B a8), True, a8 = false]) (S' := ⟨[(2, .B false)], []⟩) (And.intro (decide_eq_true c5) (And.intro (workflowlaw07_same.ok h8) (And.intro trivial (eq_false_of_ne_true c6)))) ?_
  refine awp_ret ?_
  obtain rfl := Option.some.inj h
  exact er (.B false)
 refine ar L 261 [(2, false)] [] [] (cs := [(decide (a7_2 = 0)) = false]) (S' := ⟨[(2, .B false)], []⟩) (decide_eq_false c5) ?_
 refine awp_ret ?_
 obtain rfl := Option.some.inj h
 exact er (.B false)
theorem workflowlaw07_TokenAgain.ok {K : Nat} {p0 : List UInt8} {r : Bool} (h : workflowlaw07_TokenAgain K p0 = some r) : PCall V P 9 [.cv (.str p0)] (.B r) := ECall.pcall (eo (fn := Tryd.f9) (n := 64) (m := 100) fun Γ => workflowlaw07_TokenAgain.body h) (by kernel_rfl)
end Go.Proofs.YtahpbjjfpbmaiaaDoor
