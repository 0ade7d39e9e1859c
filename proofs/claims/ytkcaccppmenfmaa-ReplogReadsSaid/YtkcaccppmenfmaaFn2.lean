/- What functions of the program compute, as Lean functions, and that they compute it. -/
import Derived.Test.YtkcaccppmenfmaaFn1
set_option linter.unusedVariables false
namespace Go.Proofs.Ytkcaccppmenfmaa
open Eng

def workflowlaw54_BallotUpToDate (K : Nat) (p0 : api_Replica) (p1 : Int) (p2 : Int) (p3 : Int) : Option Bool := (Option.bind (((Option.bind (workflowlaw54_large K p0) (fun a1 => (if a1 = true then some true else (Option.bind (workflowref52_Right K p0) (fun a2 => (if a2 = true then some ((decide ((p0.Log.length : Int) = 0))) else some true))))))) : Option Bool) (fun xt29_4 => (if xt29_4 = true then (Option.bind (workflowlaw54_works K) (fun a3 => some a3)) else (Option.bind (workflowref52_Last K p0) (fun (a4_0, a4_1) => (Option.bind (ballot_Ask K p0 p1 p2 ((if (0 : Int) > (IntKind.i64.wrap ((IntKind.i64.wrap (a4_0 - 1)) - (IntKind.i64.wrap p3))) then 0 else (IntKind.i64.wrap ((IntKind.i64.wrap (a4_0 - 1)) - (IntKind.i64.wrap p3))))) a4_1) (fun (a5_0, a5_1, a5_2) => (Option.bind (ballot_Ask K p0 p1 p2 ((IntKind.i64.wrap (a4_0 + (IntKind.i64.wrap p3)))) ((IntKind.i64.wrap (a4_1 - 1)))) (fun (a6_0, a6_1, a6_2) => (if a5_1 = true then some false else (if a6_1 = true then some false else (Option.bind (workflowlaw54_works K) (fun a7 => some a7)))))))))))))

theorem workflowlaw54_BallotUpToDate.body {Γ : Ent} {K : Nat} {p0 : api_Replica} {p1 : Int} {p2 : Int} {p3 : Int} {r : Bool} (h : workflowlaw54_BallotUpToDate K p0 p1 p2 p3 = some r) : AWp V P 74 0 Γ (Try.f11.body.getD .skip) (Eng.Ends P V Try.f11 (.cv (.lit (.bool r)))) ⟨args0 0 [.agg [.lit (.int .i64 p0.Epoch), .lit (.int .i64 p0.Vote), .lit (.int .i64 p0.Commit), .ro Tag.t_api_Entry p0.Log], .cv (.lit (.int .i64 p1)), .cv (.lit (.int .i64 p2)), .cv (.lit (.int .u8 p3))], []⟩ := by
  unfold workflowlaw54_BallotUpToDate at h
  refine awp_seq ?_
  refine awp_region L 0 [] [] [1, 2, 3, 4] [0] (cs := []) (S' := ⟨[(1, .cv (.lit (.int .i64 p1))), (2, .cv (.lit (.int .i64 p2))), (3, .cv (.lit (.int .u8 p3))), (4, .cv (.ptr 0 0))], [(0, .raw [.lit (.int .i64 p0.Epoch), .lit (.int .i64 p0.Vote), .lit (.int .i64 p0.Commit), .ro Tag.t_api_Entry p0.Log])]⟩) (by kernel_rfl) trivial ?_
  refine awp_seq ?_
  obtain ⟨o1, hp1, h⟩ := bind_some h
  refine awp_seq (awp_mono (Q' := fun e S => (e = .normal ∧ ∃ xt29_4 : Bool, S = ⟨[(1, .cv (.lit (.int .i64 p1))), (2, .cv (.lit (.int .i64 p2))), (3, .cv (.lit (.int .u8 p3))), (4, .cv (.ptr 0 0)), (29, .cv (.lit (.bool xt29_4)))], [(0, .raw [.lit (.int .i64 p0.Epoch), .lit (.int .i64 p0.Vote), .lit (.int .i64 p0.Commit), .ro Tag.t_api_Entry p0.Log])]⟩ ∧ xt29_4 = o1)) ?_ ?_)
  · clear h
    replace h := hp1
    obtain ⟨a1, h1, h⟩ := bind_some h
    rcases ite_some h with ⟨c1, h⟩ | ⟨c1, h⟩
    · refine awp_region L 3 [(2, true)] [(1, .cv (.lit (.bool a1)))] [1, 2, 3, 4, 29] [0] (cs := [PCall V P 33 [.agg [.lit (.int .i64 p0.Epoch), .lit (.int .i64 p0.Vote), .lit (.int .i64 p0.Commit), .ro Tag.t_api_Entry p0.Log]] (.cv (.lit (.bool a1))), True, a1 = true]) (S' := ⟨[(1, .cv (.lit (.int .i64 p1))), (2, .cv (.lit (.int .i64 p2))), (3, .cv (.lit (.int .u8 p3))), (4, .cv (.ptr 0 0)), (29, .cv (.lit (.bool true)))], [(0, .raw [.lit (.int .i64 p0.Epoch), .lit (.int .i64 p0.Vote), .lit (.int .i64 p0.Commit), .ro Tag.t_api_Entry p0.Log])]⟩) (by kernel_rfl) (And.intro (workflowlaw54_large.ok h1) (And.intro trivial c1)) ?_
      have hr := Option.some.inj h
      subst hr
      exact ⟨rfl, _, rfl, rfl⟩
    · obtain ⟨a2, h2, h⟩ := bind_some h
      rcases ite_some h with ⟨c2, h⟩ | ⟨c2, h⟩
      · refine awp_region L 3 [(2, false), (7, false)] [(1, .cv (.lit (.bool a1))), (4, .cv (.lit (.bool a2)))] [1, 2, 3, 4, 29] [0] (cs := [PCall V P 33 [.agg [.lit (.int .i64 p0.Epoch), .lit (.int .i64 p0.Vote), .lit (.int .i64 p0.Commit), .ro Tag.t_api_Entry p0.Log]] (.cv (.lit (.bool a1))), True, a1 = false, PCall V P 17 [.agg [.lit (.int .i64 p0.Epoch), .lit (.int .i64 p0.Vote), .lit (.int .i64 p0.Commit), .ro Tag.t_api_Entry p0.Log]] (.cv (.lit (.bool a2))), True, (!a2) = false]) (S' := ⟨[(1, .cv (.lit (.int .i64 p1))), (2, .cv (.lit (.int .i64 p2))), (3, .cv (.lit (.int .u8 p3))), (4, .cv (.ptr 0 0)), (29, .cv (.lit (.bool ((decide ((p0.Log.length : Int) = 0))))))], [(0, .raw [.lit (.int .i64 p0.Epoch), .lit (.int .i64 p0.Vote), .lit (.int .i64 p0.Commit), .ro Tag.t_api_Entry p0.Log])]⟩) (by kernel_rfl) (And.intro (workflowlaw54_large.ok h1) (And.intro trivial (And.intro (eq_false_of_ne_true c1) (And.intro (workflowref52_Right.ok h2) (And.intro trivial (congrArg Bool.not (c2))))))) ?_
        have hr := Option.some.inj h
        subst hr
        exact ⟨rfl, _, rfl, rfl⟩
      · refine awp_region L 3 [(2, false), (7, true)] [(1, .cv (.lit (.bool a1))), (4, .cv (.lit (.bool a2)))] [1, 2, 3, 4, 29] [0] (cs := [PCall V P 33 [.agg [.lit (.int .i64 p0.Epoch), .lit (.int .i64 p0.Vote), .lit (.int .i64 p0.Commit), .ro Tag.t_api_Entry p0.Log]] (.cv (.lit (.bool a1))), True, a1 = false, PCall V P 17 [.agg [.lit (.int .i64 p0.Epoch), .lit (.int .i64 p0.Vote), .lit (.int .i64 p0.Commit), .ro Tag.t_api_Entry p0.Log]] (.cv (.lit (.bool a2))), True, (!a2) = true]) (S' := ⟨[(1, .cv (.lit (.int .i64 p1))), (2, .cv (.lit (.int .i64 p2))), (3, .cv (.lit (.int .u8 p3))), (4, .cv (.ptr 0 0)), (29, .cv (.lit (.bool true)))], [(0, .raw [.lit (.int .i64 p0.Epoch), .lit (.int .i64 p0.Vote), .lit (.int .i64 p0.Commit), .ro Tag.t_api_Entry p0.Log])]⟩) (by kernel_rfl) (And.intro (workflowlaw54_large.ok h1) (And.intro trivial (And.intro (eq_false_of_ne_true c1) (And.intro (workflowref52_Right.ok h2) (And.intro trivial (congrArg Bool.not (eq_false_of_ne_true c2))))))) ?_
        have hr := Option.some.inj h
        subst hr
        exact ⟨rfl, _, rfl, rfl⟩
  · rintro e S ⟨rfl, xt29_4, rfl, rfl⟩
    rcases ite_some h with ⟨c3, h⟩ | ⟨c3, h⟩
    · refine awp_true (b := xt29_4) (by kernel_rfl) (c3) ?_
      refine awp_seq ?_
      obtain ⟨a3, h3, h⟩ := bind_some h
      refine awp_region L 17 [] [(0, .cv (.lit (.bool a3)))] [8] [] (cs := [PCall V P 32 [] (.cv (.lit (.bool a3))), True]) (S' := ⟨[(8, .cv (.lit (.bool a3)))], []⟩) (by kernel_rfl) (And.intro (workflowlaw54_works.ok h3) trivial) ?_
      refine awp_ret ?_
      have hr := Option.some.inj h
      subst hr
      exact ⟨.inr rfl, .cv (.lit (.bool a3)), by kernel_rfl, by kernel_rfl, trivial, by kernel_rfl⟩
    · refine awp_false (b := xt29_4) (by kernel_rfl) (eq_false_of_ne_true c3) ?_
      refine awp_skip [1, 2, 3, 4] [0] (S' := ⟨[(1, .cv (.lit (.int .i64 p1))), (2, .cv (.lit (.int .i64 p2))), (3, .cv (.lit (.int .u8 p3))), (4, .cv (.ptr 0 0))], [(0, .raw [.lit (.int .i64 p0.Epoch), .lit (.int .i64 p0.Vote), .lit (.int .i64 p0.Commit), .ro Tag.t_api_Entry p0.Log])]⟩) (by kernel_rfl) ?_
      refine awp_seq ?_
      obtain ⟨⟨a4_0, a4_1⟩, h4, h⟩ := bind_some h
      dsimp only at h
      refine awp_region L 20 [] [(1, .tup [.cv (.lit (.int .i64 a4_0)), .cv (.lit (.int .i64 a4_1))])] [1, 2, 3, 4, 9, 10] [0] (cs := [PCall V P 23 [.agg [.lit (.int .i64 p0.Epoch), .lit (.int .i64 p0.Vote), .lit (.int .i64 p0.Commit), .ro Tag.t_api_Entry p0.Log]] (.tup [.cv (.lit (.int .i64 a4_0)), .cv (.lit (.int .i64 a4_1))]), True]) (S' := ⟨[(1, .cv (.lit (.int .i64 p1))), (2, .cv (.lit (.int .i64 p2))), (3, .cv (.lit (.int .u8 p3))), (4, .cv (.ptr 0 0)), (9, .cv (.lit (.int .i64 a4_0))), (10, .cv (.lit (.int .i64 a4_1)))], [(0, .raw [.lit (.int .i64 p0.Epoch), .lit (.int .i64 p0.Vote), .lit (.int .i64 p0.Commit), .ro Tag.t_api_Entry p0.Log])]⟩) (by kernel_rfl) (And.intro (workflowref52_Last.ok h4) trivial) ?_
      refine awp_seq ?_
      obtain ⟨⟨a5_0, a5_1, a5_2⟩, h5, h⟩ := bind_some h
      dsimp only at h
      refine awp_region L 28 [] [(10, .tup [.agg [.lit (.int .i64 a5_0.Epoch), .lit (.int .i64 a5_0.Vote), .lit (.int .i64 a5_0.Commit), .ro Tag.t_api_Entry a5_0.Log], .cv (.lit (.bool a5_1)), .cv (.lit (.int .i64 a5_2))])] [1, 2, 3, 4, 9, 10, 12] [0] (cs := [PCall V P 34 [.agg [.lit (.int .i64 p0.Epoch), .lit (.int .i64 p0.Vote), .lit (.int .i64 p0.Commit), .ro Tag.t_api_Entry p0.Log], .cv (.lit (.int .i64 p1)), .cv (.lit (.int .i64 p2)), .cv (.lit (.int .i64 ((if (0 : Int) > (IntKind.i64.wrap ((IntKind.i64.wrap (a4_0 - 1)) - (IntKind.i64.wrap p3))) then 0 else (IntKind.i64.wrap ((IntKind.i64.wrap (a4_0 - 1)) - (IntKind.i64.wrap p3))))))), .cv (.lit (.int .i64 a4_1))] (.tup [.agg [.lit (.int .i64 a5_0.Epoch), .lit (.int .i64 a5_0.Vote), .lit (.int .i64 a5_0.Commit), .ro Tag.t_api_Entry a5_0.Log], .cv (.lit (.bool a5_1)), .cv (.lit (.int .i64 a5_2))]), True]) (S' := ⟨[(1, .cv (.lit (.int .i64 p1))), (2, .cv (.lit (.int .i64 p2))), (3, .cv (.lit (.int .u8 p3))), (4, .cv (.ptr 0 0)), (9, .cv (.lit (.int .i64 a4_0))), (10, .cv (.lit (.int .i64 a4_1))), (12, .cv (.lit (.bool a5_1)))], [(0, .raw [.lit (.int .i64 p0.Epoch), .lit (.int .i64 p0.Vote), .lit (.int .i64 p0.Commit), .ro Tag.t_api_Entry p0.Log])]⟩) (by kernel_rfl) (And.intro (ballot_Ask.ok h5) trivial) ?_
      refine awp_seq ?_
      obtain ⟨⟨a6_0, a6_1, a6_2⟩, h6, h⟩ := bind_some h
      dsimp only at h
      refine awp_region L 48 [] [(9, .tup [.agg [.lit (.int .i64 a6_0.Epoch), .lit (.int .i64 a6_0.Vote), .lit (.int .i64 a6_0.Commit), .ro Tag.t_api_Entry a6_0.Log], .cv (.lit (.bool a6_1)), .cv (.lit (.int .i64 a6_2))])] [12, 15] [] (cs := [PCall V P 34 [.agg [.lit (.int .i64 p0.Epoch), .lit (.int .i64 p0.Vote), .lit (.int .i64 p0.Commit), .ro Tag.t_api_Entry p0.Log], .cv (.lit (.int .i64 p1)), .cv (.lit (.int .i64 p2)), .cv (.lit (.int .i64 ((IntKind.i64.wrap (a4_0 + (IntKind.i64.wrap p3)))))), .cv (.lit (.int .i64 ((IntKind.i64.wrap (a4_1 - 1)))))] (.tup [.agg [.lit (.int .i64 a6_0.Epoch), .lit (.int .i64 a6_0.Vote), .lit (.int .i64 a6_0.Commit), .ro Tag.t_api_Entry a6_0.Log], .cv (.lit (.bool a6_1)), .cv (.lit (.int .i64 a6_2))]), True]) (S' := ⟨[(12, .cv (.lit (.bool a5_1))), (15, .cv (.lit (.bool a6_1)))], []⟩) (by kernel_rfl) (And.intro (ballot_Ask.ok h6) trivial) ?_
      refine awp_seq ?_
      rcases ite_some h with ⟨c4, h⟩ | ⟨c4, h⟩
      · refine awp_region L 67 [(2, false)] [] [8] [] (cs := [(!a5_1) = false]) (S' := ⟨[(8, .cv (.lit (.bool false)))], []⟩) (by kernel_rfl) (congrArg Bool.not (c4)) ?_
        refine awp_ret ?_
        have hr := Option.some.inj h
        subst hr
        exact ⟨.inr rfl, .cv (.lit (.bool false)), by kernel_rfl, by kernel_rfl, trivial, by kernel_rfl⟩
      · rcases ite_some h with ⟨c5, h⟩ | ⟨c5, h⟩
        · refine awp_region L 67 [(2, true), (6, false)] [] [8] [] (cs := [(!a5_1) = true, (!a6_1) = false]) (S' := ⟨[(8, .cv (.lit (.bool false)))], []⟩) (by kernel_rfl) (And.intro (congrArg Bool.not (eq_false_of_ne_true c4)) (congrArg Bool.not (c5))) ?_
          refine awp_ret ?_
          have hr := Option.some.inj h
          subst hr
          exact ⟨.inr rfl, .cv (.lit (.bool false)), by kernel_rfl, by kernel_rfl, trivial, by kernel_rfl⟩
        · obtain ⟨a7, h7, h⟩ := bind_some h
          refine awp_region L 67 [(2, true), (6, true)] [(7, .cv (.lit (.bool a7)))] [8] [] (cs := [(!a5_1) = true, (!a6_1) = true, PCall V P 32 [] (.cv (.lit (.bool a7))), True]) (S' := ⟨[(8, .cv (.lit (.bool a7)))], []⟩) (by kernel_rfl) (And.intro (congrArg Bool.not (eq_false_of_ne_true c4)) (And.intro (congrArg Bool.not (eq_false_of_ne_true c5)) (And.intro (workflowlaw54_works.ok h7) trivial))) ?_
          refine awp_ret ?_
          have hr := Option.some.inj h
          subst hr
          exact ⟨.inr rfl, .cv (.lit (.bool a7)), by kernel_rfl, by kernel_rfl, trivial, by kernel_rfl⟩

theorem workflowlaw54_BallotUpToDate.ok {K : Nat} {p0 : api_Replica} {p1 : Int} {p2 : Int} {p3 : Int} {r : Bool} (h : workflowlaw54_BallotUpToDate K p0 p1 p2 p3 = some r) : PCall V P 11 [.agg [.lit (.int .i64 p0.Epoch), .lit (.int .i64 p0.Vote), .lit (.int .i64 p0.Commit), .ro Tag.t_api_Entry p0.Log], .cv (.lit (.int .i64 p1)), .cv (.lit (.int .i64 p2)), .cv (.lit (.int .u8 p3))] (.cv (.lit (.bool r))) :=
  pcall_of (fn := Try.f11) (n := 74) (by kernel_rfl) (by kernel_rfl) (by kernel_rfl) rfl (by kernel_rfl) (by kernel_rfl) fun Γ => workflowlaw54_BallotUpToDate.body h

def workflowlaw52_few.l7 (K : Nat) (p0 : List (List api_Entry)) : Nat → Int → Option (Out Bool Unit)
  | 0, _ => none
  | k + 1, xt7_7h => (if xt7_7h < (p0.length : Int) then (if (0 : Int) ≤ xt7_7h ∧ (xt7_7h : Int) < (p0.length : Int) then (if (((p0.getD (Int.toNat xt7_7h) ([] : List api_Entry))).length : Int) > 200 then some (Out.done false) else workflowlaw52_few.l7 K p0 k ((IntKind.i64.wrap (xt7_7h + 1)))) else none) else some (Out.go ()))

def workflowlaw52_few (K : Nat) (p0 : List (List api_Entry)) : Option Bool := (obind (workflowlaw52_few.l7 K p0 K 0 : Option (Out Bool Unit)) (fun r => r) (fun _ => some true))

theorem workflowlaw52_few.body {Γ : Ent} {K : Nat} {p0 : List (List api_Entry)} {r : Bool} (h : workflowlaw52_few K p0 = some r) : AWp V P 15 0 Γ (Try.f12.body.getD .skip) (Eng.Ends P V Try.f12 (.cv (.lit (.bool r)))) ⟨args0 0 [.cv (.ro Tag.t_sl_api_Entry p0)], []⟩ := by
  unfold workflowlaw52_few at h
  refine awp_seq ?_
  refine awp_region L 0 [] [] [0] [] (cs := []) (S' := ⟨[(0, .cv (.ro Tag.t_sl_api_Entry p0))], []⟩) (by kernel_rfl) trivial ?_
  refine awp_seq ?_
  refine awp_seq ?_
  refine awp_region L 2 [] [] [5, 6, 7] [] (cs := []) (S' := ⟨[(5, .cv (.ro Tag.t_sl_api_Entry p0)), (6, .cv (.lit (.int .i64 (p0.length : Int)))), (7, .cv (.lit (.int .i64 0)))], []⟩) (by kernel_rfl) trivial ?_
  refine awp_block ?_
  refine awp_keep (ts := [5, 6, 7]) (ids := []) (S' := ⟨[(5, .cv (.ro Tag.t_sl_api_Entry p0)), (6, .cv (.lit (.int .i64 (p0.length : Int)))), (7, .cv (.lit (.int .i64 0)))], []⟩) (by kernel_rfl) ?_
  obtain ⟨o1, hp1, h⟩ := obind_some h
  refine awp_mono (Q' := fun e S => (e = .exit 0 ∧ S = ⟨[], []⟩ ∧ Out.go () = o1) ∨ (e = .ret ∧ ∃ a, Out.done a = o1 ∧ Eng.Ends P V Try.f12 (.cv (.lit (.bool a))) .ret S)) (awp_loop (fun k S => ∃ xt7_7h : Int, S = ⟨[(5, .cv (.ro Tag.t_sl_api_Entry p0)), (6, .cv (.lit (.int .i64 (p0.length : Int)))), (7, .cv (.lit (.int .i64 xt7_7h)))], []⟩ ∧ workflowlaw52_few.l7 K p0 k xt7_7h = some o1) ?_ ⟨_, rfl, hp1⟩) ?_
  · clear h hp1
    intro k S hS
    obtain ⟨xt7_7h, rfl, h⟩ := hS
    cases k with
    | zero => cases h
    | succ k =>
    unfold workflowlaw52_few.l7 at h
    refine awp_seq ?_
    refine awp_region L 6 [] [] [5, 6, 7, 8] [] (cs := []) (S' := ⟨[(5, .cv (.ro Tag.t_sl_api_Entry p0)), (6, .cv (.lit (.int .i64 (p0.length : Int)))), (7, .cv (.lit (.int .i64 xt7_7h))), (8, .cv (.lit (.bool ((decide (xt7_7h < (p0.length : Int)))))))], []⟩) (by kernel_rfl) trivial ?_
    refine awp_seq ?_
    rcases ite_some h with ⟨c1, h⟩ | ⟨c1, h⟩
    · refine awp_true (b := (decide (xt7_7h < (p0.length : Int)))) (by kernel_rfl) (decide_eq_true c1) ?_
      refine awp_skip [5, 6, 7] [] (S' := ⟨[(5, .cv (.ro Tag.t_sl_api_Entry p0)), (6, .cv (.lit (.int .i64 (p0.length : Int)))), (7, .cv (.lit (.int .i64 xt7_7h)))], []⟩) (by kernel_rfl) ?_
      refine awp_seq ?_
      refine awp_block ?_
      refine awp_seq ?_
      obtain ⟨g1, h⟩ := guard_some h
      refine awp_region L 8 [] [] [4, 5, 6, 7] [] (cs := [(0 : Int) ≤ xt7_7h, (xt7_7h : Int) < (p0.length : Int)]) (S' := ⟨[(4, .cv (.ro Tag.t_api_Entry ((p0.getD (Int.toNat xt7_7h) ([] : List api_Entry))))), (5, .cv (.ro Tag.t_sl_api_Entry p0)), (6, .cv (.lit (.int .i64 (p0.length : Int)))), (7, .cv (.lit (.int .i64 xt7_7h)))], []⟩) (by kernel_rfl) (And.intro g1.1 g1.2) ?_
      refine awp_seq ?_
      refine awp_region L 12 [] [] [5, 6, 7, 13] [] (cs := []) (S' := ⟨[(5, .cv (.ro Tag.t_sl_api_Entry p0)), (6, .cv (.lit (.int .i64 (p0.length : Int)))), (7, .cv (.lit (.int .i64 xt7_7h))), (13, .cv (.lit (.bool ((decide ((((p0.getD (Int.toNat xt7_7h) ([] : List api_Entry))).length : Int) > 200))))))], []⟩) (by kernel_rfl) trivial ?_
      rcases ite_some h with ⟨c2, h⟩ | ⟨c2, h⟩
      · refine awp_true (b := (decide ((((p0.getD (Int.toNat xt7_7h) ([] : List api_Entry))).length : Int) > 200))) (by kernel_rfl) (decide_eq_true c2) ?_
        refine awp_seq ?_
        refine awp_region L 16 [] [] [2] [] (cs := []) (S' := ⟨[(2, .cv (.lit (.bool false)))], []⟩) (by kernel_rfl) trivial ?_
        refine awp_ret ?_
        have hr := Option.some.inj h
        subst hr
        exact .inr ⟨rfl, _, rfl, ⟨.inr rfl, .cv (.lit (.bool false)), by kernel_rfl, by kernel_rfl, trivial, by kernel_rfl⟩⟩
      · refine awp_false (b := (decide ((((p0.getD (Int.toNat xt7_7h) ([] : List api_Entry))).length : Int) > 200))) (by kernel_rfl) (decide_eq_false c2) ?_
        refine awp_skip [5, 6, 7] [] (S' := ⟨[(5, .cv (.ro Tag.t_sl_api_Entry p0)), (6, .cv (.lit (.int .i64 (p0.length : Int)))), (7, .cv (.lit (.int .i64 xt7_7h)))], []⟩) (by kernel_rfl) ?_
        refine awp_region L 18 [] [] [5, 6, 7] [] (cs := []) (S' := ⟨[(5, .cv (.ro Tag.t_sl_api_Entry p0)), (6, .cv (.lit (.int .i64 (p0.length : Int)))), (7, .cv (.lit (.int .i64 ((IntKind.i64.wrap (xt7_7h + 1))))))], []⟩) (by kernel_rfl) trivial ?_
        exact ⟨k, Nat.lt_succ_self k, _, rfl, h⟩
    · refine awp_false (b := (decide (xt7_7h < (p0.length : Int)))) (by kernel_rfl) (decide_eq_false c1) ?_
      refine awp_exit [] [] (S' := ⟨[], []⟩) (by kernel_rfl) ?_
      have hr := Option.some.inj h
      subst hr
      exact .inl ⟨rfl, rfl, rfl⟩
  · rintro e S (⟨rfl, rfl, rfl⟩ | ⟨rfl, a, rfl, hr⟩)
    · rcases h with ⟨_, e1, h⟩ | ⟨_, e1, h⟩
      · cases e1
      · have e2 := Out.go.inj e1
        subst e2
        refine awp_seq ?_
        refine awp_region L 21 [] [] [2] [] (cs := []) (S' := ⟨[(2, .cv (.lit (.bool true)))], []⟩) (by kernel_rfl) trivial ?_
        refine awp_ret ?_
        have hr := Option.some.inj h
        subst hr
        exact ⟨.inr rfl, .cv (.lit (.bool true)), by kernel_rfl, by kernel_rfl, trivial, by kernel_rfl⟩
    · rcases h with ⟨_, e1, h⟩ | ⟨_, e1, h⟩
      · have e2 := Out.done.inj e1
        subst e2
        subst h
        exact hr
      · cases e1

theorem workflowlaw52_few.ok {K : Nat} {p0 : List (List api_Entry)} {r : Bool} (h : workflowlaw52_few K p0 = some r) : PCall V P 12 [.cv (.ro Tag.t_sl_api_Entry p0)] (.cv (.lit (.bool r))) :=
  pcall_of (fn := Try.f12) (n := 15) (by kernel_rfl) (by kernel_rfl) (by kernel_rfl) rfl (by kernel_rfl) (by kernel_rfl) fun Γ => workflowlaw52_few.body h

def replog_suits (K : Nat) (p0 : api_Replica) (p1 : Int) (p2 : Int) (p3 : Int) (p4 : List api_Entry) (p5 : Int) : Option Bool := (Option.bind (replog_Right K p0) (fun a1 => (if a1 = true then (Option.bind (replog_in K p1 1 1099511627776) (fun a2 => (if a2 = true then (Option.bind (replog_in K p2 0 5000) (fun a3 => (if a3 = true then (if p3 ≥ 0 then (if (((decide (p2 = 0)) == (decide (p3 = 0)))) = true then (if p5 ≥ 0 then (Option.bind (replog_rising K p4 p3 p1) (fun a4 => some a4)) else some false) else some false) else some false) else some false))) else some false))) else some false)))

theorem replog_suits.body {Γ : Ent} {K : Nat} {p0 : api_Replica} {p1 : Int} {p2 : Int} {p3 : Int} {p4 : List api_Entry} {p5 : Int} {r : Bool} (h : replog_suits K p0 p1 p2 p3 p4 p5 = some r) : AWp V P 44 0 Γ (Try.f40.body.getD .skip) (Eng.Ends P V Try.f40 (.cv (.lit (.bool r)))) ⟨args0 0 [.agg [.lit (.int .i64 p0.Epoch), .lit (.int .i64 p0.Vote), .lit (.int .i64 p0.Commit), .ro Tag.t_api_Entry p0.Log], .cv (.lit (.int .i64 p1)), .cv (.lit (.int .i64 p2)), .cv (.lit (.int .i64 p3)), .cv (.ro Tag.t_api_Entry p4), .cv (.lit (.int .i64 p5))], []⟩ := by
  unfold replog_suits at h
  refine awp_seq ?_
  refine awp_region L 0 [] [] [1, 2, 3, 4, 5, 6] [0] (cs := []) (S' := ⟨[(1, .cv (.lit (.int .i64 p1))), (2, .cv (.lit (.int .i64 p2))), (3, .cv (.lit (.int .i64 p3))), (4, .cv (.ro Tag.t_api_Entry p4)), (5, .cv (.lit (.int .i64 p5))), (6, .cv (.ptr 0 0))], [(0, .raw [.lit (.int .i64 p0.Epoch), .lit (.int .i64 p0.Vote), .lit (.int .i64 p0.Commit), .ro Tag.t_api_Entry p0.Log])]⟩) (by kernel_rfl) trivial ?_
  refine awp_seq ?_
  obtain ⟨a1, h1, h⟩ := bind_some h
  rcases ite_some h with ⟨c1, h⟩ | ⟨c1, h⟩
  · obtain ⟨a2, h2, h⟩ := bind_some h
    rcases ite_some h with ⟨c2, h⟩ | ⟨c2, h⟩
    · obtain ⟨a3, h3, h⟩ := bind_some h
      rcases ite_some h with ⟨c3, h⟩ | ⟨c3, h⟩
      · rcases ite_some h with ⟨c4, h⟩ | ⟨c4, h⟩
        · rcases ite_some h with ⟨c5, h⟩ | ⟨c5, h⟩
          · rcases ite_some h with ⟨c6, h⟩ | ⟨c6, h⟩
            · obtain ⟨a4, h4, h⟩ := bind_some h
              refine awp_region L 3 [(2, true), (6, true), (10, true), (14, true), (21, true), (25, true)] [(1, .cv (.lit (.bool a1))), (4, .cv (.lit (.bool a2))), (8, .cv (.lit (.bool a3))), (29, .cv (.lit (.bool a4)))] [12] [] (cs := [PCall V P 28 [.agg [.lit (.int .i64 p0.Epoch), .lit (.int .i64 p0.Vote), .lit (.int .i64 p0.Commit), .ro Tag.t_api_Entry p0.Log]] (.cv (.lit (.bool a1))), True, a1 = true, PCall V P 46 [.cv (.lit (.int .i64 p1)), .cv (.lit (.int .i64 1)), .cv (.lit (.int .i64 1099511627776))] (.cv (.lit (.bool a2))), True, a2 = true, PCall V P 46 [.cv (.lit (.int .i64 p2)), .cv (.lit (.int .i64 0)), .cv (.lit (.int .i64 5000))] (.cv (.lit (.bool a3))), True, a3 = true, (decide (p3 ≥ 0)) = true, ((decide (p2 = 0)) == (decide (p3 = 0))) = true, (decide (p5 ≥ 0)) = true, PCall V P 47 [.cv (.ro Tag.t_api_Entry p4), .cv (.lit (.int .i64 p3)), .cv (.lit (.int .i64 p1))] (.cv (.lit (.bool a4))), True]) (S' := ⟨[(12, .cv (.lit (.bool a4)))], []⟩) (by kernel_rfl) (And.intro (replog_Right.ok h1) (And.intro trivial (And.intro c1 (And.intro (replog_in.ok h2) (And.intro trivial (And.intro c2 (And.intro (replog_in.ok h3) (And.intro trivial (And.intro c3 (And.intro (decide_eq_true c4) (And.intro c5 (And.intro (decide_eq_true c6) (And.intro (replog_rising.ok h4) trivial))))))))))))) ?_
              refine awp_ret ?_
              have hr := Option.some.inj h
              subst hr
              exact ⟨.inr rfl, .cv (.lit (.bool a4)), by kernel_rfl, by kernel_rfl, trivial, by kernel_rfl⟩
            · refine awp_region L 3 [(2, true), (6, true), (10, true), (14, true), (21, true), (25, false)] [(1, .cv (.lit (.bool a1))), (4, .cv (.lit (.bool a2))), (8, .cv (.lit (.bool a3)))] [12] [] (cs := [PCall V P 28 [.agg [.lit (.int .i64 p0.Epoch), .lit (.int .i64 p0.Vote), .lit (.int .i64 p0.Commit), .ro Tag.t_api_Entry p0.Log]] (.cv (.lit (.bool a1))), True, a1 = true, PCall V P 46 [.cv (.lit (.int .i64 p1)), .cv (.lit (.int .i64 1)), .cv (.lit (.int .i64 1099511627776))] (.cv (.lit (.bool a2))), True, a2 = true, PCall V P 46 [.cv (.lit (.int .i64 p2)), .cv (.lit (.int .i64 0)), .cv (.lit (.int .i64 5000))] (.cv (.lit (.bool a3))), True, a3 = true, (decide (p3 ≥ 0)) = true, ((decide (p2 = 0)) == (decide (p3 = 0))) = true, (decide (p5 ≥ 0)) = false]) (S' := ⟨[(12, .cv (.lit (.bool false)))], []⟩) (by kernel_rfl) (And.intro (replog_Right.ok h1) (And.intro trivial (And.intro c1 (And.intro (replog_in.ok h2) (And.intro trivial (And.intro c2 (And.intro (replog_in.ok h3) (And.intro trivial (And.intro c3 (And.intro (decide_eq_true c4) (And.intro c5 (decide_eq_false c6)))))))))))) ?_
              refine awp_ret ?_
              have hr := Option.some.inj h
              subst hr
              exact ⟨.inr rfl, .cv (.lit (.bool false)), by kernel_rfl, by kernel_rfl, trivial, by kernel_rfl⟩
          · refine awp_region L 3 [(2, true), (6, true), (10, true), (14, true), (21, false)] [(1, .cv (.lit (.bool a1))), (4, .cv (.lit (.bool a2))), (8, .cv (.lit (.bool a3)))] [12] [] (cs := [PCall V P 28 [.agg [.lit (.int .i64 p0.Epoch), .lit (.int .i64 p0.Vote), .lit (.int .i64 p0.Commit), .ro Tag.t_api_Entry p0.Log]] (.cv (.lit (.bool a1))), True, a1 = true, PCall V P 46 [.cv (.lit (.int .i64 p1)), .cv (.lit (.int .i64 1)), .cv (.lit (.int .i64 1099511627776))] (.cv (.lit (.bool a2))), True, a2 = true, PCall V P 46 [.cv (.lit (.int .i64 p2)), .cv (.lit (.int .i64 0)), .cv (.lit (.int .i64 5000))] (.cv (.lit (.bool a3))), True, a3 = true, (decide (p3 ≥ 0)) = true, ((decide (p2 = 0)) == (decide (p3 = 0))) = false]) (S' := ⟨[(12, .cv (.lit (.bool false)))], []⟩) (by kernel_rfl) (And.intro (replog_Right.ok h1) (And.intro trivial (And.intro c1 (And.intro (replog_in.ok h2) (And.intro trivial (And.intro c2 (And.intro (replog_in.ok h3) (And.intro trivial (And.intro c3 (And.intro (decide_eq_true c4) (eq_false_of_ne_true c5))))))))))) ?_
            refine awp_ret ?_
            have hr := Option.some.inj h
            subst hr
            exact ⟨.inr rfl, .cv (.lit (.bool false)), by kernel_rfl, by kernel_rfl, trivial, by kernel_rfl⟩
        · refine awp_region L 3 [(2, true), (6, true), (10, true), (14, false)] [(1, .cv (.lit (.bool a1))), (4, .cv (.lit (.bool a2))), (8, .cv (.lit (.bool a3)))] [12] [] (cs := [PCall V P 28 [.agg [.lit (.int .i64 p0.Epoch), .lit (.int .i64 p0.Vote), .lit (.int .i64 p0.Commit), .ro Tag.t_api_Entry p0.Log]] (.cv (.lit (.bool a1))), True, a1 = true, PCall V P 46 [.cv (.lit (.int .i64 p1)), .cv (.lit (.int .i64 1)), .cv (.lit (.int .i64 1099511627776))] (.cv (.lit (.bool a2))), True, a2 = true, PCall V P 46 [.cv (.lit (.int .i64 p2)), .cv (.lit (.int .i64 0)), .cv (.lit (.int .i64 5000))] (.cv (.lit (.bool a3))), True, a3 = true, (decide (p3 ≥ 0)) = false]) (S' := ⟨[(12, .cv (.lit (.bool false)))], []⟩) (by kernel_rfl) (And.intro (replog_Right.ok h1) (And.intro trivial (And.intro c1 (And.intro (replog_in.ok h2) (And.intro trivial (And.intro c2 (And.intro (replog_in.ok h3) (And.intro trivial (And.intro c3 (decide_eq_false c4)))))))))) ?_
          refine awp_ret ?_
          have hr := Option.some.inj h
          subst hr
          exact ⟨.inr rfl, .cv (.lit (.bool false)), by kernel_rfl, by kernel_rfl, trivial, by kernel_rfl⟩
      · refine awp_region L 3 [(2, true), (6, true), (10, false)] [(1, .cv (.lit (.bool a1))), (4, .cv (.lit (.bool a2))), (8, .cv (.lit (.bool a3)))] [12] [] (cs := [PCall V P 28 [.agg [.lit (.int .i64 p0.Epoch), .lit (.int .i64 p0.Vote), .lit (.int .i64 p0.Commit), .ro Tag.t_api_Entry p0.Log]] (.cv (.lit (.bool a1))), True, a1 = true, PCall V P 46 [.cv (.lit (.int .i64 p1)), .cv (.lit (.int .i64 1)), .cv (.lit (.int .i64 1099511627776))] (.cv (.lit (.bool a2))), True, a2 = true, PCall V P 46 [.cv (.lit (.int .i64 p2)), .cv (.lit (.int .i64 0)), .cv (.lit (.int .i64 5000))] (.cv (.lit (.bool a3))), True, a3 = false]) (S' := ⟨[(12, .cv (.lit (.bool false)))], []⟩) (by kernel_rfl) (And.intro (replog_Right.ok h1) (And.intro trivial (And.intro c1 (And.intro (replog_in.ok h2) (And.intro trivial (And.intro c2 (And.intro (replog_in.ok h3) (And.intro trivial (eq_false_of_ne_true c3))))))))) ?_
        refine awp_ret ?_
        have hr := Option.some.inj h
        subst hr
        exact ⟨.inr rfl, .cv (.lit (.bool false)), by kernel_rfl, by kernel_rfl, trivial, by kernel_rfl⟩
    · refine awp_region L 3 [(2, true), (6, false)] [(1, .cv (.lit (.bool a1))), (4, .cv (.lit (.bool a2)))] [12] [] (cs := [PCall V P 28 [.agg [.lit (.int .i64 p0.Epoch), .lit (.int .i64 p0.Vote), .lit (.int .i64 p0.Commit), .ro Tag.t_api_Entry p0.Log]] (.cv (.lit (.bool a1))), True, a1 = true, PCall V P 46 [.cv (.lit (.int .i64 p1)), .cv (.lit (.int .i64 1)), .cv (.lit (.int .i64 1099511627776))] (.cv (.lit (.bool a2))), True, a2 = false]) (S' := ⟨[(12, .cv (.lit (.bool false)))], []⟩) (by kernel_rfl) (And.intro (replog_Right.ok h1) (And.intro trivial (And.intro c1 (And.intro (replog_in.ok h2) (And.intro trivial (eq_false_of_ne_true c2)))))) ?_
      refine awp_ret ?_
      have hr := Option.some.inj h
      subst hr
      exact ⟨.inr rfl, .cv (.lit (.bool false)), by kernel_rfl, by kernel_rfl, trivial, by kernel_rfl⟩
  · refine awp_region L 3 [(2, false)] [(1, .cv (.lit (.bool a1)))] [12] [] (cs := [PCall V P 28 [.agg [.lit (.int .i64 p0.Epoch), .lit (.int .i64 p0.Vote), .lit (.int .i64 p0.Commit), .ro Tag.t_api_Entry p0.Log]] (.cv (.lit (.bool a1))), True, a1 = false]) (S' := ⟨[(12, .cv (.lit (.bool false)))], []⟩) (by kernel_rfl) (And.intro (replog_Right.ok h1) (And.intro trivial (eq_false_of_ne_true c1))) ?_
    refine awp_ret ?_
    have hr := Option.some.inj h
    subst hr
    exact ⟨.inr rfl, .cv (.lit (.bool false)), by kernel_rfl, by kernel_rfl, trivial, by kernel_rfl⟩

theorem replog_suits.ok {K : Nat} {p0 : api_Replica} {p1 : Int} {p2 : Int} {p3 : Int} {p4 : List api_Entry} {p5 : Int} {r : Bool} (h : replog_suits K p0 p1 p2 p3 p4 p5 = some r) : PCall V P 40 [.agg [.lit (.int .i64 p0.Epoch), .lit (.int .i64 p0.Vote), .lit (.int .i64 p0.Commit), .ro Tag.t_api_Entry p0.Log], .cv (.lit (.int .i64 p1)), .cv (.lit (.int .i64 p2)), .cv (.lit (.int .i64 p3)), .cv (.ro Tag.t_api_Entry p4), .cv (.lit (.int .i64 p5))] (.cv (.lit (.bool r))) :=
  pcall_of (fn := Try.f40) (n := 44) (by kernel_rfl) (by kernel_rfl) (by kernel_rfl) rfl (by kernel_rfl) (by kernel_rfl) fun Γ => replog_suits.body h

def bytes_Equal (K : Nat) (p0 : List UInt8) (p1 : List UInt8) : Option Bool := some ((decide ((p0.map (fun b => b)) = (p1.map (fun b => b)))))

theorem bytes_Equal.body {Γ : Ent} {K : Nat} {p0 : List UInt8} {p1 : List UInt8} {r : Bool} (h : bytes_Equal K p0 p1 = some r) : AWp V P 10 0 Γ (Try.f52.body.getD .skip) (Eng.Ends P V Try.f52 (.cv (.lit (.bool r)))) ⟨args0 0 [.cv (.ro Tag.t_uint8 p0), .cv (.ro Tag.t_uint8 p1)], []⟩ := by
  unfold bytes_Equal at h
  refine awp_seq ?_
  refine awp_region L 0 [] [] [0, 1] [] (cs := []) (S' := ⟨[(0, .cv (.ro Tag.t_uint8 p0)), (1, .cv (.ro Tag.t_uint8 p1))], []⟩) (by kernel_rfl) trivial ?_
  refine awp_seq ?_
  refine awp_region L 2 [] [] [4] [] (cs := []) (S' := ⟨[(4, .cv (.lit (.bool ((decide ((p0.map (fun b => b)) = (p1.map (fun b => b))))))))], []⟩) (by kernel_rfl) trivial ?_
  refine awp_ret ?_
  have hr := Option.some.inj h
  subst hr
  exact ⟨.inr rfl, .cv (.lit (.bool ((decide ((p0.map (fun b => b)) = (p1.map (fun b => b))))))), by kernel_rfl, by kernel_rfl, trivial, by kernel_rfl⟩

theorem bytes_Equal.ok {K : Nat} {p0 : List UInt8} {p1 : List UInt8} {r : Bool} (h : bytes_Equal K p0 p1 = some r) : PCall V P 52 [.cv (.ro Tag.t_uint8 p0), .cv (.ro Tag.t_uint8 p1)] (.cv (.lit (.bool r))) :=
  pcall_of (fn := Try.f52) (n := 10) (by kernel_rfl) (by kernel_rfl) (by kernel_rfl) rfl (by kernel_rfl) (by kernel_rfl) fun Γ => bytes_Equal.body h

def replog_agree (K : Nat) (p0 : api_Entry) (p1 : api_Entry) : Option Bool := (if p0.Epoch = p1.Epoch then (Option.bind (bytes_Equal K p0.Data p1.Data) (fun a1 => some a1)) else some false)

theorem replog_agree.body {Γ : Ent} {K : Nat} {p0 : api_Entry} {p1 : api_Entry} {r : Bool} (h : replog_agree K p0 p1 = some r) : AWp V P 17 0 Γ (Try.f41.body.getD .skip) (Eng.Ends P V Try.f41 (.cv (.lit (.bool r)))) ⟨args0 0 [.agg [.lit (.int .i64 p0.Epoch), .ro Tag.t_uint8 p0.Data], .agg [.lit (.int .i64 p1.Epoch), .ro Tag.t_uint8 p1.Data]], []⟩ := by
  unfold replog_agree at h
  refine awp_seq ?_
  refine awp_region L 0 [] [] [2, 3] [0, 1] (cs := []) (S' := ⟨[(2, .cv (.ptr 0 0)), (3, .cv (.ptr 1 0))], [(0, .raw [.lit (.int .i64 p0.Epoch), .ro Tag.t_uint8 p0.Data]), (1, .raw [.lit (.int .i64 p1.Epoch), .ro Tag.t_uint8 p1.Data])]⟩) (by kernel_rfl) trivial ?_
  refine awp_seq ?_
  rcases ite_some h with ⟨c1, h⟩ | ⟨c1, h⟩
  · obtain ⟨a1, h1, h⟩ := bind_some h
    refine awp_region L 4 [(5, true)] [(10, .cv (.lit (.bool a1)))] [4] [] (cs := [(decide (p0.Epoch = p1.Epoch)) = true, PCall V P 52 [.cv (.ro Tag.t_uint8 p0.Data), .cv (.ro Tag.t_uint8 p1.Data)] (.cv (.lit (.bool a1))), True]) (S' := ⟨[(4, .cv (.lit (.bool a1)))], []⟩) (by kernel_rfl) (And.intro (decide_eq_true c1) (And.intro (bytes_Equal.ok h1) trivial)) ?_
    refine awp_ret ?_
    have hr := Option.some.inj h
    subst hr
    exact ⟨.inr rfl, .cv (.lit (.bool a1)), by kernel_rfl, by kernel_rfl, trivial, by kernel_rfl⟩
  · refine awp_region L 4 [(5, false)] [] [4] [] (cs := [(decide (p0.Epoch = p1.Epoch)) = false]) (S' := ⟨[(4, .cv (.lit (.bool false)))], []⟩) (by kernel_rfl) (decide_eq_false c1) ?_
    refine awp_ret ?_
    have hr := Option.some.inj h
    subst hr
    exact ⟨.inr rfl, .cv (.lit (.bool false)), by kernel_rfl, by kernel_rfl, trivial, by kernel_rfl⟩

theorem replog_agree.ok {K : Nat} {p0 : api_Entry} {p1 : api_Entry} {r : Bool} (h : replog_agree K p0 p1 = some r) : PCall V P 41 [.agg [.lit (.int .i64 p0.Epoch), .ro Tag.t_uint8 p0.Data], .agg [.lit (.int .i64 p1.Epoch), .ro Tag.t_uint8 p1.Data]] (.cv (.lit (.bool r))) :=
  pcall_of (fn := Try.f41) (n := 17) (by kernel_rfl) (by kernel_rfl) (by kernel_rfl) rfl (by kernel_rfl) (by kernel_rfl) fun Γ => replog_agree.body h

def slices_Clone_53 (K : Nat) (p0 : List api_Entry) : Option (List api_Entry) := if p0.length * 32 ≤ 140737488355328 then some p0 else none

theorem slices_Clone_53.body {Γ : Ent} {K : Nat} {p0 : List api_Entry} {r : List api_Entry} (h : slices_Clone_53 K p0 = some r) : AWp V P 8 0 Γ (Try.f53.body.getD .skip) (EndsF P V Try.f53 Tag.t_api_Entry r) ⟨args0 0 [.cv (.ro Tag.t_api_Entry p0)], []⟩ := by
  unfold slices_Clone_53 at h
  obtain ⟨g, h⟩ := guard_some h
  cases h
  refine awp_nilsplit 0 (tg := Tag.t_api_Entry) (xs := p0) (by kernel_rfl) (fun cap hx => ?_) ?_
  · subst hx
    refine awp_keep (ts := [0]) (ids := []) (S' := ⟨[(0, .cv (.lit (.slice none 0 cap)))], []⟩) (by kernel_rfl) ?_
    refine awp_seq ?_
    refine awp_region L 0 [] [] [0, 2] [] (cs := []) (S' := ⟨[(0, .cv (.lit (.slice none 0 cap))), (2, .cv (.lit (.slice none 0 0)))], []⟩) (by kernel_rfl) trivial ?_
    refine awp_seq ?_
    refine awp_seq ?_
    refine awp_region L 10 [] [] [4] [] (cs := []) (S' := ⟨[(4, .cv (.lit (.bool true)))], []⟩) (by kernel_rfl) trivial ?_
    refine awp_true (b := true) (by kernel_rfl) rfl ?_
    refine awp_seq ?_
    refine awp_region L 20 [] [] [2] [] (cs := []) (S' := ⟨[(2, .cv (.lit (.slice none 0 0)))], []⟩) (by kernel_rfl) trivial ?_
    refine awp_ret ?_
    exact ⟨.inr rfl, .inl ⟨by kernel_rfl, rfl⟩⟩
  · refine awp_keep (ts := [0]) (ids := []) (S' := ⟨[(0, .cv (.ron Tag.t_api_Entry p0))], []⟩) (by kernel_rfl) ?_
    refine awp_seq ?_
    refine awp_region L 0 [] [] [0] [] (cs := []) (S' := ⟨[(0, .cv (.ron Tag.t_api_Entry p0))], []⟩) (by kernel_rfl) trivial ?_
    refine awp_seq ?_
    refine awp_seq ?_
    refine awp_region L 10 [] [] [0, 4] [] (cs := []) (S' := ⟨[(0, .cv (.ron Tag.t_api_Entry p0)), (4, .cv (.lit (.bool false)))], []⟩) (by kernel_rfl) trivial ?_
    refine awp_false (b := false) (by kernel_rfl) rfl ?_
    refine awp_skip [0] [] (S' := ⟨[(0, .cv (.ron Tag.t_api_Entry p0))], []⟩) (by kernel_rfl) ?_
    refine awp_seq ?_
    refine awp_region L 30 [] [] [2] [30] (cs := [(([] : List api_Entry).length + p0.length) * 32 ≤ 140737488355328, True]) (S' := ⟨[(2, .cv (.own Tag.t_api_Entry 30))], [(30, .lst Tag.t_api_Entry p0)]⟩) (by kernel_rfl) (And.intro (by simpa using g) trivial) ?_
    refine awp_ret ?_
    exact ⟨.inr rfl, .inr ⟨30, by kernel_rfl, by kernel_rfl⟩⟩

theorem slices_Clone_53.okF {K : Nat} {p0 : List api_Entry} {r : List api_Entry} (h : slices_Clone_53 K p0 = some r) : FCall V P 53 [.cv (.ro Tag.t_api_Entry p0)] Tag.t_api_Entry r :=
  fcall_of (fn := Try.f53) (n := 8) (by kernel_rfl) (by kernel_rfl) (by kernel_rfl) rfl (by kernel_rfl) (by kernel_rfl) fun Γ => slices_Clone_53.body h

theorem slices_Clone_53.ok {K : Nat} {p0 : List api_Entry} {r : List api_Entry} (h : slices_Clone_53 K p0 = some r) : PCall V P 53 [.cv (.ro Tag.t_api_Entry p0)] (.cv (.ro Tag.t_api_Entry r)) := (slices_Clone_53.okF h).pcall

def replog_entries.l9 (K : Nat) (a1 : List api_Entry) : Nat → Int → (List api_Entry) → Option (List api_Entry)
  | 0, _, _ => none
  | k + 1, xt9_9h, xh3_9h => (if xt9_9h < (a1.length : Int) then (if (0 : Int) ≤ xt9_9h ∧ (xt9_9h : Int) < (xh3_9h.length : Int) then (if (Int.toNat xt9_9h) < xh3_9h.length then (Option.bind (bytes_Clone K (((xh3_9h.getD (Int.toNat xt9_9h) (⟨(0 : Int), ([] : List UInt8)⟩ : api_Entry))).Data)) (fun a2 => replog_entries.l9 K a1 k ((IntKind.i64.wrap (xt9_9h + 1))) ((xh3_9h.set (Int.toNat xt9_9h) ((⟨((xh3_9h.getD (Int.toNat xt9_9h) (⟨(0 : Int), ([] : List UInt8)⟩ : api_Entry))).Epoch, a2⟩ : api_Entry)))))) else none) else none) else some xh3_9h)

def replog_entries (K : Nat) (p0 : List api_Entry) : Option (List api_Entry) := (Option.bind (slices_Clone_53 K p0) (fun a1 => (Option.bind (replog_entries.l9 K a1 K 0 a1 : Option (List api_Entry)) (fun xh3_9 => some xh3_9))))

theorem replog_entries.body {Γ : Ent} {K : Nat} {p0 : List api_Entry} {r : List api_Entry} (h : replog_entries K p0 = some r) : AWp V P 24 0 Γ (Try.f42.body.getD .skip) (EndsF P V Try.f42 Tag.t_api_Entry r) ⟨args0 0 [.cv (.ro Tag.t_api_Entry p0)], []⟩ := by
  unfold replog_entries at h
  refine awp_seq ?_
  refine awp_region L 0 [] [] [0] [] (cs := []) (S' := ⟨[(0, .cv (.ro Tag.t_api_Entry p0))], []⟩) (by kernel_rfl) trivial ?_
  refine awp_seq ?_
  obtain ⟨a1, h1, h⟩ := bind_some h
  refine awp_region L 2 [] [(1, .cv (.ron Tag.t_api_Entry a1))] [3] [3] (cs := [FCall V P 53 [.cv (.ro Tag.t_api_Entry p0)] Tag.t_api_Entry a1]) (S' := ⟨[(3, .cv (.own Tag.t_api_Entry 3))], [(3, .lst Tag.t_api_Entry a1)]⟩) (by kernel_rfl) (slices_Clone_53.okF h1) ?_
  refine awp_seq ?_
  refine awp_seq ?_
  refine awp_region L 6 [] [] [3, 8, 9] [3] (cs := []) (S' := ⟨[(3, .cv (.own Tag.t_api_Entry 3)), (8, .cv (.lit (.int .i64 (a1.length : Int)))), (9, .cv (.lit (.int .i64 0)))], [(3, .lst Tag.t_api_Entry a1)]⟩) (by kernel_rfl) trivial ?_
  refine awp_block ?_
  refine awp_keep (ts := [3, 8, 9]) (ids := [3]) (S' := ⟨[(3, .cv (.own Tag.t_api_Entry 3)), (8, .cv (.lit (.int .i64 (a1.length : Int)))), (9, .cv (.lit (.int .i64 0)))], [(3, .lst Tag.t_api_Entry a1)]⟩) (by kernel_rfl) ?_
  obtain ⟨o1, hp1, h⟩ := bind_some h
  refine awp_mono (Q' := fun e S => (e = .exit 0 ∧ ∃ xh3_9 : List api_Entry, S = ⟨[(3, .cv (.own Tag.t_api_Entry 3))], [(3, .lst Tag.t_api_Entry xh3_9)]⟩ ∧ xh3_9 = o1)) (awp_loop (fun k S => ∃ xt9_9h : Int, ∃ xh3_9h : List api_Entry, S = ⟨[(3, .cv (.own Tag.t_api_Entry 3)), (8, .cv (.lit (.int .i64 (a1.length : Int)))), (9, .cv (.lit (.int .i64 xt9_9h)))], [(3, .lst Tag.t_api_Entry xh3_9h)]⟩ ∧ replog_entries.l9 K a1 k xt9_9h xh3_9h = some o1) ?_ ⟨_, _, rfl, hp1⟩) ?_
  · clear h hp1
    intro k S hS
    obtain ⟨xt9_9h, xh3_9h, rfl, h⟩ := hS
    cases k with
    | zero => cases h
    | succ k =>
    unfold replog_entries.l9 at h
    refine awp_seq ?_
    refine awp_region L 10 [] [] [3, 8, 9, 10] [3] (cs := []) (S' := ⟨[(3, .cv (.own Tag.t_api_Entry 3)), (8, .cv (.lit (.int .i64 (a1.length : Int)))), (9, .cv (.lit (.int .i64 xt9_9h))), (10, .cv (.lit (.bool ((decide (xt9_9h < (a1.length : Int)))))))], [(3, .lst Tag.t_api_Entry xh3_9h)]⟩) (by kernel_rfl) trivial ?_
    refine awp_seq ?_
    rcases ite_some h with ⟨c1, h⟩ | ⟨c1, h⟩
    · refine awp_true (b := (decide (xt9_9h < (a1.length : Int)))) (by kernel_rfl) (decide_eq_true c1) ?_
      refine awp_skip [3, 8, 9] [3] (S' := ⟨[(3, .cv (.own Tag.t_api_Entry 3)), (8, .cv (.lit (.int .i64 (a1.length : Int)))), (9, .cv (.lit (.int .i64 xt9_9h)))], [(3, .lst Tag.t_api_Entry xh3_9h)]⟩) (by kernel_rfl) ?_
      refine awp_seq ?_
      refine awp_block ?_
      refine awp_seq ?_
      refine awp_region L 12 [] [] [3, 4, 8, 9] [3] (cs := []) (S' := ⟨[(3, .cv (.own Tag.t_api_Entry 3)), (4, .cv (.lit (.int .i64 xt9_9h))), (8, .cv (.lit (.int .i64 (a1.length : Int)))), (9, .cv (.lit (.int .i64 xt9_9h)))], [(3, .lst Tag.t_api_Entry xh3_9h)]⟩) (by kernel_rfl) trivial ?_
      obtain ⟨g1, h⟩ := guard_some h
      obtain ⟨g2, h⟩ := guard_some h
      obtain ⟨a2, h2, h⟩ := bind_some h
      refine awp_region L 15 [] [(7, .cv (.ro Tag.t_uint8 a2))] [3, 8, 9] [3] (cs := [(0 : Int) ≤ xt9_9h, (xt9_9h : Int) < (xh3_9h.length : Int), (Int.toNat xt9_9h) < xh3_9h.length, PCall V P 45 [.cv (.ro Tag.t_uint8 (((xh3_9h.getD (Int.toNat xt9_9h) (⟨(0 : Int), ([] : List UInt8)⟩ : api_Entry))).Data))] (.cv (.ro Tag.t_uint8 a2)), True, (0 : Int) ≤ xt9_9h, (xt9_9h : Int) < (xh3_9h.length : Int), (Int.toNat xt9_9h) < xh3_9h.length, True]) (S' := ⟨[(3, .cv (.own Tag.t_api_Entry 3)), (8, .cv (.lit (.int .i64 (a1.length : Int)))), (9, .cv (.lit (.int .i64 xt9_9h)))], [(3, .lst Tag.t_api_Entry ((xh3_9h.set (Int.toNat xt9_9h) ((⟨((xh3_9h.getD (Int.toNat xt9_9h) (⟨(0 : Int), ([] : List UInt8)⟩ : api_Entry))).Epoch, a2⟩ : api_Entry)))))]⟩) (by kernel_rfl) (And.intro g1.1 (And.intro g1.2 (And.intro g2 (And.intro (bytes_Clone.ok h2) (And.intro trivial (And.intro g1.1 (And.intro g1.2 (And.intro g2 trivial)))))))) ?_
      refine awp_region L 27 [] [] [3, 8, 9] [3] (cs := []) (S' := ⟨[(3, .cv (.own Tag.t_api_Entry 3)), (8, .cv (.lit (.int .i64 (a1.length : Int)))), (9, .cv (.lit (.int .i64 ((IntKind.i64.wrap (xt9_9h + 1))))))], [(3, .lst Tag.t_api_Entry ((xh3_9h.set (Int.toNat xt9_9h) ((⟨((xh3_9h.getD (Int.toNat xt9_9h) (⟨(0 : Int), ([] : List UInt8)⟩ : api_Entry))).Epoch, a2⟩ : api_Entry)))))]⟩) (by kernel_rfl) trivial ?_
      exact ⟨k, Nat.lt_succ_self k, _, _, rfl, h⟩
    · refine awp_false (b := (decide (xt9_9h < (a1.length : Int)))) (by kernel_rfl) (decide_eq_false c1) ?_
      refine awp_exit [3] [3] (S' := ⟨[(3, .cv (.own Tag.t_api_Entry 3))], [(3, .lst Tag.t_api_Entry xh3_9h)]⟩) (by kernel_rfl) ?_
      have hr := Option.some.inj h
      subst hr
      exact ⟨rfl, _, rfl, rfl⟩
  · rintro e S ⟨rfl, xh3_9, rfl, rfl⟩
    refine awp_seq ?_
    refine awp_region L 30 [] [] [2] [3] (cs := []) (S' := ⟨[(2, .cv (.own Tag.t_api_Entry 3))], [(3, .lst Tag.t_api_Entry xh3_9)]⟩) (by kernel_rfl) trivial ?_
    refine awp_ret ?_
    have hr := Option.some.inj h
    subst hr
    exact ⟨.inr rfl, .inr ⟨3, by kernel_rfl, by kernel_rfl⟩⟩

theorem replog_entries.okF {K : Nat} {p0 : List api_Entry} {r : List api_Entry} (h : replog_entries K p0 = some r) : FCall V P 42 [.cv (.ro Tag.t_api_Entry p0)] Tag.t_api_Entry r :=
  fcall_of (fn := Try.f42) (n := 24) (by kernel_rfl) (by kernel_rfl) (by kernel_rfl) rfl (by kernel_rfl) (by kernel_rfl) fun Γ => replog_entries.body h

theorem replog_entries.ok {K : Nat} {p0 : List api_Entry} {r : List api_Entry} (h : replog_entries K p0 = some r) : PCall V P 42 [.cv (.ro Tag.t_api_Entry p0)] (.cv (.ro Tag.t_api_Entry r)) := (replog_entries.okF h).pcall

def replog_Accept.l28 (K : Nat) (p0 : api_Replica) (p2 : Int) (p4 : List api_Entry) : Nat → Int → Option Int
  | 0, _ => none
  | k + 1, xt14_28h => (if xt14_28h < (p4.length : Int) then (if (IntKind.i64.wrap (p2 + xt14_28h)) < (p0.Log.length : Int) then (if (0 : Int) ≤ xt14_28h ∧ (xt14_28h : Int) < (p4.length : Int) then (if (0 : Int) ≤ (IntKind.i64.wrap (p2 + xt14_28h)) ∧ ((IntKind.i64.wrap (p2 + xt14_28h)) : Int) < (p0.Log.length : Int) then (Option.bind (replog_agree K ((p4.getD (Int.toNat xt14_28h) (⟨(0 : Int), ([] : List UInt8)⟩ : api_Entry))) ((p0.Log.getD (Int.toNat ((IntKind.i64.wrap (p2 + xt14_28h)))) (⟨(0 : Int), ([] : List UInt8)⟩ : api_Entry)))) (fun a2 => (if a2 = true then replog_Accept.l28 K p0 p2 p4 k ((IntKind.i64.wrap (xt14_28h + 1))) else some xt14_28h))) else none) else none) else some xt14_28h) else some xt14_28h)

def replog_Accept (K : Nat) (p0 : api_Replica) (p1 : Int) (p2 : Int) (p3 : Int) (p4 : List api_Entry) (p5 : Int) : Option (api_Replica × Int) := (obind (((Option.bind (replog_suits K p0 p1 p2 p3 p4 p5) (fun a1 => (if a1 = true then (if p1 < p0.Epoch then some (Out.done (((⟨0, 0, 0, ([] : List api_Entry)⟩ : api_Replica), 25))) else (if (p0.Log.length : Int) < p2 then some (Out.done (((⟨0, 0, 0, ([] : List api_Entry)⟩ : api_Replica), 26))) else (if p2 > 0 then (if (0 : Int) ≤ (IntKind.i64.wrap (p2 - 1)) ∧ ((IntKind.i64.wrap (p2 - 1)) : Int) < (p0.Log.length : Int) then (if ((p0.Log.getD (Int.toNat ((IntKind.i64.wrap (p2 - 1)))) (⟨(0 : Int), ([] : List UInt8)⟩ : api_Entry))).Epoch ≠ p3 then some (Out.done (((⟨0, 0, 0, ([] : List api_Entry)⟩ : api_Replica), 26))) else some (Out.go ())) else none) else some (Out.go ())))) else some (Out.done (((⟨0, 0, 0, ([] : List api_Entry)⟩ : api_Replica), 2))))))) : Option (Out (api_Replica × Int) Unit)) (fun r => r) (fun _ => (Option.bind (replog_Accept.l28 K p0 p2 p4 K 0 : Option Int) (fun xt14_28 => (Option.bind (((if xt14_28 < (p4.length : Int) then some ((decide ((IntKind.i64.wrap (p2 + xt14_28)) < (p0.Log.length : Int)))) else some false)) : Option Bool) (fun xt15_37 => (Option.bind (((if xt15_37 = true then some ((decide ((IntKind.i64.wrap (p2 + xt14_28)) < p0.Commit))) else some false)) : Option Bool) (fun xt97_41 => (if xt97_41 = true then some (((⟨0, 0, 0, ([] : List api_Entry)⟩ : api_Replica), 16)) else (if (p4.length : Int) > (IntKind.i64.wrap (5000 - p2)) then some (((⟨0, 0, 0, ([] : List api_Entry)⟩ : api_Replica), 18)) else (Option.bind (((if p1 > p0.Epoch then some (-1) else some p0.Vote)) : Option Int) (fun xh142_1_56 => (if xt15_37 = true then (if (0 : Int) ≤ p2 ∧ p2 ≤ (p0.Log.length : Int) then (Option.bind (replog_entries K (slc p0.Log 0 p2)) (fun a3 => (Option.bind (replog_entries K p4) (fun a4 => (if (a3.length + a4.length) * 32 ≤ 140737488355328 then some (((⟨p1, xh142_1_56, (if (if (IntKind.i64.wrap (p2 + (p4.length : Int))) < p5 then (IntKind.i64.wrap (p2 + (p4.length : Int))) else p5) > p0.Commit then (if (IntKind.i64.wrap (p2 + (p4.length : Int))) < p5 then (IntKind.i64.wrap (p2 + (p4.length : Int))) else p5) else p0.Commit), (a3 ++ a4)⟩ : api_Replica), 0)) else none))))) else none) else (Option.bind (replog_entries K p0.Log) (fun a5 => (if (0 : Int) ≤ xt14_28 ∧ xt14_28 ≤ (p4.length : Int) then (Option.bind (replog_entries K ((slc p4 xt14_28 (p4.length : Int)))) (fun a6 => (if (a5.length + a6.length) * 32 ≤ 140737488355328 then some (((⟨p1, xh142_1_56, (if (if (IntKind.i64.wrap (p2 + (p4.length : Int))) < p5 then (IntKind.i64.wrap (p2 + (p4.length : Int))) else p5) > p0.Commit then (if (IntKind.i64.wrap (p2 + (p4.length : Int))) < p5 then (IntKind.i64.wrap (p2 + (p4.length : Int))) else p5) else p0.Commit), (a5 ++ a6)⟩ : api_Replica), 0)) else none))) else none))))))))))))))))

theorem replog_Accept.body {Γ : Ent} {K : Nat} {p0 : api_Replica} {p1 : Int} {p2 : Int} {p3 : Int} {p4 : List api_Entry} {p5 : Int} {r : api_Replica × Int} (h : replog_Accept K p0 p1 p2 p3 p4 p5 = some r) : AWp V P 153 0 Γ (Try.f14.body.getD .skip) (Eng.Ends P V Try.f14 (.tup [.agg [.lit (.int .i64 r.1.Epoch), .lit (.int .i64 r.1.Vote), .lit (.int .i64 r.1.Commit), .ro Tag.t_api_Entry r.1.Log], .cv (.lit (.int .i64 r.2))])) ⟨args0 0 [.agg [.lit (.int .i64 p0.Epoch), .lit (.int .i64 p0.Vote), .lit (.int .i64 p0.Commit), .ro Tag.t_api_Entry p0.Log], .cv (.lit (.int .i64 p1)), .cv (.lit (.int .i64 p2)), .cv (.lit (.int .i64 p3)), .cv (.ro Tag.t_api_Entry p4), .cv (.lit (.int .i64 p5))], []⟩ := by
  unfold replog_Accept at h
  refine awp_seq ?_
  refine awp_region L 0 [] [] [1, 2, 3, 4, 5, 6, 12] [0, 1] (cs := []) (S' := ⟨[(1, .cv (.lit (.int .i64 p1))), (2, .cv (.lit (.int .i64 p2))), (3, .cv (.lit (.int .i64 p3))), (4, .cv (.ro Tag.t_api_Entry p4)), (5, .cv (.lit (.int .i64 p5))), (6, .cv (.ptr 0 0)), (12, .cv (.ptr 1 0))], [(0, .raw [.lit (.int .i64 p0.Epoch), .lit (.int .i64 p0.Vote), .lit (.int .i64 p0.Commit), .ro Tag.t_api_Entry p0.Log]), (1, .raw [.lit (.int .i64 0), .lit (.int .i64 0), .lit (.int .i64 0), .lit (.slice none 0 0)])]⟩) (by kernel_rfl) trivial ?_
  obtain ⟨o1, hp1, h⟩ := obind_some h
  refine awp_seq (awp_mono (Q' := fun e S => (e = .normal ∧ S = ⟨[(1, .cv (.lit (.int .i64 p1))), (2, .cv (.lit (.int .i64 p2))), (4, .cv (.ro Tag.t_api_Entry p4)), (5, .cv (.lit (.int .i64 p5))), (6, .cv (.ptr 0 0)), (12, .cv (.ptr 1 0))], [(0, .raw [.lit (.int .i64 p0.Epoch), .lit (.int .i64 p0.Vote), .lit (.int .i64 p0.Commit), .ro Tag.t_api_Entry p0.Log]), (1, .raw [.lit (.int .i64 0), .lit (.int .i64 0), .lit (.int .i64 0), .lit (.slice none 0 0)])]⟩ ∧ Out.go () = o1) ∨ (e = .ret ∧ ∃ a, Out.done a = o1 ∧ Eng.Ends P V Try.f14 (.tup [.agg [.lit (.int .i64 a.1.Epoch), .lit (.int .i64 a.1.Vote), .lit (.int .i64 a.1.Commit), .ro Tag.t_api_Entry a.1.Log], .cv (.lit (.int .i64 a.2))]) .ret S)) ?_ ?_)
  · clear h
    replace h := hp1
    refine awp_block ?_
    refine awp_seq ?_
    obtain ⟨a1, h1, h⟩ := bind_some h
    refine awp_region L 4 [] [(6, .cv (.lit (.bool a1)))] [1, 2, 3, 4, 5, 6, 12, 17] [0, 1] (cs := [PCall V P 40 [.agg [.lit (.int .i64 p0.Epoch), .lit (.int .i64 p0.Vote), .lit (.int .i64 p0.Commit), .ro Tag.t_api_Entry p0.Log], .cv (.lit (.int .i64 p1)), .cv (.lit (.int .i64 p2)), .cv (.lit (.int .i64 p3)), .cv (.ro Tag.t_api_Entry p4), .cv (.lit (.int .i64 p5))] (.cv (.lit (.bool a1))), True]) (S' := ⟨[(1, .cv (.lit (.int .i64 p1))), (2, .cv (.lit (.int .i64 p2))), (3, .cv (.lit (.int .i64 p3))), (4, .cv (.ro Tag.t_api_Entry p4)), (5, .cv (.lit (.int .i64 p5))), (6, .cv (.ptr 0 0)), (12, .cv (.ptr 1 0)), (17, .cv (.lit (.bool (!a1))))], [(0, .raw [.lit (.int .i64 p0.Epoch), .lit (.int .i64 p0.Vote), .lit (.int .i64 p0.Commit), .ro Tag.t_api_Entry p0.Log]), (1, .raw [.lit (.int .i64 0), .lit (.int .i64 0), .lit (.int .i64 0), .lit (.slice none 0 0)])]⟩) (by kernel_rfl) (And.intro (replog_suits.ok h1) trivial) ?_
    rcases ite_some h with ⟨c1, h⟩ | ⟨c1, h⟩
    · refine awp_false (b := (!a1)) (by kernel_rfl) (congrArg Bool.not (c1)) ?_
      refine awp_seq ?_
      refine awp_region L 18 [] [] [1, 2, 3, 4, 5, 6, 12, 27] [0, 1] (cs := []) (S' := ⟨[(1, .cv (.lit (.int .i64 p1))), (2, .cv (.lit (.int .i64 p2))), (3, .cv (.lit (.int .i64 p3))), (4, .cv (.ro Tag.t_api_Entry p4)), (5, .cv (.lit (.int .i64 p5))), (6, .cv (.ptr 0 0)), (12, .cv (.ptr 1 0)), (27, .cv (.lit (.bool ((decide (p1 < p0.Epoch))))))], [(0, .raw [.lit (.int .i64 p0.Epoch), .lit (.int .i64 p0.Vote), .lit (.int .i64 p0.Commit), .ro Tag.t_api_Entry p0.Log]), (1, .raw [.lit (.int .i64 0), .lit (.int .i64 0), .lit (.int .i64 0), .lit (.slice none 0 0)])]⟩) (by kernel_rfl) trivial ?_
      rcases ite_some h with ⟨c2, h⟩ | ⟨c2, h⟩
      · refine awp_true (b := (decide (p1 < p0.Epoch))) (by kernel_rfl) (decide_eq_true c2) ?_
        refine awp_seq ?_
        refine awp_region L 24 [] [] [12, 13] [1] (cs := []) (S' := ⟨[(12, .cv (.ptr 1 0)), (13, .cv (.lit (.int .i64 25)))], [(1, .raw [.lit (.int .i64 0), .lit (.int .i64 0), .lit (.int .i64 0), .lit (.slice none 0 0)])]⟩) (by kernel_rfl) trivial ?_
        refine awp_ret ?_
        have hr := Option.some.inj h
        subst hr
        exact .inr ⟨rfl, _, rfl, ⟨.inr rfl, .tup [.agg [.lit (.int .i64 0), .lit (.int .i64 0), .lit (.int .i64 0), .lit (.slice none 0 0)], .cv (.lit (.int .i64 25))], by kernel_rfl, by kernel_rfl, trivial, by kernel_rfl⟩⟩
      · refine awp_false (b := (decide (p1 < p0.Epoch))) (by kernel_rfl) (decide_eq_false c2) ?_
        refine awp_seq ?_
        rcases ite_some h with ⟨c3, h⟩ | ⟨c3, h⟩
        · refine awp_region L 28 [(5, true)] [] [1, 2, 4, 5, 6, 12, 33] [0, 1] (cs := [(decide ((p0.Log.length : Int) < p2)) = true]) (S' := ⟨[(1, .cv (.lit (.int .i64 p1))), (2, .cv (.lit (.int .i64 p2))), (4, .cv (.ro Tag.t_api_Entry p4)), (5, .cv (.lit (.int .i64 p5))), (6, .cv (.ptr 0 0)), (12, .cv (.ptr 1 0)), (33, .cv (.lit (.bool true)))], [(0, .raw [.lit (.int .i64 p0.Epoch), .lit (.int .i64 p0.Vote), .lit (.int .i64 p0.Commit), .ro Tag.t_api_Entry p0.Log]), (1, .raw [.lit (.int .i64 0), .lit (.int .i64 0), .lit (.int .i64 0), .lit (.slice none 0 0)])]⟩) (by kernel_rfl) (decide_eq_true c3) ?_
          refine awp_true (b := true) (by kernel_rfl) (rfl) ?_
          refine awp_seq ?_
          refine awp_region L 50 [] [] [12, 13] [1] (cs := []) (S' := ⟨[(12, .cv (.ptr 1 0)), (13, .cv (.lit (.int .i64 26)))], [(1, .raw [.lit (.int .i64 0), .lit (.int .i64 0), .lit (.int .i64 0), .lit (.slice none 0 0)])]⟩) (by kernel_rfl) trivial ?_
          refine awp_ret ?_
          have hr := Option.some.inj h
          subst hr
          exact .inr ⟨rfl, _, rfl, ⟨.inr rfl, .tup [.agg [.lit (.int .i64 0), .lit (.int .i64 0), .lit (.int .i64 0), .lit (.slice none 0 0)], .cv (.lit (.int .i64 26))], by kernel_rfl, by kernel_rfl, trivial, by kernel_rfl⟩⟩
        · rcases ite_some h with ⟨c4, h⟩ | ⟨c4, h⟩
          · obtain ⟨g1, h⟩ := guard_some h
            refine awp_region L 28 [(5, false), (8, true)] [] [1, 2, 4, 5, 6, 12, 33] [0, 1] (cs := [(decide ((p0.Log.length : Int) < p2)) = false, (decide (p2 > 0)) = true, (0 : Int) ≤ (IntKind.i64.wrap (p2 - 1)), ((IntKind.i64.wrap (p2 - 1)) : Int) < (p0.Log.length : Int)]) (S' := ⟨[(1, .cv (.lit (.int .i64 p1))), (2, .cv (.lit (.int .i64 p2))), (4, .cv (.ro Tag.t_api_Entry p4)), (5, .cv (.lit (.int .i64 p5))), (6, .cv (.ptr 0 0)), (12, .cv (.ptr 1 0)), (33, .cv (.lit (.bool ((decide (((p0.Log.getD (Int.toNat ((IntKind.i64.wrap (p2 - 1)))) (⟨(0 : Int), ([] : List UInt8)⟩ : api_Entry))).Epoch ≠ p3))))))], [(0, .raw [.lit (.int .i64 p0.Epoch), .lit (.int .i64 p0.Vote), .lit (.int .i64 p0.Commit), .ro Tag.t_api_Entry p0.Log]), (1, .raw [.lit (.int .i64 0), .lit (.int .i64 0), .lit (.int .i64 0), .lit (.slice none 0 0)])]⟩) (by kernel_rfl) (And.intro (decide_eq_false c3) (And.intro (decide_eq_true c4) (And.intro g1.1 g1.2))) ?_
            rcases ite_some h with ⟨c5, h⟩ | ⟨c5, h⟩
            · refine awp_true (b := (decide (((p0.Log.getD (Int.toNat ((IntKind.i64.wrap (p2 - 1)))) (⟨(0 : Int), ([] : List UInt8)⟩ : api_Entry))).Epoch ≠ p3))) (by kernel_rfl) (decide_eq_true c5) ?_
              refine awp_seq ?_
              refine awp_region L 50 [] [] [12, 13] [1] (cs := []) (S' := ⟨[(12, .cv (.ptr 1 0)), (13, .cv (.lit (.int .i64 26)))], [(1, .raw [.lit (.int .i64 0), .lit (.int .i64 0), .lit (.int .i64 0), .lit (.slice none 0 0)])]⟩) (by kernel_rfl) trivial ?_
              refine awp_ret ?_
              have hr := Option.some.inj h
              subst hr
              exact .inr ⟨rfl, _, rfl, ⟨.inr rfl, .tup [.agg [.lit (.int .i64 0), .lit (.int .i64 0), .lit (.int .i64 0), .lit (.slice none 0 0)], .cv (.lit (.int .i64 26))], by kernel_rfl, by kernel_rfl, trivial, by kernel_rfl⟩⟩
            · refine awp_false (b := (decide (((p0.Log.getD (Int.toNat ((IntKind.i64.wrap (p2 - 1)))) (⟨(0 : Int), ([] : List UInt8)⟩ : api_Entry))).Epoch ≠ p3))) (by kernel_rfl) (decide_eq_false c5) ?_
              refine awp_skip [1, 2, 4, 5, 6, 12] [0, 1] (S' := ⟨[(1, .cv (.lit (.int .i64 p1))), (2, .cv (.lit (.int .i64 p2))), (4, .cv (.ro Tag.t_api_Entry p4)), (5, .cv (.lit (.int .i64 p5))), (6, .cv (.ptr 0 0)), (12, .cv (.ptr 1 0))], [(0, .raw [.lit (.int .i64 p0.Epoch), .lit (.int .i64 p0.Vote), .lit (.int .i64 p0.Commit), .ro Tag.t_api_Entry p0.Log]), (1, .raw [.lit (.int .i64 0), .lit (.int .i64 0), .lit (.int .i64 0), .lit (.slice none 0 0)])]⟩) (by kernel_rfl) ?_
              have hr := Option.some.inj h
              subst hr
              exact .inl ⟨rfl, rfl, rfl⟩
          · refine awp_region L 28 [(5, false), (8, false)] [] [1, 2, 4, 5, 6, 12, 33] [0, 1] (cs := [(decide ((p0.Log.length : Int) < p2)) = false, (decide (p2 > 0)) = false]) (S' := ⟨[(1, .cv (.lit (.int .i64 p1))), (2, .cv (.lit (.int .i64 p2))), (4, .cv (.ro Tag.t_api_Entry p4)), (5, .cv (.lit (.int .i64 p5))), (6, .cv (.ptr 0 0)), (12, .cv (.ptr 1 0)), (33, .cv (.lit (.bool false)))], [(0, .raw [.lit (.int .i64 p0.Epoch), .lit (.int .i64 p0.Vote), .lit (.int .i64 p0.Commit), .ro Tag.t_api_Entry p0.Log]), (1, .raw [.lit (.int .i64 0), .lit (.int .i64 0), .lit (.int .i64 0), .lit (.slice none 0 0)])]⟩) (by kernel_rfl) (And.intro (decide_eq_false c3) (decide_eq_false c4)) ?_
            refine awp_false (b := false) (by kernel_rfl) (rfl) ?_
            refine awp_skip [1, 2, 4, 5, 6, 12] [0, 1] (S' := ⟨[(1, .cv (.lit (.int .i64 p1))), (2, .cv (.lit (.int .i64 p2))), (4, .cv (.ro Tag.t_api_Entry p4)), (5, .cv (.lit (.int .i64 p5))), (6, .cv (.ptr 0 0)), (12, .cv (.ptr 1 0))], [(0, .raw [.lit (.int .i64 p0.Epoch), .lit (.int .i64 p0.Vote), .lit (.int .i64 p0.Commit), .ro Tag.t_api_Entry p0.Log]), (1, .raw [.lit (.int .i64 0), .lit (.int .i64 0), .lit (.int .i64 0), .lit (.slice none 0 0)])]⟩) (by kernel_rfl) ?_
            have hr := Option.some.inj h
            subst hr
            exact .inl ⟨rfl, rfl, rfl⟩
    · refine awp_true (b := (!a1)) (by kernel_rfl) (congrArg Bool.not (eq_false_of_ne_true c1)) ?_
      refine awp_seq ?_
      refine awp_region L 14 [] [] [12, 13] [1] (cs := []) (S' := ⟨[(12, .cv (.ptr 1 0)), (13, .cv (.lit (.int .i64 2)))], [(1, .raw [.lit (.int .i64 0), .lit (.int .i64 0), .lit (.int .i64 0), .lit (.slice none 0 0)])]⟩) (by kernel_rfl) trivial ?_
      refine awp_ret ?_
      have hr := Option.some.inj h
      subst hr
      exact .inr ⟨rfl, _, rfl, ⟨.inr rfl, .tup [.agg [.lit (.int .i64 0), .lit (.int .i64 0), .lit (.int .i64 0), .lit (.slice none 0 0)], .cv (.lit (.int .i64 2))], by kernel_rfl, by kernel_rfl, trivial, by kernel_rfl⟩⟩
  · rintro e S (⟨rfl, rfl, rfl⟩ | ⟨rfl, a, rfl, hr⟩)
    · rcases h with ⟨_, e1, h⟩ | ⟨_, e1, h⟩
      · cases e1
      · have e2 := Out.go.inj e1
        subst e2
        refine awp_seq ?_
        refine awp_region L 54 [] [] [1, 2, 4, 5, 6, 12, 14] [0, 1] (cs := []) (S' := ⟨[(1, .cv (.lit (.int .i64 p1))), (2, .cv (.lit (.int .i64 p2))), (4, .cv (.ro Tag.t_api_Entry p4)), (5, .cv (.lit (.int .i64 p5))), (6, .cv (.ptr 0 0)), (12, .cv (.ptr 1 0)), (14, .cv (.lit (.int .i64 0)))], [(0, .raw [.lit (.int .i64 p0.Epoch), .lit (.int .i64 p0.Vote), .lit (.int .i64 p0.Commit), .ro Tag.t_api_Entry p0.Log]), (1, .raw [.lit (.int .i64 0), .lit (.int .i64 0), .lit (.int .i64 0), .lit (.slice none 0 0)])]⟩) (by kernel_rfl) trivial ?_
        refine awp_seq ?_
        refine awp_block ?_
        refine awp_keep (ts := [1, 2, 4, 5, 6, 12, 14]) (ids := [0, 1]) (S' := ⟨[(1, .cv (.lit (.int .i64 p1))), (2, .cv (.lit (.int .i64 p2))), (4, .cv (.ro Tag.t_api_Entry p4)), (5, .cv (.lit (.int .i64 p5))), (6, .cv (.ptr 0 0)), (12, .cv (.ptr 1 0)), (14, .cv (.lit (.int .i64 0)))], [(0, .raw [.lit (.int .i64 p0.Epoch), .lit (.int .i64 p0.Vote), .lit (.int .i64 p0.Commit), .ro Tag.t_api_Entry p0.Log]), (1, .raw [.lit (.int .i64 0), .lit (.int .i64 0), .lit (.int .i64 0), .lit (.slice none 0 0)])]⟩) (by kernel_rfl) ?_
        obtain ⟨o2, hp2, h⟩ := bind_some h
        refine awp_mono (Q' := fun e S => (e = .exit 1 ∧ ∃ xt14_28 : Int, S = ⟨[(1, .cv (.lit (.int .i64 p1))), (2, .cv (.lit (.int .i64 p2))), (4, .cv (.ro Tag.t_api_Entry p4)), (5, .cv (.lit (.int .i64 p5))), (6, .cv (.ptr 0 0)), (12, .cv (.ptr 1 0)), (14, .cv (.lit (.int .i64 xt14_28)))], [(0, .raw [.lit (.int .i64 p0.Epoch), .lit (.int .i64 p0.Vote), .lit (.int .i64 p0.Commit), .ro Tag.t_api_Entry p0.Log]), (1, .raw [.lit (.int .i64 0), .lit (.int .i64 0), .lit (.int .i64 0), .lit (.slice none 0 0)])]⟩ ∧ xt14_28 = o2)) (awp_loop (fun k S => ∃ xt14_28h : Int, S = ⟨[(1, .cv (.lit (.int .i64 p1))), (2, .cv (.lit (.int .i64 p2))), (4, .cv (.ro Tag.t_api_Entry p4)), (5, .cv (.lit (.int .i64 p5))), (6, .cv (.ptr 0 0)), (12, .cv (.ptr 1 0)), (14, .cv (.lit (.int .i64 xt14_28h)))], [(0, .raw [.lit (.int .i64 p0.Epoch), .lit (.int .i64 p0.Vote), .lit (.int .i64 p0.Commit), .ro Tag.t_api_Entry p0.Log]), (1, .raw [.lit (.int .i64 0), .lit (.int .i64 0), .lit (.int .i64 0), .lit (.slice none 0 0)])]⟩ ∧ replog_Accept.l28 K p0 p2 p4 k xt14_28h = some o2) ?_ ⟨_, rfl, hp2⟩) ?_
        · clear h hp2
          intro k S hS
          obtain ⟨xt14_28h, rfl, h⟩ := hS
          cases k with
          | zero => cases h
          | succ k =>
          unfold replog_Accept.l28 at h
          refine awp_seq ?_
          refine awp_seq ?_
          rcases ite_some h with ⟨c6, h⟩ | ⟨c6, h⟩
          · rcases ite_some h with ⟨c7, h⟩ | ⟨c7, h⟩
            · obtain ⟨g2, h⟩ := guard_some h
              obtain ⟨g3, h⟩ := guard_some h
              obtain ⟨a2, h2, h⟩ := bind_some h
              refine awp_draw L mixed 56 [(4, true), (13, true)] [(25, .cv (.lit (.bool a2)))] 27 [1, 2, 4, 5, 6, 12, 14, 81] [0, 1] (cs := [(decide (xt14_28h < (p4.length : Int))) = true, (decide ((IntKind.i64.wrap (p2 + xt14_28h)) < (p0.Log.length : Int))) = true, (0 : Int) ≤ xt14_28h, (xt14_28h : Int) < (p4.length : Int), (0 : Int) ≤ (IntKind.i64.wrap (p2 + xt14_28h)), ((IntKind.i64.wrap (p2 + xt14_28h)) : Int) < (p0.Log.length : Int), PCall V P 41 [.agg [.lit (.int .i64 (((p4.getD (Int.toNat xt14_28h) (⟨(0 : Int), ([] : List UInt8)⟩ : api_Entry))).Epoch)), .ro Tag.t_uint8 (((p4.getD (Int.toNat xt14_28h) (⟨(0 : Int), ([] : List UInt8)⟩ : api_Entry))).Data)], .agg [.lit (.int .i64 (((p0.Log.getD (Int.toNat ((IntKind.i64.wrap (p2 + xt14_28h)))) (⟨(0 : Int), ([] : List UInt8)⟩ : api_Entry))).Epoch)), .ro Tag.t_uint8 (((p0.Log.getD (Int.toNat ((IntKind.i64.wrap (p2 + xt14_28h)))) (⟨(0 : Int), ([] : List UInt8)⟩ : api_Entry))).Data)]] (.cv (.lit (.bool a2))), True]) (S' := ⟨[(1, .cv (.lit (.int .i64 p1))), (2, .cv (.lit (.int .i64 p2))), (4, .cv (.ro Tag.t_api_Entry p4)), (5, .cv (.lit (.int .i64 p5))), (6, .cv (.ptr 0 0)), (12, .cv (.ptr 1 0)), (14, .cv (.lit (.int .i64 xt14_28h))), (81, .cv (.lit (.bool a2)))], [(0, .raw [.lit (.int .i64 p0.Epoch), .lit (.int .i64 p0.Vote), .lit (.int .i64 p0.Commit), .ro Tag.t_api_Entry p0.Log]), (1, .raw [.lit (.int .i64 0), .lit (.int .i64 0), .lit (.int .i64 0), .lit (.slice none 0 0)])]⟩) (by kernel_rfl) (And.intro (decide_eq_true c6) (And.intro (decide_eq_true c7) (And.intro g2.1 (And.intro g2.2 (And.intro g3.1 (And.intro g3.2 (And.intro (replog_agree.ok h2) trivial))))))) ?_
              rcases ite_some h with ⟨c8, h⟩ | ⟨c8, h⟩
              · refine awp_true (b := a2) (by kernel_rfl) (c8) ?_
                refine awp_skip [1, 2, 4, 5, 6, 12, 14] [0, 1] (S' := ⟨[(1, .cv (.lit (.int .i64 p1))), (2, .cv (.lit (.int .i64 p2))), (4, .cv (.ro Tag.t_api_Entry p4)), (5, .cv (.lit (.int .i64 p5))), (6, .cv (.ptr 0 0)), (12, .cv (.ptr 1 0)), (14, .cv (.lit (.int .i64 xt14_28h)))], [(0, .raw [.lit (.int .i64 p0.Epoch), .lit (.int .i64 p0.Vote), .lit (.int .i64 p0.Commit), .ro Tag.t_api_Entry p0.Log]), (1, .raw [.lit (.int .i64 0), .lit (.int .i64 0), .lit (.int .i64 0), .lit (.slice none 0 0)])]⟩) (by kernel_rfl) ?_
                refine awp_block ?_
                refine awp_region L 84 [] [] [1, 2, 4, 5, 6, 12, 14] [0, 1] (cs := []) (S' := ⟨[(1, .cv (.lit (.int .i64 p1))), (2, .cv (.lit (.int .i64 p2))), (4, .cv (.ro Tag.t_api_Entry p4)), (5, .cv (.lit (.int .i64 p5))), (6, .cv (.ptr 0 0)), (12, .cv (.ptr 1 0)), (14, .cv (.lit (.int .i64 ((IntKind.i64.wrap (xt14_28h + 1))))))], [(0, .raw [.lit (.int .i64 p0.Epoch), .lit (.int .i64 p0.Vote), .lit (.int .i64 p0.Commit), .ro Tag.t_api_Entry p0.Log]), (1, .raw [.lit (.int .i64 0), .lit (.int .i64 0), .lit (.int .i64 0), .lit (.slice none 0 0)])]⟩) (by kernel_rfl) trivial ?_
                exact ⟨k, Nat.lt_succ_self k, _, rfl, h⟩
              · refine awp_false (b := a2) (by kernel_rfl) (eq_false_of_ne_true c8) ?_
                refine awp_exit [1, 2, 4, 5, 6, 12, 14] [0, 1] (S' := ⟨[(1, .cv (.lit (.int .i64 p1))), (2, .cv (.lit (.int .i64 p2))), (4, .cv (.ro Tag.t_api_Entry p4)), (5, .cv (.lit (.int .i64 p5))), (6, .cv (.ptr 0 0)), (12, .cv (.ptr 1 0)), (14, .cv (.lit (.int .i64 xt14_28h)))], [(0, .raw [.lit (.int .i64 p0.Epoch), .lit (.int .i64 p0.Vote), .lit (.int .i64 p0.Commit), .ro Tag.t_api_Entry p0.Log]), (1, .raw [.lit (.int .i64 0), .lit (.int .i64 0), .lit (.int .i64 0), .lit (.slice none 0 0)])]⟩) (by kernel_rfl) ?_
                have hr := Option.some.inj h
                subst hr
                exact ⟨rfl, _, rfl, rfl⟩
            · refine awp_draw L mixed 56 [(4, true), (13, false)] [] 27 [1, 2, 4, 5, 6, 12, 14, 81] [0, 1] (cs := [(decide (xt14_28h < (p4.length : Int))) = true, (decide ((IntKind.i64.wrap (p2 + xt14_28h)) < (p0.Log.length : Int))) = false]) (S' := ⟨[(1, .cv (.lit (.int .i64 p1))), (2, .cv (.lit (.int .i64 p2))), (4, .cv (.ro Tag.t_api_Entry p4)), (5, .cv (.lit (.int .i64 p5))), (6, .cv (.ptr 0 0)), (12, .cv (.ptr 1 0)), (14, .cv (.lit (.int .i64 xt14_28h))), (81, .cv (.lit (.bool false)))], [(0, .raw [.lit (.int .i64 p0.Epoch), .lit (.int .i64 p0.Vote), .lit (.int .i64 p0.Commit), .ro Tag.t_api_Entry p0.Log]), (1, .raw [.lit (.int .i64 0), .lit (.int .i64 0), .lit (.int .i64 0), .lit (.slice none 0 0)])]⟩) (by kernel_rfl) (And.intro (decide_eq_true c6) (decide_eq_false c7)) ?_
              refine awp_false (b := false) (by kernel_rfl) (rfl) ?_
              refine awp_exit [1, 2, 4, 5, 6, 12, 14] [0, 1] (S' := ⟨[(1, .cv (.lit (.int .i64 p1))), (2, .cv (.lit (.int .i64 p2))), (4, .cv (.ro Tag.t_api_Entry p4)), (5, .cv (.lit (.int .i64 p5))), (6, .cv (.ptr 0 0)), (12, .cv (.ptr 1 0)), (14, .cv (.lit (.int .i64 xt14_28h)))], [(0, .raw [.lit (.int .i64 p0.Epoch), .lit (.int .i64 p0.Vote), .lit (.int .i64 p0.Commit), .ro Tag.t_api_Entry p0.Log]), (1, .raw [.lit (.int .i64 0), .lit (.int .i64 0), .lit (.int .i64 0), .lit (.slice none 0 0)])]⟩) (by kernel_rfl) ?_
              have hr := Option.some.inj h
              subst hr
              exact ⟨rfl, _, rfl, rfl⟩
          · refine awp_draw L mixed 56 [(4, false)] [] 27 [1, 2, 4, 5, 6, 12, 14, 81] [0, 1] (cs := [(decide (xt14_28h < (p4.length : Int))) = false]) (S' := ⟨[(1, .cv (.lit (.int .i64 p1))), (2, .cv (.lit (.int .i64 p2))), (4, .cv (.ro Tag.t_api_Entry p4)), (5, .cv (.lit (.int .i64 p5))), (6, .cv (.ptr 0 0)), (12, .cv (.ptr 1 0)), (14, .cv (.lit (.int .i64 xt14_28h))), (81, .cv (.lit (.bool false)))], [(0, .raw [.lit (.int .i64 p0.Epoch), .lit (.int .i64 p0.Vote), .lit (.int .i64 p0.Commit), .ro Tag.t_api_Entry p0.Log]), (1, .raw [.lit (.int .i64 0), .lit (.int .i64 0), .lit (.int .i64 0), .lit (.slice none 0 0)])]⟩) (by kernel_rfl) (decide_eq_false c6) ?_
            refine awp_false (b := false) (by kernel_rfl) (rfl) ?_
            refine awp_exit [1, 2, 4, 5, 6, 12, 14] [0, 1] (S' := ⟨[(1, .cv (.lit (.int .i64 p1))), (2, .cv (.lit (.int .i64 p2))), (4, .cv (.ro Tag.t_api_Entry p4)), (5, .cv (.lit (.int .i64 p5))), (6, .cv (.ptr 0 0)), (12, .cv (.ptr 1 0)), (14, .cv (.lit (.int .i64 xt14_28h)))], [(0, .raw [.lit (.int .i64 p0.Epoch), .lit (.int .i64 p0.Vote), .lit (.int .i64 p0.Commit), .ro Tag.t_api_Entry p0.Log]), (1, .raw [.lit (.int .i64 0), .lit (.int .i64 0), .lit (.int .i64 0), .lit (.slice none 0 0)])]⟩) (by kernel_rfl) ?_
            have hr := Option.some.inj h
            subst hr
            exact ⟨rfl, _, rfl, rfl⟩
        · rintro e S ⟨rfl, xt14_28, rfl, rfl⟩
          obtain ⟨o3, hp3, h⟩ := bind_some h
          refine awp_seq (awp_mono (Q' := fun e S => (e = .normal ∧ ∃ xt15_37 : Bool, S = ⟨[(1, .cv (.lit (.int .i64 p1))), (2, .cv (.lit (.int .i64 p2))), (4, .cv (.ro Tag.t_api_Entry p4)), (5, .cv (.lit (.int .i64 p5))), (6, .cv (.ptr 0 0)), (12, .cv (.ptr 1 0)), (14, .cv (.lit (.int .i64 xt14_28))), (15, .cv (.lit (.bool xt15_37)))], [(0, .raw [.lit (.int .i64 p0.Epoch), .lit (.int .i64 p0.Vote), .lit (.int .i64 p0.Commit), .ro Tag.t_api_Entry p0.Log]), (1, .raw [.lit (.int .i64 0), .lit (.int .i64 0), .lit (.int .i64 0), .lit (.slice none 0 0)])]⟩ ∧ xt15_37 = o3)) ?_ ?_)
          · clear h
            replace h := hp3
            rcases ite_some h with ⟨c9, h⟩ | ⟨c9, h⟩
            · refine awp_region L 88 [(4, true)] [] [1, 2, 4, 5, 6, 12, 14, 15] [0, 1] (cs := [(decide (xt14_28 < (p4.length : Int))) = true]) (S' := ⟨[(1, .cv (.lit (.int .i64 p1))), (2, .cv (.lit (.int .i64 p2))), (4, .cv (.ro Tag.t_api_Entry p4)), (5, .cv (.lit (.int .i64 p5))), (6, .cv (.ptr 0 0)), (12, .cv (.ptr 1 0)), (14, .cv (.lit (.int .i64 xt14_28))), (15, .cv (.lit (.bool ((decide ((IntKind.i64.wrap (p2 + xt14_28)) < (p0.Log.length : Int)))))))], [(0, .raw [.lit (.int .i64 p0.Epoch), .lit (.int .i64 p0.Vote), .lit (.int .i64 p0.Commit), .ro Tag.t_api_Entry p0.Log]), (1, .raw [.lit (.int .i64 0), .lit (.int .i64 0), .lit (.int .i64 0), .lit (.slice none 0 0)])]⟩) (by kernel_rfl) (decide_eq_true c9) ?_
              have hr := Option.some.inj h
              subst hr
              exact ⟨rfl, _, rfl, rfl⟩
            · refine awp_region L 88 [(4, false)] [] [1, 2, 4, 5, 6, 12, 14, 15] [0, 1] (cs := [(decide (xt14_28 < (p4.length : Int))) = false]) (S' := ⟨[(1, .cv (.lit (.int .i64 p1))), (2, .cv (.lit (.int .i64 p2))), (4, .cv (.ro Tag.t_api_Entry p4)), (5, .cv (.lit (.int .i64 p5))), (6, .cv (.ptr 0 0)), (12, .cv (.ptr 1 0)), (14, .cv (.lit (.int .i64 xt14_28))), (15, .cv (.lit (.bool false)))], [(0, .raw [.lit (.int .i64 p0.Epoch), .lit (.int .i64 p0.Vote), .lit (.int .i64 p0.Commit), .ro Tag.t_api_Entry p0.Log]), (1, .raw [.lit (.int .i64 0), .lit (.int .i64 0), .lit (.int .i64 0), .lit (.slice none 0 0)])]⟩) (by kernel_rfl) (decide_eq_false c9) ?_
              have hr := Option.some.inj h
              subst hr
              exact ⟨rfl, _, rfl, rfl⟩
          · rintro e S ⟨rfl, xt15_37, rfl, rfl⟩
            refine awp_seq ?_
            refine awp_block ?_
            obtain ⟨o4, hp4, h⟩ := bind_some h
            refine awp_seq (awp_mono (Q' := fun e S => (e = .normal ∧ ∃ xt97_41 : Bool, S = ⟨[(1, .cv (.lit (.int .i64 p1))), (2, .cv (.lit (.int .i64 p2))), (4, .cv (.ro Tag.t_api_Entry p4)), (5, .cv (.lit (.int .i64 p5))), (6, .cv (.ptr 0 0)), (12, .cv (.ptr 1 0)), (14, .cv (.lit (.int .i64 xt14_28))), (15, .cv (.lit (.bool xt15_37))), (97, .cv (.lit (.bool xt97_41)))], [(0, .raw [.lit (.int .i64 p0.Epoch), .lit (.int .i64 p0.Vote), .lit (.int .i64 p0.Commit), .ro Tag.t_api_Entry p0.Log]), (1, .raw [.lit (.int .i64 0), .lit (.int .i64 0), .lit (.int .i64 0), .lit (.slice none 0 0)])]⟩ ∧ xt97_41 = o4)) ?_ ?_)
            · clear h
              replace h := hp4
              rcases ite_some h with ⟨c10, h⟩ | ⟨c10, h⟩
              · refine awp_region L 103 [(1, true)] [] [1, 2, 4, 5, 6, 12, 14, 15, 97] [0, 1] (cs := [xt15_37 = true]) (S' := ⟨[(1, .cv (.lit (.int .i64 p1))), (2, .cv (.lit (.int .i64 p2))), (4, .cv (.ro Tag.t_api_Entry p4)), (5, .cv (.lit (.int .i64 p5))), (6, .cv (.ptr 0 0)), (12, .cv (.ptr 1 0)), (14, .cv (.lit (.int .i64 xt14_28))), (15, .cv (.lit (.bool xt15_37))), (97, .cv (.lit (.bool ((decide ((IntKind.i64.wrap (p2 + xt14_28)) < p0.Commit))))))], [(0, .raw [.lit (.int .i64 p0.Epoch), .lit (.int .i64 p0.Vote), .lit (.int .i64 p0.Commit), .ro Tag.t_api_Entry p0.Log]), (1, .raw [.lit (.int .i64 0), .lit (.int .i64 0), .lit (.int .i64 0), .lit (.slice none 0 0)])]⟩) (by kernel_rfl) c10 ?_
                have hr := Option.some.inj h
                subst hr
                exact ⟨rfl, _, rfl, rfl⟩
              · refine awp_region L 103 [(1, false)] [] [1, 2, 4, 5, 6, 12, 14, 15, 97] [0, 1] (cs := [xt15_37 = false]) (S' := ⟨[(1, .cv (.lit (.int .i64 p1))), (2, .cv (.lit (.int .i64 p2))), (4, .cv (.ro Tag.t_api_Entry p4)), (5, .cv (.lit (.int .i64 p5))), (6, .cv (.ptr 0 0)), (12, .cv (.ptr 1 0)), (14, .cv (.lit (.int .i64 xt14_28))), (15, .cv (.lit (.bool xt15_37))), (97, .cv (.lit (.bool false)))], [(0, .raw [.lit (.int .i64 p0.Epoch), .lit (.int .i64 p0.Vote), .lit (.int .i64 p0.Commit), .ro Tag.t_api_Entry p0.Log]), (1, .raw [.lit (.int .i64 0), .lit (.int .i64 0), .lit (.int .i64 0), .lit (.slice none 0 0)])]⟩) (by kernel_rfl) (eq_false_of_ne_true c10) ?_
                have hr := Option.some.inj h
                subst hr
                exact ⟨rfl, _, rfl, rfl⟩
            · rintro e S ⟨rfl, xt97_41, rfl, rfl⟩
              rcases ite_some h with ⟨c11, h⟩ | ⟨c11, h⟩
              · refine awp_true (b := xt97_41) (by kernel_rfl) (c11) ?_
                refine awp_seq ?_
                refine awp_region L 114 [] [] [12, 13] [1] (cs := []) (S' := ⟨[(12, .cv (.ptr 1 0)), (13, .cv (.lit (.int .i64 16)))], [(1, .raw [.lit (.int .i64 0), .lit (.int .i64 0), .lit (.int .i64 0), .lit (.slice none 0 0)])]⟩) (by kernel_rfl) trivial ?_
                refine awp_ret ?_
                have hr := Option.some.inj h
                subst hr
                exact ⟨.inr rfl, .tup [.agg [.lit (.int .i64 0), .lit (.int .i64 0), .lit (.int .i64 0), .lit (.slice none 0 0)], .cv (.lit (.int .i64 16))], by kernel_rfl, by kernel_rfl, trivial, by kernel_rfl⟩
              · refine awp_false (b := xt97_41) (by kernel_rfl) (eq_false_of_ne_true c11) ?_
                refine awp_seq ?_
                refine awp_region L 118 [] [] [1, 2, 4, 5, 6, 12, 14, 15, 108] [0, 1] (cs := []) (S' := ⟨[(1, .cv (.lit (.int .i64 p1))), (2, .cv (.lit (.int .i64 p2))), (4, .cv (.ro Tag.t_api_Entry p4)), (5, .cv (.lit (.int .i64 p5))), (6, .cv (.ptr 0 0)), (12, .cv (.ptr 1 0)), (14, .cv (.lit (.int .i64 xt14_28))), (15, .cv (.lit (.bool xt15_37))), (108, .cv (.lit (.bool ((decide ((p4.length : Int) > (IntKind.i64.wrap (5000 - p2))))))))], [(0, .raw [.lit (.int .i64 p0.Epoch), .lit (.int .i64 p0.Vote), .lit (.int .i64 p0.Commit), .ro Tag.t_api_Entry p0.Log]), (1, .raw [.lit (.int .i64 0), .lit (.int .i64 0), .lit (.int .i64 0), .lit (.slice none 0 0)])]⟩) (by kernel_rfl) trivial ?_
                rcases ite_some h with ⟨c12, h⟩ | ⟨c12, h⟩
                · refine awp_true (b := (decide ((p4.length : Int) > (IntKind.i64.wrap (5000 - p2))))) (by kernel_rfl) (decide_eq_true c12) ?_
                  refine awp_seq ?_
                  refine awp_region L 125 [] [] [12, 13] [1] (cs := []) (S' := ⟨[(12, .cv (.ptr 1 0)), (13, .cv (.lit (.int .i64 18)))], [(1, .raw [.lit (.int .i64 0), .lit (.int .i64 0), .lit (.int .i64 0), .lit (.slice none 0 0)])]⟩) (by kernel_rfl) trivial ?_
                  refine awp_ret ?_
                  have hr := Option.some.inj h
                  subst hr
                  exact ⟨.inr rfl, .tup [.agg [.lit (.int .i64 0), .lit (.int .i64 0), .lit (.int .i64 0), .lit (.slice none 0 0)], .cv (.lit (.int .i64 18))], by kernel_rfl, by kernel_rfl, trivial, by kernel_rfl⟩
                · refine awp_false (b := (decide ((p4.length : Int) > (IntKind.i64.wrap (5000 - p2))))) (by kernel_rfl) (decide_eq_false c12) ?_
                  refine awp_skip [1, 2, 4, 5, 6, 12, 14, 15] [0, 1] (S' := ⟨[(1, .cv (.lit (.int .i64 p1))), (2, .cv (.lit (.int .i64 p2))), (4, .cv (.ro Tag.t_api_Entry p4)), (5, .cv (.lit (.int .i64 p5))), (6, .cv (.ptr 0 0)), (12, .cv (.ptr 1 0)), (14, .cv (.lit (.int .i64 xt14_28))), (15, .cv (.lit (.bool xt15_37)))], [(0, .raw [.lit (.int .i64 p0.Epoch), .lit (.int .i64 p0.Vote), .lit (.int .i64 p0.Commit), .ro Tag.t_api_Entry p0.Log]), (1, .raw [.lit (.int .i64 0), .lit (.int .i64 0), .lit (.int .i64 0), .lit (.slice none 0 0)])]⟩) (by kernel_rfl) ?_
                  refine awp_seq ?_
                  refine awp_region L 129 [] [] [1, 2, 4, 6, 12, 14, 15, 16] [0, 1, 142] (cs := []) (S' := ⟨[(1, .cv (.lit (.int .i64 p1))), (2, .cv (.lit (.int .i64 p2))), (4, .cv (.ro Tag.t_api_Entry p4)), (6, .cv (.ptr 0 0)), (12, .cv (.ptr 1 0)), (14, .cv (.lit (.int .i64 xt14_28))), (15, .cv (.lit (.bool xt15_37))), (16, .cv (.ptr 142 0))], [(0, .raw [.lit (.int .i64 p0.Epoch), .lit (.int .i64 p0.Vote), .lit (.int .i64 p0.Commit), .ro Tag.t_api_Entry p0.Log]), (1, .raw [.lit (.int .i64 0), .lit (.int .i64 0), .lit (.int .i64 0), .lit (.slice none 0 0)]), (142, .raw [.lit (.int .i64 p1), .lit (.int .i64 p0.Vote), .lit (.int .i64 ((if (if (IntKind.i64.wrap (p2 + (p4.length : Int))) < p5 then (IntKind.i64.wrap (p2 + (p4.length : Int))) else p5) > p0.Commit then (if (IntKind.i64.wrap (p2 + (p4.length : Int))) < p5 then (IntKind.i64.wrap (p2 + (p4.length : Int))) else p5) else p0.Commit))), .lit (.slice none 0 0)])]⟩) (by kernel_rfl) trivial ?_
                  obtain ⟨o5, hp5, h⟩ := bind_some h
                  refine awp_seq (awp_mono (Q' := fun e S => (e = .normal ∧ ∃ xh142_1_56 : Int, S = ⟨[(2, .cv (.lit (.int .i64 p2))), (4, .cv (.ro Tag.t_api_Entry p4)), (6, .cv (.ptr 0 0)), (12, .cv (.ptr 1 0)), (14, .cv (.lit (.int .i64 xt14_28))), (15, .cv (.lit (.bool xt15_37))), (16, .cv (.ptr 142 0))], [(0, .raw [.lit (.int .i64 p0.Epoch), .lit (.int .i64 p0.Vote), .lit (.int .i64 p0.Commit), .ro Tag.t_api_Entry p0.Log]), (1, .raw [.lit (.int .i64 0), .lit (.int .i64 0), .lit (.int .i64 0), .lit (.slice none 0 0)]), (142, .raw [.lit (.int .i64 p1), .lit (.int .i64 xh142_1_56), .lit (.int .i64 ((if (if (IntKind.i64.wrap (p2 + (p4.length : Int))) < p5 then (IntKind.i64.wrap (p2 + (p4.length : Int))) else p5) > p0.Commit then (if (IntKind.i64.wrap (p2 + (p4.length : Int))) < p5 then (IntKind.i64.wrap (p2 + (p4.length : Int))) else p5) else p0.Commit))), .lit (.slice none 0 0)])]⟩ ∧ xh142_1_56 = o5)) ?_ ?_)
                  · clear h
                    replace h := hp5
                    refine awp_seq ?_
                    refine awp_region L 145 [] [] [2, 4, 6, 12, 14, 15, 16, 131] [0, 1, 142] (cs := []) (S' := ⟨[(2, .cv (.lit (.int .i64 p2))), (4, .cv (.ro Tag.t_api_Entry p4)), (6, .cv (.ptr 0 0)), (12, .cv (.ptr 1 0)), (14, .cv (.lit (.int .i64 xt14_28))), (15, .cv (.lit (.bool xt15_37))), (16, .cv (.ptr 142 0)), (131, .cv (.lit (.bool ((decide (p1 > p0.Epoch))))))], [(0, .raw [.lit (.int .i64 p0.Epoch), .lit (.int .i64 p0.Vote), .lit (.int .i64 p0.Commit), .ro Tag.t_api_Entry p0.Log]), (1, .raw [.lit (.int .i64 0), .lit (.int .i64 0), .lit (.int .i64 0), .lit (.slice none 0 0)]), (142, .raw [.lit (.int .i64 p1), .lit (.int .i64 p0.Vote), .lit (.int .i64 ((if (if (IntKind.i64.wrap (p2 + (p4.length : Int))) < p5 then (IntKind.i64.wrap (p2 + (p4.length : Int))) else p5) > p0.Commit then (if (IntKind.i64.wrap (p2 + (p4.length : Int))) < p5 then (IntKind.i64.wrap (p2 + (p4.length : Int))) else p5) else p0.Commit))), .lit (.slice none 0 0)])]⟩) (by kernel_rfl) trivial ?_
                    rcases ite_some h with ⟨c13, h⟩ | ⟨c13, h⟩
                    · refine awp_true (b := (decide (p1 > p0.Epoch))) (by kernel_rfl) (decide_eq_true c13) ?_
                      refine awp_region L 150 [] [] [2, 4, 6, 12, 14, 15, 16] [0, 1, 142] (cs := []) (S' := ⟨[(2, .cv (.lit (.int .i64 p2))), (4, .cv (.ro Tag.t_api_Entry p4)), (6, .cv (.ptr 0 0)), (12, .cv (.ptr 1 0)), (14, .cv (.lit (.int .i64 xt14_28))), (15, .cv (.lit (.bool xt15_37))), (16, .cv (.ptr 142 0))], [(0, .raw [.lit (.int .i64 p0.Epoch), .lit (.int .i64 p0.Vote), .lit (.int .i64 p0.Commit), .ro Tag.t_api_Entry p0.Log]), (1, .raw [.lit (.int .i64 0), .lit (.int .i64 0), .lit (.int .i64 0), .lit (.slice none 0 0)]), (142, .raw [.lit (.int .i64 p1), .lit (.int .i64 (-1)), .lit (.int .i64 ((if (if (IntKind.i64.wrap (p2 + (p4.length : Int))) < p5 then (IntKind.i64.wrap (p2 + (p4.length : Int))) else p5) > p0.Commit then (if (IntKind.i64.wrap (p2 + (p4.length : Int))) < p5 then (IntKind.i64.wrap (p2 + (p4.length : Int))) else p5) else p0.Commit))), .lit (.slice none 0 0)])]⟩) (by kernel_rfl) trivial ?_
                      have hr := Option.some.inj h
                      subst hr
                      exact ⟨rfl, _, rfl, rfl⟩
                    · refine awp_false (b := (decide (p1 > p0.Epoch))) (by kernel_rfl) (decide_eq_false c13) ?_
                      refine awp_skip [2, 4, 6, 12, 14, 15, 16] [0, 1, 142] (S' := ⟨[(2, .cv (.lit (.int .i64 p2))), (4, .cv (.ro Tag.t_api_Entry p4)), (6, .cv (.ptr 0 0)), (12, .cv (.ptr 1 0)), (14, .cv (.lit (.int .i64 xt14_28))), (15, .cv (.lit (.bool xt15_37))), (16, .cv (.ptr 142 0))], [(0, .raw [.lit (.int .i64 p0.Epoch), .lit (.int .i64 p0.Vote), .lit (.int .i64 p0.Commit), .ro Tag.t_api_Entry p0.Log]), (1, .raw [.lit (.int .i64 0), .lit (.int .i64 0), .lit (.int .i64 0), .lit (.slice none 0 0)]), (142, .raw [.lit (.int .i64 p1), .lit (.int .i64 p0.Vote), .lit (.int .i64 ((if (if (IntKind.i64.wrap (p2 + (p4.length : Int))) < p5 then (IntKind.i64.wrap (p2 + (p4.length : Int))) else p5) > p0.Commit then (if (IntKind.i64.wrap (p2 + (p4.length : Int))) < p5 then (IntKind.i64.wrap (p2 + (p4.length : Int))) else p5) else p0.Commit))), .lit (.slice none 0 0)])]⟩) (by kernel_rfl) ?_
                      have hr := Option.some.inj h
                      subst hr
                      exact ⟨rfl, _, rfl, rfl⟩
                  · rintro e S ⟨rfl, xh142_1_56, rfl, rfl⟩
                    refine awp_seq ?_
                    refine awp_seq ?_
                    refine awp_region L 153 [] [] [2, 4, 6, 12, 14, 16, 133] [0, 1, 142] (cs := []) (S' := ⟨[(2, .cv (.lit (.int .i64 p2))), (4, .cv (.ro Tag.t_api_Entry p4)), (6, .cv (.ptr 0 0)), (12, .cv (.ptr 1 0)), (14, .cv (.lit (.int .i64 xt14_28))), (16, .cv (.ptr 142 0)), (133, .cv (.lit (.bool xt15_37)))], [(0, .raw [.lit (.int .i64 p0.Epoch), .lit (.int .i64 p0.Vote), .lit (.int .i64 p0.Commit), .ro Tag.t_api_Entry p0.Log]), (1, .raw [.lit (.int .i64 0), .lit (.int .i64 0), .lit (.int .i64 0), .lit (.slice none 0 0)]), (142, .raw [.lit (.int .i64 p1), .lit (.int .i64 xh142_1_56), .lit (.int .i64 ((if (if (IntKind.i64.wrap (p2 + (p4.length : Int))) < p5 then (IntKind.i64.wrap (p2 + (p4.length : Int))) else p5) > p0.Commit then (if (IntKind.i64.wrap (p2 + (p4.length : Int))) < p5 then (IntKind.i64.wrap (p2 + (p4.length : Int))) else p5) else p0.Commit))), .lit (.slice none 0 0)])]⟩) (by kernel_rfl) trivial ?_
                    rcases ite_some h with ⟨c14, h⟩ | ⟨c14, h⟩
                    · refine awp_true (b := xt15_37) (by kernel_rfl) (c14) ?_
                      obtain ⟨g4, h⟩ := guard_some h
                      obtain ⟨a3, h3, h⟩ := bind_some h
                      obtain ⟨a4, h4, h⟩ := bind_some h
                      obtain ⟨g5, h⟩ := guard_some h
                      refine awp_region L 155 [] [(4, .cv (.ron Tag.t_api_Entry a3)), (6, .cv (.ro Tag.t_api_Entry a4))] [12, 16] [1, 142, 159] (cs := [(0 : Int) ≤ 0, (0 : Int) ≤ p2, p2 ≤ (p0.Log.length : Int), FCall V P 42 [.cv (.ro Tag.t_api_Entry (slc p0.Log 0 p2))] Tag.t_api_Entry a3, PCall V P 42 [.cv (.ro Tag.t_api_Entry p4)] (.cv (.ro Tag.t_api_Entry a4)), True, (a3.length + a4.length) * 32 ≤ 140737488355328, True]) (S' := ⟨[(12, .cv (.ptr 1 0)), (16, .cv (.ptr 142 0))], [(1, .raw [.lit (.int .i64 0), .lit (.int .i64 0), .lit (.int .i64 0), .lit (.slice none 0 0)]), (142, .raw [.lit (.int .i64 p1), .lit (.int .i64 xh142_1_56), .lit (.int .i64 ((if (if (IntKind.i64.wrap (p2 + (p4.length : Int))) < p5 then (IntKind.i64.wrap (p2 + (p4.length : Int))) else p5) > p0.Commit then (if (IntKind.i64.wrap (p2 + (p4.length : Int))) < p5 then (IntKind.i64.wrap (p2 + (p4.length : Int))) else p5) else p0.Commit))), .own Tag.t_api_Entry 159]), (159, .lst Tag.t_api_Entry (a3 ++ a4))]⟩) (by kernel_rfl) (And.intro (Int.le_refl _) (And.intro g4.1 (And.intro g4.2 (And.intro (replog_entries.okF h3) (And.intro (replog_entries.ok h4) (And.intro trivial (And.intro g5 trivial))))))) ?_
                      refine awp_seq ?_
                      refine awp_region L 177 [] [] [12, 13] [1, 159] (cs := []) (S' := ⟨[(12, .cv (.ptr 1 0)), (13, .cv (.lit (.int .i64 0)))], [(1, .raw [.lit (.int .i64 p1), .lit (.int .i64 xh142_1_56), .lit (.int .i64 ((if (if (IntKind.i64.wrap (p2 + (p4.length : Int))) < p5 then (IntKind.i64.wrap (p2 + (p4.length : Int))) else p5) > p0.Commit then (if (IntKind.i64.wrap (p2 + (p4.length : Int))) < p5 then (IntKind.i64.wrap (p2 + (p4.length : Int))) else p5) else p0.Commit))), .own Tag.t_api_Entry 159]), (159, .lst Tag.t_api_Entry (a3 ++ a4))]⟩) (by kernel_rfl) trivial ?_
                      refine awp_ret ?_
                      have hr := Option.some.inj h
                      subst hr
                      exact ⟨.inr rfl, .tup [.agg [.lit (.int .i64 p1), .lit (.int .i64 xh142_1_56), .lit (.int .i64 ((if (if (IntKind.i64.wrap (p2 + (p4.length : Int))) < p5 then (IntKind.i64.wrap (p2 + (p4.length : Int))) else p5) > p0.Commit then (if (IntKind.i64.wrap (p2 + (p4.length : Int))) < p5 then (IntKind.i64.wrap (p2 + (p4.length : Int))) else p5) else p0.Commit))), .own Tag.t_api_Entry 159], .cv (.lit (.int .i64 0))], by kernel_rfl, by kernel_rfl, trivial, by kernel_rfl⟩
                    · refine awp_false (b := xt15_37) (by kernel_rfl) (eq_false_of_ne_true c14) ?_
                      obtain ⟨a5, h5, h⟩ := bind_some h
                      obtain ⟨g6, h⟩ := guard_some h
                      obtain ⟨a6, h6, h⟩ := bind_some h
                      obtain ⟨g7, h⟩ := guard_some h
                      refine awp_draw L mixed 166 [] [(2, .cv (.ron Tag.t_api_Entry a5)), (6, .cv (.ro Tag.t_api_Entry a6))] 7 [12, 16] [1, 142, 168] (cs := [FCall V P 42 [.cv (.ro Tag.t_api_Entry p0.Log)] Tag.t_api_Entry a5, (0 : Int) ≤ xt14_28, xt14_28 ≤ (p4.length : Int), (p4.length : Int) ≤ (p4.length : Int), PCall V P 42 [.cv (.ro Tag.t_api_Entry ((slc p4 xt14_28 (p4.length : Int))))] (.cv (.ro Tag.t_api_Entry a6)), True, (a5.length + a6.length) * 32 ≤ 140737488355328, True]) (S' := ⟨[(12, .cv (.ptr 1 0)), (16, .cv (.ptr 142 0))], [(1, .raw [.lit (.int .i64 0), .lit (.int .i64 0), .lit (.int .i64 0), .lit (.slice none 0 0)]), (142, .raw [.lit (.int .i64 p1), .lit (.int .i64 xh142_1_56), .lit (.int .i64 ((if (if (IntKind.i64.wrap (p2 + (p4.length : Int))) < p5 then (IntKind.i64.wrap (p2 + (p4.length : Int))) else p5) > p0.Commit then (if (IntKind.i64.wrap (p2 + (p4.length : Int))) < p5 then (IntKind.i64.wrap (p2 + (p4.length : Int))) else p5) else p0.Commit))), .own Tag.t_api_Entry 168]), (168, .lst Tag.t_api_Entry (a5 ++ a6))]⟩) (by kernel_rfl) (And.intro (replog_entries.okF h5) (And.intro g6.1 (And.intro g6.2 (And.intro (Int.le_refl _) (And.intro (replog_entries.ok h6) (And.intro trivial (And.intro g7 trivial))))))) ?_
                      refine awp_seq ?_
                      refine awp_region L 177 [] [] [12, 13] [1, 168] (cs := []) (S' := ⟨[(12, .cv (.ptr 1 0)), (13, .cv (.lit (.int .i64 0)))], [(1, .raw [.lit (.int .i64 p1), .lit (.int .i64 xh142_1_56), .lit (.int .i64 ((if (if (IntKind.i64.wrap (p2 + (p4.length : Int))) < p5 then (IntKind.i64.wrap (p2 + (p4.length : Int))) else p5) > p0.Commit then (if (IntKind.i64.wrap (p2 + (p4.length : Int))) < p5 then (IntKind.i64.wrap (p2 + (p4.length : Int))) else p5) else p0.Commit))), .own Tag.t_api_Entry 168]), (168, .lst Tag.t_api_Entry (a5 ++ a6))]⟩) (by kernel_rfl) trivial ?_
                      refine awp_ret ?_
                      have hr := Option.some.inj h
                      subst hr
                      exact ⟨.inr rfl, .tup [.agg [.lit (.int .i64 p1), .lit (.int .i64 xh142_1_56), .lit (.int .i64 ((if (if (IntKind.i64.wrap (p2 + (p4.length : Int))) < p5 then (IntKind.i64.wrap (p2 + (p4.length : Int))) else p5) > p0.Commit then (if (IntKind.i64.wrap (p2 + (p4.length : Int))) < p5 then (IntKind.i64.wrap (p2 + (p4.length : Int))) else p5) else p0.Commit))), .own Tag.t_api_Entry 168], .cv (.lit (.int .i64 0))], by kernel_rfl, by kernel_rfl, trivial, by kernel_rfl⟩
    · rcases h with ⟨_, e1, h⟩ | ⟨_, e1, h⟩
      · have e2 := Out.done.inj e1
        subst e2
        subst h
        exact hr
      · cases e1

theorem replog_Accept.ok {K : Nat} {p0 : api_Replica} {p1 : Int} {p2 : Int} {p3 : Int} {p4 : List api_Entry} {p5 : Int} {r : api_Replica × Int} (h : replog_Accept K p0 p1 p2 p3 p4 p5 = some r) : PCall V P 14 [.agg [.lit (.int .i64 p0.Epoch), .lit (.int .i64 p0.Vote), .lit (.int .i64 p0.Commit), .ro Tag.t_api_Entry p0.Log], .cv (.lit (.int .i64 p1)), .cv (.lit (.int .i64 p2)), .cv (.lit (.int .i64 p3)), .cv (.ro Tag.t_api_Entry p4), .cv (.lit (.int .i64 p5))] (.tup [.agg [.lit (.int .i64 r.1.Epoch), .lit (.int .i64 r.1.Vote), .lit (.int .i64 r.1.Commit), .ro Tag.t_api_Entry r.1.Log], .cv (.lit (.int .i64 r.2))]) :=
  pcall_of (fn := Try.f14) (n := 153) (by kernel_rfl) (by kernel_rfl) (by kernel_rfl) rfl (by kernel_rfl) (by kernel_rfl) fun Γ => replog_Accept.body h

def workflowref52_rising.l7 (K : Nat) (p2 : List api_Entry) : Nat → Int → Int → Option (Out Bool Int)
  | 0, _, _ => none
  | k + 1, xt0_7h, xt7_7h => (if xt7_7h < (p2.length : Int) then (if (0 : Int) ≤ xt7_7h ∧ (xt7_7h : Int) < (p2.length : Int) then (if ((p2.getD (Int.toNat xt7_7h) (⟨(0 : Int), ([] : List UInt8)⟩ : api_Entry))).Epoch < xt0_7h then some (Out.done false) else (if ((p2.getD (Int.toNat xt7_7h) (⟨(0 : Int), ([] : List UInt8)⟩ : api_Entry))).Epoch < 1 then some (Out.done false) else (if ((((p2.getD (Int.toNat xt7_7h) (⟨(0 : Int), ([] : List UInt8)⟩ : api_Entry))).Data).length : Int) > 65536 then some (Out.done false) else workflowref52_rising.l7 K p2 k (((p2.getD (Int.toNat xt7_7h) (⟨(0 : Int), ([] : List UInt8)⟩ : api_Entry))).Epoch) ((IntKind.i64.wrap (xt7_7h + 1)))))) else none) else some (Out.go xt0_7h))

def workflowref52_rising (K : Nat) (p0 : Int) (p1 : Int) (p2 : List api_Entry) : Option Bool := (obind (workflowref52_rising.l7 K p2 K p0 0 : Option (Out Bool Int)) (fun r => r) (fun xt0_7 => some ((decide (xt0_7 ≤ p1)))))

theorem workflowref52_rising.body {Γ : Ent} {K : Nat} {p0 : Int} {p1 : Int} {p2 : List api_Entry} {r : Bool} (h : workflowref52_rising K p0 p1 p2 = some r) : AWp V P 46 0 Γ (Try.f44.body.getD .skip) (Eng.Ends P V Try.f44 (.cv (.lit (.bool r)))) ⟨args0 0 [.cv (.lit (.int .i64 p0)), .cv (.lit (.int .i64 p1)), .cv (.ro Tag.t_api_Entry p2)], []⟩ := by
  unfold workflowref52_rising at h
  refine awp_seq ?_
  refine awp_region L 0 [] [] [0, 1, 2] [] (cs := []) (S' := ⟨[(0, .cv (.lit (.int .i64 p0))), (1, .cv (.lit (.int .i64 p1))), (2, .cv (.ro Tag.t_api_Entry p2))], []⟩) (by kernel_rfl) trivial ?_
  refine awp_seq ?_
  refine awp_seq ?_
  refine awp_region L 2 [] [] [0, 1, 2, 7] [] (cs := []) (S' := ⟨[(0, .cv (.lit (.int .i64 p0))), (1, .cv (.lit (.int .i64 p1))), (2, .cv (.ro Tag.t_api_Entry p2)), (7, .cv (.lit (.int .i64 0)))], []⟩) (by kernel_rfl) trivial ?_
  refine awp_block ?_
  refine awp_keep (ts := [0, 1, 2, 7]) (ids := []) (S' := ⟨[(0, .cv (.lit (.int .i64 p0))), (1, .cv (.lit (.int .i64 p1))), (2, .cv (.ro Tag.t_api_Entry p2)), (7, .cv (.lit (.int .i64 0)))], []⟩) (by kernel_rfl) ?_
  obtain ⟨o1, hp1, h⟩ := obind_some h
  refine awp_mono (Q' := fun e S => (e = .exit 0 ∧ ∃ xt0_7 : Int, S = ⟨[(0, .cv (.lit (.int .i64 xt0_7))), (1, .cv (.lit (.int .i64 p1)))], []⟩ ∧ Out.go xt0_7 = o1) ∨ (e = .ret ∧ ∃ a, Out.done a = o1 ∧ Eng.Ends P V Try.f44 (.cv (.lit (.bool a))) .ret S)) (awp_loop (fun k S => ∃ xt0_7h : Int, ∃ xt7_7h : Int, S = ⟨[(0, .cv (.lit (.int .i64 xt0_7h))), (1, .cv (.lit (.int .i64 p1))), (2, .cv (.ro Tag.t_api_Entry p2)), (7, .cv (.lit (.int .i64 xt7_7h)))], []⟩ ∧ workflowref52_rising.l7 K p2 k xt0_7h xt7_7h = some o1) ?_ ⟨_, _, rfl, hp1⟩) ?_
  · clear h hp1
    intro k S hS
    obtain ⟨xt0_7h, xt7_7h, rfl, h⟩ := hS
    cases k with
    | zero => cases h
    | succ k =>
    unfold workflowref52_rising.l7 at h
    refine awp_seq ?_
    refine awp_seq ?_
    refine awp_region L 4 [] [] [0, 1, 2, 7, 11] [] (cs := []) (S' := ⟨[(0, .cv (.lit (.int .i64 xt0_7h))), (1, .cv (.lit (.int .i64 p1))), (2, .cv (.ro Tag.t_api_Entry p2)), (7, .cv (.lit (.int .i64 xt7_7h))), (11, .cv (.lit (.bool ((decide (xt7_7h < (p2.length : Int)))))))], []⟩) (by kernel_rfl) trivial ?_
    rcases ite_some h with ⟨c1, h⟩ | ⟨c1, h⟩
    · refine awp_true (b := (decide (xt7_7h < (p2.length : Int)))) (by kernel_rfl) (decide_eq_true c1) ?_
      refine awp_skip [0, 1, 2, 7] [] (S' := ⟨[(0, .cv (.lit (.int .i64 xt0_7h))), (1, .cv (.lit (.int .i64 p1))), (2, .cv (.ro Tag.t_api_Entry p2)), (7, .cv (.lit (.int .i64 xt7_7h)))], []⟩) (by kernel_rfl) ?_
      refine awp_seq ?_
      refine awp_block ?_
      refine awp_seq ?_
      refine awp_seq ?_
      obtain ⟨g1, h⟩ := guard_some h
      rcases ite_some h with ⟨c2, h⟩ | ⟨c2, h⟩
      · refine awp_region L 9 [(7, true)] [] [1, 2, 7, 37] [] (cs := [(0 : Int) ≤ xt7_7h, (xt7_7h : Int) < (p2.length : Int), (decide (((p2.getD (Int.toNat xt7_7h) (⟨(0 : Int), ([] : List UInt8)⟩ : api_Entry))).Epoch < xt0_7h)) = true]) (S' := ⟨[(1, .cv (.lit (.int .i64 p1))), (2, .cv (.ro Tag.t_api_Entry p2)), (7, .cv (.lit (.int .i64 xt7_7h))), (37, .cv (.lit (.bool true)))], []⟩) (by kernel_rfl) (And.intro g1.1 (And.intro g1.2 (decide_eq_true c2))) ?_
        refine awp_true (b := true) (by kernel_rfl) (rfl) ?_
        refine awp_seq ?_
        refine awp_region L 34 [] [] [6] [] (cs := []) (S' := ⟨[(6, .cv (.lit (.bool false)))], []⟩) (by kernel_rfl) trivial ?_
        refine awp_ret ?_
        have hr := Option.some.inj h
        subst hr
        exact .inr ⟨rfl, _, rfl, ⟨.inr rfl, .cv (.lit (.bool false)), by kernel_rfl, by kernel_rfl, trivial, by kernel_rfl⟩⟩
      · rcases ite_some h with ⟨c3, h⟩ | ⟨c3, h⟩
        · refine awp_region L 9 [(7, false), (15, true)] [] [1, 2, 7, 37] [] (cs := [(0 : Int) ≤ xt7_7h, (xt7_7h : Int) < (p2.length : Int), (decide (((p2.getD (Int.toNat xt7_7h) (⟨(0 : Int), ([] : List UInt8)⟩ : api_Entry))).Epoch < xt0_7h)) = false, (0 : Int) ≤ xt7_7h, (xt7_7h : Int) < (p2.length : Int), (decide (((p2.getD (Int.toNat xt7_7h) (⟨(0 : Int), ([] : List UInt8)⟩ : api_Entry))).Epoch < 1)) = true]) (S' := ⟨[(1, .cv (.lit (.int .i64 p1))), (2, .cv (.ro Tag.t_api_Entry p2)), (7, .cv (.lit (.int .i64 xt7_7h))), (37, .cv (.lit (.bool true)))], []⟩) (by kernel_rfl) (And.intro g1.1 (And.intro g1.2 (And.intro (decide_eq_false c2) (And.intro g1.1 (And.intro g1.2 (decide_eq_true c3)))))) ?_
          refine awp_true (b := true) (by kernel_rfl) (rfl) ?_
          refine awp_seq ?_
          refine awp_region L 34 [] [] [6] [] (cs := []) (S' := ⟨[(6, .cv (.lit (.bool false)))], []⟩) (by kernel_rfl) trivial ?_
          refine awp_ret ?_
          have hr := Option.some.inj h
          subst hr
          exact .inr ⟨rfl, _, rfl, ⟨.inr rfl, .cv (.lit (.bool false)), by kernel_rfl, by kernel_rfl, trivial, by kernel_rfl⟩⟩
        · refine awp_region L 9 [(7, false), (15, false)] [] [1, 2, 7, 37] [] (cs := [(0 : Int) ≤ xt7_7h, (xt7_7h : Int) < (p2.length : Int), (decide (((p2.getD (Int.toNat xt7_7h) (⟨(0 : Int), ([] : List UInt8)⟩ : api_Entry))).Epoch < xt0_7h)) = false, (0 : Int) ≤ xt7_7h, (xt7_7h : Int) < (p2.length : Int), (decide (((p2.getD (Int.toNat xt7_7h) (⟨(0 : Int), ([] : List UInt8)⟩ : api_Entry))).Epoch < 1)) = false, (0 : Int) ≤ xt7_7h, (xt7_7h : Int) < (p2.length : Int)]) (S' := ⟨[(1, .cv (.lit (.int .i64 p1))), (2, .cv (.ro Tag.t_api_Entry p2)), (7, .cv (.lit (.int .i64 xt7_7h))), (37, .cv (.lit (.bool ((decide (((((p2.getD (Int.toNat xt7_7h) (⟨(0 : Int), ([] : List UInt8)⟩ : api_Entry))).Data).length : Int) > 65536))))))], []⟩) (by kernel_rfl) (And.intro g1.1 (And.intro g1.2 (And.intro (decide_eq_false c2) (And.intro g1.1 (And.intro g1.2 (And.intro (decide_eq_false c3) (And.intro g1.1 g1.2))))))) ?_
          rcases ite_some h with ⟨c4, h⟩ | ⟨c4, h⟩
          · refine awp_true (b := (decide (((((p2.getD (Int.toNat xt7_7h) (⟨(0 : Int), ([] : List UInt8)⟩ : api_Entry))).Data).length : Int) > 65536))) (by kernel_rfl) (decide_eq_true c4) ?_
            refine awp_seq ?_
            refine awp_region L 34 [] [] [6] [] (cs := []) (S' := ⟨[(6, .cv (.lit (.bool false)))], []⟩) (by kernel_rfl) trivial ?_
            refine awp_ret ?_
            have hr := Option.some.inj h
            subst hr
            exact .inr ⟨rfl, _, rfl, ⟨.inr rfl, .cv (.lit (.bool false)), by kernel_rfl, by kernel_rfl, trivial, by kernel_rfl⟩⟩
          · refine awp_false (b := (decide (((((p2.getD (Int.toNat xt7_7h) (⟨(0 : Int), ([] : List UInt8)⟩ : api_Entry))).Data).length : Int) > 65536))) (by kernel_rfl) (decide_eq_false c4) ?_
            refine awp_skip [1, 2, 7] [] (S' := ⟨[(1, .cv (.lit (.int .i64 p1))), (2, .cv (.ro Tag.t_api_Entry p2)), (7, .cv (.lit (.int .i64 xt7_7h)))], []⟩) (by kernel_rfl) ?_
            refine awp_region L 36 [] [] [0, 1, 2, 7] [] (cs := [(0 : Int) ≤ xt7_7h, (xt7_7h : Int) < (p2.length : Int)]) (S' := ⟨[(0, .cv (.lit (.int .i64 (((p2.getD (Int.toNat xt7_7h) (⟨(0 : Int), ([] : List UInt8)⟩ : api_Entry))).Epoch)))), (1, .cv (.lit (.int .i64 p1))), (2, .cv (.ro Tag.t_api_Entry p2)), (7, .cv (.lit (.int .i64 xt7_7h)))], []⟩) (by kernel_rfl) (And.intro g1.1 g1.2) ?_
            refine awp_region L 43 [] [] [0, 1, 2, 7] [] (cs := []) (S' := ⟨[(0, .cv (.lit (.int .i64 (((p2.getD (Int.toNat xt7_7h) (⟨(0 : Int), ([] : List UInt8)⟩ : api_Entry))).Epoch)))), (1, .cv (.lit (.int .i64 p1))), (2, .cv (.ro Tag.t_api_Entry p2)), (7, .cv (.lit (.int .i64 ((IntKind.i64.wrap (xt7_7h + 1))))))], []⟩) (by kernel_rfl) trivial ?_
            exact ⟨k, Nat.lt_succ_self k, _, _, rfl, h⟩
    · refine awp_false (b := (decide (xt7_7h < (p2.length : Int)))) (by kernel_rfl) (decide_eq_false c1) ?_
      refine awp_exit [0, 1] [] (S' := ⟨[(0, .cv (.lit (.int .i64 xt0_7h))), (1, .cv (.lit (.int .i64 p1)))], []⟩) (by kernel_rfl) ?_
      have hr := Option.some.inj h
      subst hr
      exact .inl ⟨rfl, _, rfl, rfl⟩
  · rintro e S (⟨rfl, xt0_7, rfl, rfl⟩ | ⟨rfl, a, rfl, hr⟩)
    · rcases h with ⟨_, e1, h⟩ | ⟨_, e1, h⟩
      · cases e1
      · have e2 := Out.go.inj e1
        subst e2
        refine awp_seq ?_
        refine awp_region L 47 [] [] [6] [] (cs := []) (S' := ⟨[(6, .cv (.lit (.bool ((decide (xt0_7 ≤ p1))))))], []⟩) (by kernel_rfl) trivial ?_
        refine awp_ret ?_
        have hr := Option.some.inj h
        subst hr
        exact ⟨.inr rfl, .cv (.lit (.bool ((decide (xt0_7 ≤ p1))))), by kernel_rfl, by kernel_rfl, trivial, by kernel_rfl⟩
    · rcases h with ⟨_, e1, h⟩ | ⟨_, e1, h⟩
      · have e2 := Out.done.inj e1
        subst e2
        subst h
        exact hr
      · cases e1

theorem workflowref52_rising.ok {K : Nat} {p0 : Int} {p1 : Int} {p2 : List api_Entry} {r : Bool} (h : workflowref52_rising K p0 p1 p2 = some r) : PCall V P 44 [.cv (.lit (.int .i64 p0)), .cv (.lit (.int .i64 p1)), .cv (.ro Tag.t_api_Entry p2)] (.cv (.lit (.bool r))) :=
  pcall_of (fn := Try.f44) (n := 46) (by kernel_rfl) (by kernel_rfl) (by kernel_rfl) rfl (by kernel_rfl) (by kernel_rfl) fun Γ => workflowref52_rising.body h

def workflowref52_Accept.l33 (K : Nat) (p0 : api_Replica) (p2 : Int) (p4 : List api_Entry) : Nat → Bool → Int → Option (Out (api_Replica × Int) Bool)
  | 0, _, _ => none
  | k + 1, xt14_33h, xt15_33h => (if xt15_33h < (p4.length : Int) then (if (IntKind.i64.wrap (p2 + xt15_33h)) < (p0.Log.length : Int) then (if (0 : Int) ≤ (IntKind.i64.wrap (p2 + xt15_33h)) ∧ ((IntKind.i64.wrap (p2 + xt15_33h)) : Int) < (p0.Log.length : Int) then (if (0 : Int) ≤ xt15_33h ∧ (xt15_33h : Int) < (p4.length : Int) then (Option.bind (workflowref52_Agree K ((p0.Log.getD (Int.toNat ((IntKind.i64.wrap (p2 + xt15_33h)))) (⟨(0 : Int), ([] : List UInt8)⟩ : api_Entry))) ((p4.getD (Int.toNat xt15_33h) (⟨(0 : Int), ([] : List UInt8)⟩ : api_Entry)))) (fun a5 => (if a5 = true then workflowref52_Accept.l33 K p0 p2 p4 k xt14_33h ((IntKind.i64.wrap (xt15_33h + 1))) else (if (IntKind.i64.wrap (p2 + xt15_33h)) < p0.Commit then some (Out.done (((⟨0, 0, 0, ([] : List api_Entry)⟩ : api_Replica), 16))) else workflowref52_Accept.l33 K p0 p2 p4 k false ((IntKind.i64.wrap (xt15_33h + 1))))))) else none) else none) else some (Out.go xt14_33h)) else some (Out.go xt14_33h))

def workflowref52_Accept (K : Nat) (p0 : api_Replica) (p1 : Int) (p2 : Int) (p3 : Int) (p4 : List api_Entry) (p5 : Int) : Option (api_Replica × Int) := (Option.bind (workflowref52_Right K p0) (fun a1 => (if a1 = true then (Option.bind (workflowref52_in K p1 1 1099511627776) (fun a2 => (if a2 = true then (Option.bind (workflowref52_in K p2 0 5000) (fun a3 => (if a3 = true then (if p3 < 0 then some (((⟨0, 0, 0, ([] : List api_Entry)⟩ : api_Replica), 2)) else (if (((decide (p2 = 0)) == (decide (p3 = 0)))) = true then (if p5 < 0 then some (((⟨0, 0, 0, ([] : List api_Entry)⟩ : api_Replica), 2)) else (Option.bind (workflowref52_rising K p3 p1 p4) (fun a4 => (if a4 = true then (if p1 < p0.Epoch then some (((⟨0, 0, 0, ([] : List api_Entry)⟩ : api_Replica), 25)) else (obind (((if (p0.Log.length : Int) < p2 then some (Out.done (((⟨0, 0, 0, ([] : List api_Entry)⟩ : api_Replica), 26))) else (if p2 > 0 then (if (0 : Int) ≤ (IntKind.i64.wrap (p2 - 1)) ∧ ((IntKind.i64.wrap (p2 - 1)) : Int) < (p0.Log.length : Int) then (if ((p0.Log.getD (Int.toNat ((IntKind.i64.wrap (p2 - 1)))) (⟨(0 : Int), ([] : List UInt8)⟩ : api_Entry))).Epoch ≠ p3 then some (Out.done (((⟨0, 0, 0, ([] : List api_Entry)⟩ : api_Replica), 26))) else some (Out.go ())) else none) else some (Out.go ())))) : Option (Out (api_Replica × Int) Unit)) (fun r => r) (fun _ => (obind (workflowref52_Accept.l33 K p0 p2 p4 K true 0 : Option (Out (api_Replica × Int) Bool)) (fun r => r) (fun xt14_33 => (if (IntKind.i64.wrap (p2 + (p4.length : Int))) > 5000 then some (((⟨0, 0, 0, ([] : List api_Entry)⟩ : api_Replica), 18)) else (Option.bind (((if p1 > p0.Epoch then some (-1) else some p0.Vote)) : Option Int) (fun xh143_1_66 => (if (0 : Int) ≤ p2 ∧ p2 ≤ (p0.Log.length : Int) then (if (slc p0.Log 0 p2).length * 32 ≤ 140737488355328 then (if ((slc p0.Log 0 p2).length + p4.length) * 32 ≤ 140737488355328 then (Option.bind (((Option.bind (((if xt14_33 = true then some ((decide ((p0.Log.length : Int) > (IntKind.i64.wrap (p2 + (p4.length : Int)))))) else some false)) : Option Bool) (fun xt154_77 => (if xt154_77 = true then (if (0 : Int) ≤ (IntKind.i64.wrap (p2 + (p4.length : Int))) ∧ ((IntKind.i64.wrap (p2 + (p4.length : Int)))) ≤ (p0.Log.length : Int) then (if ((((slc p0.Log 0 p2) ++ p4)).length + ((slc p0.Log ((IntKind.i64.wrap (p2 + (p4.length : Int)))) (p0.Log.length : Int))).length) * 32 ≤ 140737488355328 then some ((((slc p0.Log 0 p2) ++ p4) ++ (slc p0.Log ((IntKind.i64.wrap (p2 + (p4.length : Int)))) (p0.Log.length : Int)))) else none) else none) else some (((slc p0.Log 0 p2) ++ p4)))))) : Option (List api_Entry)) (fun xh160_76 => (Option.bind (((if p5 > (IntKind.i64.wrap (p2 + (p4.length : Int))) then some ((IntKind.i64.wrap (p2 + (p4.length : Int)))) else some p5)) : Option Int) (fun xt5_82 => (if xt5_82 > p0.Commit then some (((⟨p1, xh143_1_66, xt5_82, xh160_76⟩ : api_Replica), 0)) else some (((⟨p1, xh143_1_66, p0.Commit, xh160_76⟩ : api_Replica), 0))))))) else none) else none) else none))))))))) else some (((⟨0, 0, 0, ([] : List api_Entry)⟩ : api_Replica), 2)))))) else some (((⟨0, 0, 0, ([] : List api_Entry)⟩ : api_Replica), 2)))) else some (((⟨0, 0, 0, ([] : List api_Entry)⟩ : api_Replica), 2))))) else some (((⟨0, 0, 0, ([] : List api_Entry)⟩ : api_Replica), 2))))) else some (((⟨0, 0, 0, ([] : List api_Entry)⟩ : api_Replica), 2)))))

theorem workflowref52_Accept.body {Γ : Ent} {K : Nat} {p0 : api_Replica} {p1 : Int} {p2 : Int} {p3 : Int} {p4 : List api_Entry} {p5 : Int} {r : api_Replica × Int} (h : workflowref52_Accept K p0 p1 p2 p3 p4 p5 = some r) : AWp V P 183 0 Γ (Try.f15.body.getD .skip) (Eng.Ends P V Try.f15 (.tup [.agg [.lit (.int .i64 r.1.Epoch), .lit (.int .i64 r.1.Vote), .lit (.int .i64 r.1.Commit), .ro Tag.t_api_Entry r.1.Log], .cv (.lit (.int .i64 r.2))])) ⟨args0 0 [.agg [.lit (.int .i64 p0.Epoch), .lit (.int .i64 p0.Vote), .lit (.int .i64 p0.Commit), .ro Tag.t_api_Entry p0.Log], .cv (.lit (.int .i64 p1)), .cv (.lit (.int .i64 p2)), .cv (.lit (.int .i64 p3)), .cv (.ro Tag.t_api_Entry p4), .cv (.lit (.int .i64 p5))], []⟩ := by
  unfold workflowref52_Accept at h
  refine awp_seq ?_
  refine awp_region L 0 [] [] [1, 2, 3, 4, 5, 6, 12] [0, 1] (cs := []) (S' := ⟨[(1, .cv (.lit (.int .i64 p1))), (2, .cv (.lit (.int .i64 p2))), (3, .cv (.lit (.int .i64 p3))), (4, .cv (.ro Tag.t_api_Entry p4)), (5, .cv (.lit (.int .i64 p5))), (6, .cv (.ptr 0 0)), (12, .cv (.ptr 1 0))], [(0, .raw [.lit (.int .i64 p0.Epoch), .lit (.int .i64 p0.Vote), .lit (.int .i64 p0.Commit), .ro Tag.t_api_Entry p0.Log]), (1, .raw [.lit (.int .i64 0), .lit (.int .i64 0), .lit (.int .i64 0), .lit (.slice none 0 0)])]⟩) (by kernel_rfl) trivial ?_
  refine awp_seq ?_
  refine awp_seq ?_
  obtain ⟨a1, h1, h⟩ := bind_some h
  rcases ite_some h with ⟨c1, h⟩ | ⟨c1, h⟩
  · obtain ⟨a2, h2, h⟩ := bind_some h
    rcases ite_some h with ⟨c2, h⟩ | ⟨c2, h⟩
    · obtain ⟨a3, h3, h⟩ := bind_some h
      rcases ite_some h with ⟨c3, h⟩ | ⟨c3, h⟩
      · rcases ite_some h with ⟨c4, h⟩ | ⟨c4, h⟩
        · refine awp_region L 4 [(3, false), (8, false), (13, false), (17, true)] [(1, .cv (.lit (.bool a1))), (5, .cv (.lit (.bool a2))), (10, .cv (.lit (.bool a3)))] [1, 2, 3, 4, 5, 6, 12, 51] [0, 1] (cs := [PCall V P 17 [.agg [.lit (.int .i64 p0.Epoch), .lit (.int .i64 p0.Vote), .lit (.int .i64 p0.Commit), .ro Tag.t_api_Entry p0.Log]] (.cv (.lit (.bool a1))), True, (!a1) = false, PCall V P 43 [.cv (.lit (.int .i64 p1)), .cv (.lit (.int .i64 1)), .cv (.lit (.int .i64 1099511627776))] (.cv (.lit (.bool a2))), True, (!a2) = false, PCall V P 43 [.cv (.lit (.int .i64 p2)), .cv (.lit (.int .i64 0)), .cv (.lit (.int .i64 5000))] (.cv (.lit (.bool a3))), True, (!a3) = false, (decide (p3 < 0)) = true]) (S' := ⟨[(1, .cv (.lit (.int .i64 p1))), (2, .cv (.lit (.int .i64 p2))), (3, .cv (.lit (.int .i64 p3))), (4, .cv (.ro Tag.t_api_Entry p4)), (5, .cv (.lit (.int .i64 p5))), (6, .cv (.ptr 0 0)), (12, .cv (.ptr 1 0)), (51, .cv (.lit (.bool true)))], [(0, .raw [.lit (.int .i64 p0.Epoch), .lit (.int .i64 p0.Vote), .lit (.int .i64 p0.Commit), .ro Tag.t_api_Entry p0.Log]), (1, .raw [.lit (.int .i64 0), .lit (.int .i64 0), .lit (.int .i64 0), .lit (.slice none 0 0)])]⟩) (by kernel_rfl) (And.intro (workflowref52_Right.ok h1) (And.intro trivial (And.intro (congrArg Bool.not (c1)) (And.intro (workflowref52_in.ok h2) (And.intro trivial (And.intro (congrArg Bool.not (c2)) (And.intro (workflowref52_in.ok h3) (And.intro trivial (And.intro (congrArg Bool.not (c3)) (decide_eq_true c4)))))))))) ?_
          refine awp_true (b := true) (by kernel_rfl) (rfl) ?_
          refine awp_seq ?_
          refine awp_region L 40 [] [] [12, 13] [1] (cs := []) (S' := ⟨[(12, .cv (.ptr 1 0)), (13, .cv (.lit (.int .i64 2)))], [(1, .raw [.lit (.int .i64 0), .lit (.int .i64 0), .lit (.int .i64 0), .lit (.slice none 0 0)])]⟩) (by kernel_rfl) trivial ?_
          refine awp_ret ?_
          have hr := Option.some.inj h
          subst hr
          exact ⟨.inr rfl, .tup [.agg [.lit (.int .i64 0), .lit (.int .i64 0), .lit (.int .i64 0), .lit (.slice none 0 0)], .cv (.lit (.int .i64 2))], by kernel_rfl, by kernel_rfl, trivial, by kernel_rfl⟩
        · rcases ite_some h with ⟨c5, h⟩ | ⟨c5, h⟩
          · rcases ite_some h with ⟨c6, h⟩ | ⟨c6, h⟩
            · refine awp_region L 4 [(3, false), (8, false), (13, false), (17, false), (24, false), (28, true)] [(1, .cv (.lit (.bool a1))), (5, .cv (.lit (.bool a2))), (10, .cv (.lit (.bool a3)))] [1, 2, 3, 4, 5, 6, 12, 51] [0, 1] (cs := [PCall V P 17 [.agg [.lit (.int .i64 p0.Epoch), .lit (.int .i64 p0.Vote), .lit (.int .i64 p0.Commit), .ro Tag.t_api_Entry p0.Log]] (.cv (.lit (.bool a1))), True, (!a1) = false, PCall V P 43 [.cv (.lit (.int .i64 p1)), .cv (.lit (.int .i64 1)), .cv (.lit (.int .i64 1099511627776))] (.cv (.lit (.bool a2))), True, (!a2) = false, PCall V P 43 [.cv (.lit (.int .i64 p2)), .cv (.lit (.int .i64 0)), .cv (.lit (.int .i64 5000))] (.cv (.lit (.bool a3))), True, (!a3) = false, (decide (p3 < 0)) = false, (!(((decide (p2 = 0)) == (decide (p3 = 0))))) = false, (decide (p5 < 0)) = true]) (S' := ⟨[(1, .cv (.lit (.int .i64 p1))), (2, .cv (.lit (.int .i64 p2))), (3, .cv (.lit (.int .i64 p3))), (4, .cv (.ro Tag.t_api_Entry p4)), (5, .cv (.lit (.int .i64 p5))), (6, .cv (.ptr 0 0)), (12, .cv (.ptr 1 0)), (51, .cv (.lit (.bool true)))], [(0, .raw [.lit (.int .i64 p0.Epoch), .lit (.int .i64 p0.Vote), .lit (.int .i64 p0.Commit), .ro Tag.t_api_Entry p0.Log]), (1, .raw [.lit (.int .i64 0), .lit (.int .i64 0), .lit (.int .i64 0), .lit (.slice none 0 0)])]⟩) (by kernel_rfl) (And.intro (workflowref52_Right.ok h1) (And.intro trivial (And.intro (congrArg Bool.not (c1)) (And.intro (workflowref52_in.ok h2) (And.intro trivial (And.intro (congrArg Bool.not (c2)) (And.intro (workflowref52_in.ok h3) (And.intro trivial (And.intro (congrArg Bool.not (c3)) (And.intro (decide_eq_false c4) (And.intro (congrArg Bool.not (c5)) (decide_eq_true c6)))))))))))) ?_
              refine awp_true (b := true) (by kernel_rfl) (rfl) ?_
              refine awp_seq ?_
              refine awp_region L 40 [] [] [12, 13] [1] (cs := []) (S' := ⟨[(12, .cv (.ptr 1 0)), (13, .cv (.lit (.int .i64 2)))], [(1, .raw [.lit (.int .i64 0), .lit (.int .i64 0), .lit (.int .i64 0), .lit (.slice none 0 0)])]⟩) (by kernel_rfl) trivial ?_
              refine awp_ret ?_
              have hr := Option.some.inj h
              subst hr
              exact ⟨.inr rfl, .tup [.agg [.lit (.int .i64 0), .lit (.int .i64 0), .lit (.int .i64 0), .lit (.slice none 0 0)], .cv (.lit (.int .i64 2))], by kernel_rfl, by kernel_rfl, trivial, by kernel_rfl⟩
            · obtain ⟨a4, h4, h⟩ := bind_some h
              refine awp_region L 4 [(3, false), (8, false), (13, false), (17, false), (24, false), (28, false)] [(1, .cv (.lit (.bool a1))), (5, .cv (.lit (.bool a2))), (10, .cv (.lit (.bool a3))), (32, .cv (.lit (.bool a4)))] [1, 2, 3, 4, 5, 6, 12, 51] [0, 1] (cs := [PCall V P 17 [.agg [.lit (.int .i64 p0.Epoch), .lit (.int .i64 p0.Vote), .lit (.int .i64 p0.Commit), .ro Tag.t_api_Entry p0.Log]] (.cv (.lit (.bool a1))), True, (!a1) = false, PCall V P 43 [.cv (.lit (.int .i64 p1)), .cv (.lit (.int .i64 1)), .cv (.lit (.int .i64 1099511627776))] (.cv (.lit (.bool a2))), True, (!a2) = false, PCall V P 43 [.cv (.lit (.int .i64 p2)), .cv (.lit (.int .i64 0)), .cv (.lit (.int .i64 5000))] (.cv (.lit (.bool a3))), True, (!a3) = false, (decide (p3 < 0)) = false, (!(((decide (p2 = 0)) == (decide (p3 = 0))))) = false, (decide (p5 < 0)) = false, PCall V P 44 [.cv (.lit (.int .i64 p3)), .cv (.lit (.int .i64 p1)), .cv (.ro Tag.t_api_Entry p4)] (.cv (.lit (.bool a4))), True]) (S' := ⟨[(1, .cv (.lit (.int .i64 p1))), (2, .cv (.lit (.int .i64 p2))), (3, .cv (.lit (.int .i64 p3))), (4, .cv (.ro Tag.t_api_Entry p4)), (5, .cv (.lit (.int .i64 p5))), (6, .cv (.ptr 0 0)), (12, .cv (.ptr 1 0)), (51, .cv (.lit (.bool (!a4))))], [(0, .raw [.lit (.int .i64 p0.Epoch), .lit (.int .i64 p0.Vote), .lit (.int .i64 p0.Commit), .ro Tag.t_api_Entry p0.Log]), (1, .raw [.lit (.int .i64 0), .lit (.int .i64 0), .lit (.int .i64 0), .lit (.slice none 0 0)])]⟩) (by kernel_rfl) (And.intro (workflowref52_Right.ok h1) (And.intro trivial (And.intro (congrArg Bool.not (c1)) (And.intro (workflowref52_in.ok h2) (And.intro trivial (And.intro (congrArg Bool.not (c2)) (And.intro (workflowref52_in.ok h3) (And.intro trivial (And.intro (congrArg Bool.not (c3)) (And.intro (decide_eq_false c4) (And.intro (congrArg Bool.not (c5)) (And.intro (decide_eq_false c6) (And.intro (workflowref52_rising.ok h4) trivial))))))))))))) ?_
              rcases ite_some h with ⟨c7, h⟩ | ⟨c7, h⟩
              · refine awp_false (b := (!a4)) (by kernel_rfl) (congrArg Bool.not (c7)) ?_
                refine awp_skip [1, 2, 3, 4, 5, 6, 12] [0, 1] (S' := ⟨[(1, .cv (.lit (.int .i64 p1))), (2, .cv (.lit (.int .i64 p2))), (3, .cv (.lit (.int .i64 p3))), (4, .cv (.ro Tag.t_api_Entry p4)), (5, .cv (.lit (.int .i64 p5))), (6, .cv (.ptr 0 0)), (12, .cv (.ptr 1 0))], [(0, .raw [.lit (.int .i64 p0.Epoch), .lit (.int .i64 p0.Vote), .lit (.int .i64 p0.Commit), .ro Tag.t_api_Entry p0.Log]), (1, .raw [.lit (.int .i64 0), .lit (.int .i64 0), .lit (.int .i64 0), .lit (.slice none 0 0)])]⟩) (by kernel_rfl) ?_
                refine awp_seq ?_
                refine awp_seq ?_
                refine awp_region L 44 [] [] [1, 2, 3, 4, 5, 6, 12, 56] [0, 1] (cs := []) (S' := ⟨[(1, .cv (.lit (.int .i64 p1))), (2, .cv (.lit (.int .i64 p2))), (3, .cv (.lit (.int .i64 p3))), (4, .cv (.ro Tag.t_api_Entry p4)), (5, .cv (.lit (.int .i64 p5))), (6, .cv (.ptr 0 0)), (12, .cv (.ptr 1 0)), (56, .cv (.lit (.bool ((decide (p1 < p0.Epoch))))))], [(0, .raw [.lit (.int .i64 p0.Epoch), .lit (.int .i64 p0.Vote), .lit (.int .i64 p0.Commit), .ro Tag.t_api_Entry p0.Log]), (1, .raw [.lit (.int .i64 0), .lit (.int .i64 0), .lit (.int .i64 0), .lit (.slice none 0 0)])]⟩) (by kernel_rfl) trivial ?_
                rcases ite_some h with ⟨c8, h⟩ | ⟨c8, h⟩
                · refine awp_true (b := (decide (p1 < p0.Epoch))) (by kernel_rfl) (decide_eq_true c8) ?_
                  refine awp_seq ?_
                  refine awp_region L 49 [] [] [12, 13] [1] (cs := []) (S' := ⟨[(12, .cv (.ptr 1 0)), (13, .cv (.lit (.int .i64 25)))], [(1, .raw [.lit (.int .i64 0), .lit (.int .i64 0), .lit (.int .i64 0), .lit (.slice none 0 0)])]⟩) (by kernel_rfl) trivial ?_
                  refine awp_ret ?_
                  have hr := Option.some.inj h
                  subst hr
                  exact ⟨.inr rfl, .tup [.agg [.lit (.int .i64 0), .lit (.int .i64 0), .lit (.int .i64 0), .lit (.slice none 0 0)], .cv (.lit (.int .i64 25))], by kernel_rfl, by kernel_rfl, trivial, by kernel_rfl⟩
                · refine awp_false (b := (decide (p1 < p0.Epoch))) (by kernel_rfl) (decide_eq_false c8) ?_
                  refine awp_skip [1, 2, 3, 4, 5, 6, 12] [0, 1] (S' := ⟨[(1, .cv (.lit (.int .i64 p1))), (2, .cv (.lit (.int .i64 p2))), (3, .cv (.lit (.int .i64 p3))), (4, .cv (.ro Tag.t_api_Entry p4)), (5, .cv (.lit (.int .i64 p5))), (6, .cv (.ptr 0 0)), (12, .cv (.ptr 1 0))], [(0, .raw [.lit (.int .i64 p0.Epoch), .lit (.int .i64 p0.Vote), .lit (.int .i64 p0.Commit), .ro Tag.t_api_Entry p0.Log]), (1, .raw [.lit (.int .i64 0), .lit (.int .i64 0), .lit (.int .i64 0), .lit (.slice none 0 0)])]⟩) (by kernel_rfl) ?_
                  obtain ⟨o1, hp1, h⟩ := obind_some h
                  refine awp_seq (awp_mono (Q' := fun e S => (e = .normal ∧ S = ⟨[(1, .cv (.lit (.int .i64 p1))), (2, .cv (.lit (.int .i64 p2))), (4, .cv (.ro Tag.t_api_Entry p4)), (5, .cv (.lit (.int .i64 p5))), (6, .cv (.ptr 0 0)), (12, .cv (.ptr 1 0))], [(0, .raw [.lit (.int .i64 p0.Epoch), .lit (.int .i64 p0.Vote), .lit (.int .i64 p0.Commit), .ro Tag.t_api_Entry p0.Log]), (1, .raw [.lit (.int .i64 0), .lit (.int .i64 0), .lit (.int .i64 0), .lit (.slice none 0 0)])]⟩ ∧ Out.go () = o1) ∨ (e = .ret ∧ ∃ a, Out.done a = o1 ∧ Eng.Ends P V Try.f15 (.tup [.agg [.lit (.int .i64 a.1.Epoch), .lit (.int .i64 a.1.Vote), .lit (.int .i64 a.1.Commit), .ro Tag.t_api_Entry a.1.Log], .cv (.lit (.int .i64 a.2))]) .ret S)) ?_ ?_)
                  · clear h
                    replace h := hp1
                    refine awp_seq ?_
                    rcases ite_some h with ⟨c9, h⟩ | ⟨c9, h⟩
                    · refine awp_region L 53 [(5, true)] [] [1, 2, 4, 5, 6, 12, 77] [0, 1] (cs := [(decide ((p0.Log.length : Int) < p2)) = true]) (S' := ⟨[(1, .cv (.lit (.int .i64 p1))), (2, .cv (.lit (.int .i64 p2))), (4, .cv (.ro Tag.t_api_Entry p4)), (5, .cv (.lit (.int .i64 p5))), (6, .cv (.ptr 0 0)), (12, .cv (.ptr 1 0)), (77, .cv (.lit (.bool true)))], [(0, .raw [.lit (.int .i64 p0.Epoch), .lit (.int .i64 p0.Vote), .lit (.int .i64 p0.Commit), .ro Tag.t_api_Entry p0.Log]), (1, .raw [.lit (.int .i64 0), .lit (.int .i64 0), .lit (.int .i64 0), .lit (.slice none 0 0)])]⟩) (by kernel_rfl) (decide_eq_true c9) ?_
                      refine awp_true (b := true) (by kernel_rfl) (rfl) ?_
                      refine awp_seq ?_
                      refine awp_region L 74 [] [] [12, 13] [1] (cs := []) (S' := ⟨[(12, .cv (.ptr 1 0)), (13, .cv (.lit (.int .i64 26)))], [(1, .raw [.lit (.int .i64 0), .lit (.int .i64 0), .lit (.int .i64 0), .lit (.slice none 0 0)])]⟩) (by kernel_rfl) trivial ?_
                      refine awp_ret ?_
                      have hr := Option.some.inj h
                      subst hr
                      exact .inr ⟨rfl, _, rfl, ⟨.inr rfl, .tup [.agg [.lit (.int .i64 0), .lit (.int .i64 0), .lit (.int .i64 0), .lit (.slice none 0 0)], .cv (.lit (.int .i64 26))], by kernel_rfl, by kernel_rfl, trivial, by kernel_rfl⟩⟩
                    · rcases ite_some h with ⟨c10, h⟩ | ⟨c10, h⟩
                      · obtain ⟨g1, h⟩ := guard_some h
                        refine awp_region L 53 [(5, false), (8, true)] [] [1, 2, 4, 5, 6, 12, 77] [0, 1] (cs := [(decide ((p0.Log.length : Int) < p2)) = false, (decide (p2 > 0)) = true, (0 : Int) ≤ (IntKind.i64.wrap (p2 - 1)), ((IntKind.i64.wrap (p2 - 1)) : Int) < (p0.Log.length : Int)]) (S' := ⟨[(1, .cv (.lit (.int .i64 p1))), (2, .cv (.lit (.int .i64 p2))), (4, .cv (.ro Tag.t_api_Entry p4)), (5, .cv (.lit (.int .i64 p5))), (6, .cv (.ptr 0 0)), (12, .cv (.ptr 1 0)), (77, .cv (.lit (.bool ((decide (((p0.Log.getD (Int.toNat ((IntKind.i64.wrap (p2 - 1)))) (⟨(0 : Int), ([] : List UInt8)⟩ : api_Entry))).Epoch ≠ p3))))))], [(0, .raw [.lit (.int .i64 p0.Epoch), .lit (.int .i64 p0.Vote), .lit (.int .i64 p0.Commit), .ro Tag.t_api_Entry p0.Log]), (1, .raw [.lit (.int .i64 0), .lit (.int .i64 0), .lit (.int .i64 0), .lit (.slice none 0 0)])]⟩) (by kernel_rfl) (And.intro (decide_eq_false c9) (And.intro (decide_eq_true c10) (And.intro g1.1 g1.2))) ?_
                        rcases ite_some h with ⟨c11, h⟩ | ⟨c11, h⟩
                        · refine awp_true (b := (decide (((p0.Log.getD (Int.toNat ((IntKind.i64.wrap (p2 - 1)))) (⟨(0 : Int), ([] : List UInt8)⟩ : api_Entry))).Epoch ≠ p3))) (by kernel_rfl) (decide_eq_true c11) ?_
                          refine awp_seq ?_
                          refine awp_region L 74 [] [] [12, 13] [1] (cs := []) (S' := ⟨[(12, .cv (.ptr 1 0)), (13, .cv (.lit (.int .i64 26)))], [(1, .raw [.lit (.int .i64 0), .lit (.int .i64 0), .lit (.int .i64 0), .lit (.slice none 0 0)])]⟩) (by kernel_rfl) trivial ?_
                          refine awp_ret ?_
                          have hr := Option.some.inj h
                          subst hr
                          exact .inr ⟨rfl, _, rfl, ⟨.inr rfl, .tup [.agg [.lit (.int .i64 0), .lit (.int .i64 0), .lit (.int .i64 0), .lit (.slice none 0 0)], .cv (.lit (.int .i64 26))], by kernel_rfl, by kernel_rfl, trivial, by kernel_rfl⟩⟩
                        · refine awp_false (b := (decide (((p0.Log.getD (Int.toNat ((IntKind.i64.wrap (p2 - 1)))) (⟨(0 : Int), ([] : List UInt8)⟩ : api_Entry))).Epoch ≠ p3))) (by kernel_rfl) (decide_eq_false c11) ?_
                          refine awp_skip [1, 2, 4, 5, 6, 12] [0, 1] (S' := ⟨[(1, .cv (.lit (.int .i64 p1))), (2, .cv (.lit (.int .i64 p2))), (4, .cv (.ro Tag.t_api_Entry p4)), (5, .cv (.lit (.int .i64 p5))), (6, .cv (.ptr 0 0)), (12, .cv (.ptr 1 0))], [(0, .raw [.lit (.int .i64 p0.Epoch), .lit (.int .i64 p0.Vote), .lit (.int .i64 p0.Commit), .ro Tag.t_api_Entry p0.Log]), (1, .raw [.lit (.int .i64 0), .lit (.int .i64 0), .lit (.int .i64 0), .lit (.slice none 0 0)])]⟩) (by kernel_rfl) ?_
                          have hr := Option.some.inj h
                          subst hr
                          exact .inl ⟨rfl, rfl, rfl⟩
                      · refine awp_region L 53 [(5, false), (8, false)] [] [1, 2, 4, 5, 6, 12, 77] [0, 1] (cs := [(decide ((p0.Log.length : Int) < p2)) = false, (decide (p2 > 0)) = false]) (S' := ⟨[(1, .cv (.lit (.int .i64 p1))), (2, .cv (.lit (.int .i64 p2))), (4, .cv (.ro Tag.t_api_Entry p4)), (5, .cv (.lit (.int .i64 p5))), (6, .cv (.ptr 0 0)), (12, .cv (.ptr 1 0)), (77, .cv (.lit (.bool false)))], [(0, .raw [.lit (.int .i64 p0.Epoch), .lit (.int .i64 p0.Vote), .lit (.int .i64 p0.Commit), .ro Tag.t_api_Entry p0.Log]), (1, .raw [.lit (.int .i64 0), .lit (.int .i64 0), .lit (.int .i64 0), .lit (.slice none 0 0)])]⟩) (by kernel_rfl) (And.intro (decide_eq_false c9) (decide_eq_false c10)) ?_
                        refine awp_false (b := false) (by kernel_rfl) (rfl) ?_
                        refine awp_skip [1, 2, 4, 5, 6, 12] [0, 1] (S' := ⟨[(1, .cv (.lit (.int .i64 p1))), (2, .cv (.lit (.int .i64 p2))), (4, .cv (.ro Tag.t_api_Entry p4)), (5, .cv (.lit (.int .i64 p5))), (6, .cv (.ptr 0 0)), (12, .cv (.ptr 1 0))], [(0, .raw [.lit (.int .i64 p0.Epoch), .lit (.int .i64 p0.Vote), .lit (.int .i64 p0.Commit), .ro Tag.t_api_Entry p0.Log]), (1, .raw [.lit (.int .i64 0), .lit (.int .i64 0), .lit (.int .i64 0), .lit (.slice none 0 0)])]⟩) (by kernel_rfl) ?_
                        have hr := Option.some.inj h
                        subst hr
                        exact .inl ⟨rfl, rfl, rfl⟩
                  · rintro e S (⟨rfl, rfl, rfl⟩ | ⟨rfl, a, rfl, hr⟩)
                    · rcases h with ⟨_, e1, h⟩ | ⟨_, e1, h⟩
                      · cases e1
                      · have e2 := Out.go.inj e1
                        subst e2
                        refine awp_seq ?_
                        refine awp_region L 78 [] [] [1, 2, 4, 5, 6, 12, 14] [0, 1] (cs := []) (S' := ⟨[(1, .cv (.lit (.int .i64 p1))), (2, .cv (.lit (.int .i64 p2))), (4, .cv (.ro Tag.t_api_Entry p4)), (5, .cv (.lit (.int .i64 p5))), (6, .cv (.ptr 0 0)), (12, .cv (.ptr 1 0)), (14, .cv (.lit (.bool true)))], [(0, .raw [.lit (.int .i64 p0.Epoch), .lit (.int .i64 p0.Vote), .lit (.int .i64 p0.Commit), .ro Tag.t_api_Entry p0.Log]), (1, .raw [.lit (.int .i64 0), .lit (.int .i64 0), .lit (.int .i64 0), .lit (.slice none 0 0)])]⟩) (by kernel_rfl) trivial ?_
                        refine awp_seq ?_
                        refine awp_seq ?_
                        refine awp_region L 80 [] [] [1, 2, 4, 5, 6, 12, 14, 15] [0, 1] (cs := []) (S' := ⟨[(1, .cv (.lit (.int .i64 p1))), (2, .cv (.lit (.int .i64 p2))), (4, .cv (.ro Tag.t_api_Entry p4)), (5, .cv (.lit (.int .i64 p5))), (6, .cv (.ptr 0 0)), (12, .cv (.ptr 1 0)), (14, .cv (.lit (.bool true))), (15, .cv (.lit (.int .i64 0)))], [(0, .raw [.lit (.int .i64 p0.Epoch), .lit (.int .i64 p0.Vote), .lit (.int .i64 p0.Commit), .ro Tag.t_api_Entry p0.Log]), (1, .raw [.lit (.int .i64 0), .lit (.int .i64 0), .lit (.int .i64 0), .lit (.slice none 0 0)])]⟩) (by kernel_rfl) trivial ?_
                        refine awp_block ?_
                        refine awp_keep (ts := [1, 2, 4, 5, 6, 12, 14, 15]) (ids := [0, 1]) (S' := ⟨[(1, .cv (.lit (.int .i64 p1))), (2, .cv (.lit (.int .i64 p2))), (4, .cv (.ro Tag.t_api_Entry p4)), (5, .cv (.lit (.int .i64 p5))), (6, .cv (.ptr 0 0)), (12, .cv (.ptr 1 0)), (14, .cv (.lit (.bool true))), (15, .cv (.lit (.int .i64 0)))], [(0, .raw [.lit (.int .i64 p0.Epoch), .lit (.int .i64 p0.Vote), .lit (.int .i64 p0.Commit), .ro Tag.t_api_Entry p0.Log]), (1, .raw [.lit (.int .i64 0), .lit (.int .i64 0), .lit (.int .i64 0), .lit (.slice none 0 0)])]⟩) (by kernel_rfl) ?_
                        obtain ⟨o2, hp2, h⟩ := obind_some h
                        refine awp_mono (Q' := fun e S => (e = .exit 0 ∧ ∃ xt14_33 : Bool, S = ⟨[(1, .cv (.lit (.int .i64 p1))), (2, .cv (.lit (.int .i64 p2))), (4, .cv (.ro Tag.t_api_Entry p4)), (5, .cv (.lit (.int .i64 p5))), (6, .cv (.ptr 0 0)), (12, .cv (.ptr 1 0)), (14, .cv (.lit (.bool xt14_33)))], [(0, .raw [.lit (.int .i64 p0.Epoch), .lit (.int .i64 p0.Vote), .lit (.int .i64 p0.Commit), .ro Tag.t_api_Entry p0.Log]), (1, .raw [.lit (.int .i64 0), .lit (.int .i64 0), .lit (.int .i64 0), .lit (.slice none 0 0)])]⟩ ∧ Out.go xt14_33 = o2) ∨ (e = .ret ∧ ∃ a, Out.done a = o2 ∧ Eng.Ends P V Try.f15 (.tup [.agg [.lit (.int .i64 a.1.Epoch), .lit (.int .i64 a.1.Vote), .lit (.int .i64 a.1.Commit), .ro Tag.t_api_Entry a.1.Log], .cv (.lit (.int .i64 a.2))]) .ret S)) (awp_loop (fun k S => ∃ xt14_33h : Bool, ∃ xt15_33h : Int, S = ⟨[(1, .cv (.lit (.int .i64 p1))), (2, .cv (.lit (.int .i64 p2))), (4, .cv (.ro Tag.t_api_Entry p4)), (5, .cv (.lit (.int .i64 p5))), (6, .cv (.ptr 0 0)), (12, .cv (.ptr 1 0)), (14, .cv (.lit (.bool xt14_33h))), (15, .cv (.lit (.int .i64 xt15_33h)))], [(0, .raw [.lit (.int .i64 p0.Epoch), .lit (.int .i64 p0.Vote), .lit (.int .i64 p0.Commit), .ro Tag.t_api_Entry p0.Log]), (1, .raw [.lit (.int .i64 0), .lit (.int .i64 0), .lit (.int .i64 0), .lit (.slice none 0 0)])]⟩ ∧ workflowref52_Accept.l33 K p0 p2 p4 k xt14_33h xt15_33h = some o2) ?_ ⟨_, _, rfl, hp2⟩) ?_
                        · clear h hp2
                          intro k S hS
                          obtain ⟨xt14_33h, xt15_33h, rfl, h⟩ := hS
                          cases k with
                          | zero => cases h
                          | succ k =>
                          unfold workflowref52_Accept.l33 at h
                          refine awp_seq ?_
                          refine awp_seq ?_
                          rcases ite_some h with ⟨c12, h⟩ | ⟨c12, h⟩
                          · refine awp_region L 82 [(4, true)] [] [1, 2, 4, 5, 6, 12, 14, 15, 91] [0, 1] (cs := [(decide (xt15_33h < (p4.length : Int))) = true]) (S' := ⟨[(1, .cv (.lit (.int .i64 p1))), (2, .cv (.lit (.int .i64 p2))), (4, .cv (.ro Tag.t_api_Entry p4)), (5, .cv (.lit (.int .i64 p5))), (6, .cv (.ptr 0 0)), (12, .cv (.ptr 1 0)), (14, .cv (.lit (.bool xt14_33h))), (15, .cv (.lit (.int .i64 xt15_33h))), (91, .cv (.lit (.bool ((decide ((IntKind.i64.wrap (p2 + xt15_33h)) < (p0.Log.length : Int)))))))], [(0, .raw [.lit (.int .i64 p0.Epoch), .lit (.int .i64 p0.Vote), .lit (.int .i64 p0.Commit), .ro Tag.t_api_Entry p0.Log]), (1, .raw [.lit (.int .i64 0), .lit (.int .i64 0), .lit (.int .i64 0), .lit (.slice none 0 0)])]⟩) (by kernel_rfl) (decide_eq_true c12) ?_
                            rcases ite_some h with ⟨c13, h⟩ | ⟨c13, h⟩
                            · refine awp_true (b := (decide ((IntKind.i64.wrap (p2 + xt15_33h)) < (p0.Log.length : Int)))) (by kernel_rfl) (decide_eq_true c13) ?_
                              refine awp_skip [1, 2, 4, 5, 6, 12, 14, 15] [0, 1] (S' := ⟨[(1, .cv (.lit (.int .i64 p1))), (2, .cv (.lit (.int .i64 p2))), (4, .cv (.ro Tag.t_api_Entry p4)), (5, .cv (.lit (.int .i64 p5))), (6, .cv (.ptr 0 0)), (12, .cv (.ptr 1 0)), (14, .cv (.lit (.bool xt14_33h))), (15, .cv (.lit (.int .i64 xt15_33h)))], [(0, .raw [.lit (.int .i64 p0.Epoch), .lit (.int .i64 p0.Vote), .lit (.int .i64 p0.Commit), .ro Tag.t_api_Entry p0.Log]), (1, .raw [.lit (.int .i64 0), .lit (.int .i64 0), .lit (.int .i64 0), .lit (.slice none 0 0)])]⟩) (by kernel_rfl) ?_
                              refine awp_seq ?_
                              refine awp_block ?_
                              refine awp_seq ?_
                              obtain ⟨g2, h⟩ := guard_some h
                              obtain ⟨g3, h⟩ := guard_some h
                              obtain ⟨a5, h5, h⟩ := bind_some h
                              refine awp_draw L mixed 96 [] [(11, .cv (.lit (.bool a5)))] 13 [1, 2, 4, 5, 6, 12, 14, 15, 106] [0, 1] (cs := [(0 : Int) ≤ (IntKind.i64.wrap (p2 + xt15_33h)), ((IntKind.i64.wrap (p2 + xt15_33h)) : Int) < (p0.Log.length : Int), (0 : Int) ≤ xt15_33h, (xt15_33h : Int) < (p4.length : Int), PCall V P 19 [.agg [.lit (.int .i64 (((p0.Log.getD (Int.toNat ((IntKind.i64.wrap (p2 + xt15_33h)))) (⟨(0 : Int), ([] : List UInt8)⟩ : api_Entry))).Epoch)), .ro Tag.t_uint8 (((p0.Log.getD (Int.toNat ((IntKind.i64.wrap (p2 + xt15_33h)))) (⟨(0 : Int), ([] : List UInt8)⟩ : api_Entry))).Data)], .agg [.lit (.int .i64 (((p4.getD (Int.toNat xt15_33h) (⟨(0 : Int), ([] : List UInt8)⟩ : api_Entry))).Epoch)), .ro Tag.t_uint8 (((p4.getD (Int.toNat xt15_33h) (⟨(0 : Int), ([] : List UInt8)⟩ : api_Entry))).Data)]] (.cv (.lit (.bool a5))), True]) (S' := ⟨[(1, .cv (.lit (.int .i64 p1))), (2, .cv (.lit (.int .i64 p2))), (4, .cv (.ro Tag.t_api_Entry p4)), (5, .cv (.lit (.int .i64 p5))), (6, .cv (.ptr 0 0)), (12, .cv (.ptr 1 0)), (14, .cv (.lit (.bool xt14_33h))), (15, .cv (.lit (.int .i64 xt15_33h))), (106, .cv (.lit (.bool (!a5))))], [(0, .raw [.lit (.int .i64 p0.Epoch), .lit (.int .i64 p0.Vote), .lit (.int .i64 p0.Commit), .ro Tag.t_api_Entry p0.Log]), (1, .raw [.lit (.int .i64 0), .lit (.int .i64 0), .lit (.int .i64 0), .lit (.slice none 0 0)])]⟩) (by kernel_rfl) (And.intro g2.1 (And.intro g2.2 (And.intro g3.1 (And.intro g3.2 (And.intro (workflowref52_Agree.ok h5) trivial))))) ?_
                              rcases ite_some h with ⟨c14, h⟩ | ⟨c14, h⟩
                              · refine awp_false (b := (!a5)) (by kernel_rfl) (congrArg Bool.not (c14)) ?_
                                refine awp_skip [1, 2, 4, 5, 6, 12, 14, 15] [0, 1] (S' := ⟨[(1, .cv (.lit (.int .i64 p1))), (2, .cv (.lit (.int .i64 p2))), (4, .cv (.ro Tag.t_api_Entry p4)), (5, .cv (.lit (.int .i64 p5))), (6, .cv (.ptr 0 0)), (12, .cv (.ptr 1 0)), (14, .cv (.lit (.bool xt14_33h))), (15, .cv (.lit (.int .i64 xt15_33h)))], [(0, .raw [.lit (.int .i64 p0.Epoch), .lit (.int .i64 p0.Vote), .lit (.int .i64 p0.Commit), .ro Tag.t_api_Entry p0.Log]), (1, .raw [.lit (.int .i64 0), .lit (.int .i64 0), .lit (.int .i64 0), .lit (.slice none 0 0)])]⟩) (by kernel_rfl) ?_
                                refine awp_region L 123 [] [] [1, 2, 4, 5, 6, 12, 14, 15] [0, 1] (cs := []) (S' := ⟨[(1, .cv (.lit (.int .i64 p1))), (2, .cv (.lit (.int .i64 p2))), (4, .cv (.ro Tag.t_api_Entry p4)), (5, .cv (.lit (.int .i64 p5))), (6, .cv (.ptr 0 0)), (12, .cv (.ptr 1 0)), (14, .cv (.lit (.bool xt14_33h))), (15, .cv (.lit (.int .i64 ((IntKind.i64.wrap (xt15_33h + 1))))))], [(0, .raw [.lit (.int .i64 p0.Epoch), .lit (.int .i64 p0.Vote), .lit (.int .i64 p0.Commit), .ro Tag.t_api_Entry p0.Log]), (1, .raw [.lit (.int .i64 0), .lit (.int .i64 0), .lit (.int .i64 0), .lit (.slice none 0 0)])]⟩) (by kernel_rfl) trivial ?_
                                exact ⟨k, Nat.lt_succ_self k, _, _, rfl, h⟩
                              · refine awp_true (b := (!a5)) (by kernel_rfl) (congrArg Bool.not (eq_false_of_ne_true c14)) ?_
                                refine awp_seq ?_
                                refine awp_region L 110 [] [] [1, 2, 4, 5, 6, 12, 14, 15] [0, 1] (cs := []) (S' := ⟨[(1, .cv (.lit (.int .i64 p1))), (2, .cv (.lit (.int .i64 p2))), (4, .cv (.ro Tag.t_api_Entry p4)), (5, .cv (.lit (.int .i64 p5))), (6, .cv (.ptr 0 0)), (12, .cv (.ptr 1 0)), (14, .cv (.lit (.bool false))), (15, .cv (.lit (.int .i64 xt15_33h)))], [(0, .raw [.lit (.int .i64 p0.Epoch), .lit (.int .i64 p0.Vote), .lit (.int .i64 p0.Commit), .ro Tag.t_api_Entry p0.Log]), (1, .raw [.lit (.int .i64 0), .lit (.int .i64 0), .lit (.int .i64 0), .lit (.slice none 0 0)])]⟩) (by kernel_rfl) trivial ?_
                                refine awp_seq ?_
                                refine awp_region L 112 [] [] [1, 2, 4, 5, 6, 12, 14, 15, 112] [0, 1] (cs := []) (S' := ⟨[(1, .cv (.lit (.int .i64 p1))), (2, .cv (.lit (.int .i64 p2))), (4, .cv (.ro Tag.t_api_Entry p4)), (5, .cv (.lit (.int .i64 p5))), (6, .cv (.ptr 0 0)), (12, .cv (.ptr 1 0)), (14, .cv (.lit (.bool false))), (15, .cv (.lit (.int .i64 xt15_33h))), (112, .cv (.lit (.bool ((decide ((IntKind.i64.wrap (p2 + xt15_33h)) < p0.Commit))))))], [(0, .raw [.lit (.int .i64 p0.Epoch), .lit (.int .i64 p0.Vote), .lit (.int .i64 p0.Commit), .ro Tag.t_api_Entry p0.Log]), (1, .raw [.lit (.int .i64 0), .lit (.int .i64 0), .lit (.int .i64 0), .lit (.slice none 0 0)])]⟩) (by kernel_rfl) trivial ?_
                                rcases ite_some h with ⟨c15, h⟩ | ⟨c15, h⟩
                                · refine awp_true (b := (decide ((IntKind.i64.wrap (p2 + xt15_33h)) < p0.Commit))) (by kernel_rfl) (decide_eq_true c15) ?_
                                  refine awp_seq ?_
                                  refine awp_region L 119 [] [] [12, 13] [1] (cs := []) (S' := ⟨[(12, .cv (.ptr 1 0)), (13, .cv (.lit (.int .i64 16)))], [(1, .raw [.lit (.int .i64 0), .lit (.int .i64 0), .lit (.int .i64 0), .lit (.slice none 0 0)])]⟩) (by kernel_rfl) trivial ?_
                                  refine awp_ret ?_
                                  have hr := Option.some.inj h
                                  subst hr
                                  exact .inr ⟨rfl, _, rfl, ⟨.inr rfl, .tup [.agg [.lit (.int .i64 0), .lit (.int .i64 0), .lit (.int .i64 0), .lit (.slice none 0 0)], .cv (.lit (.int .i64 16))], by kernel_rfl, by kernel_rfl, trivial, by kernel_rfl⟩⟩
                                · refine awp_false (b := (decide ((IntKind.i64.wrap (p2 + xt15_33h)) < p0.Commit))) (by kernel_rfl) (decide_eq_false c15) ?_
                                  refine awp_skip [1, 2, 4, 5, 6, 12, 14, 15] [0, 1] (S' := ⟨[(1, .cv (.lit (.int .i64 p1))), (2, .cv (.lit (.int .i64 p2))), (4, .cv (.ro Tag.t_api_Entry p4)), (5, .cv (.lit (.int .i64 p5))), (6, .cv (.ptr 0 0)), (12, .cv (.ptr 1 0)), (14, .cv (.lit (.bool false))), (15, .cv (.lit (.int .i64 xt15_33h)))], [(0, .raw [.lit (.int .i64 p0.Epoch), .lit (.int .i64 p0.Vote), .lit (.int .i64 p0.Commit), .ro Tag.t_api_Entry p0.Log]), (1, .raw [.lit (.int .i64 0), .lit (.int .i64 0), .lit (.int .i64 0), .lit (.slice none 0 0)])]⟩) (by kernel_rfl) ?_
                                  refine awp_region L 123 [] [] [1, 2, 4, 5, 6, 12, 14, 15] [0, 1] (cs := []) (S' := ⟨[(1, .cv (.lit (.int .i64 p1))), (2, .cv (.lit (.int .i64 p2))), (4, .cv (.ro Tag.t_api_Entry p4)), (5, .cv (.lit (.int .i64 p5))), (6, .cv (.ptr 0 0)), (12, .cv (.ptr 1 0)), (14, .cv (.lit (.bool false))), (15, .cv (.lit (.int .i64 ((IntKind.i64.wrap (xt15_33h + 1))))))], [(0, .raw [.lit (.int .i64 p0.Epoch), .lit (.int .i64 p0.Vote), .lit (.int .i64 p0.Commit), .ro Tag.t_api_Entry p0.Log]), (1, .raw [.lit (.int .i64 0), .lit (.int .i64 0), .lit (.int .i64 0), .lit (.slice none 0 0)])]⟩) (by kernel_rfl) trivial ?_
                                  exact ⟨k, Nat.lt_succ_self k, _, _, rfl, h⟩
                            · refine awp_false (b := (decide ((IntKind.i64.wrap (p2 + xt15_33h)) < (p0.Log.length : Int)))) (by kernel_rfl) (decide_eq_false c13) ?_
                              refine awp_exit [1, 2, 4, 5, 6, 12, 14] [0, 1] (S' := ⟨[(1, .cv (.lit (.int .i64 p1))), (2, .cv (.lit (.int .i64 p2))), (4, .cv (.ro Tag.t_api_Entry p4)), (5, .cv (.lit (.int .i64 p5))), (6, .cv (.ptr 0 0)), (12, .cv (.ptr 1 0)), (14, .cv (.lit (.bool xt14_33h)))], [(0, .raw [.lit (.int .i64 p0.Epoch), .lit (.int .i64 p0.Vote), .lit (.int .i64 p0.Commit), .ro Tag.t_api_Entry p0.Log]), (1, .raw [.lit (.int .i64 0), .lit (.int .i64 0), .lit (.int .i64 0), .lit (.slice none 0 0)])]⟩) (by kernel_rfl) ?_
                              have hr := Option.some.inj h
                              subst hr
                              exact .inl ⟨rfl, _, rfl, rfl⟩
                          · refine awp_region L 82 [(4, false)] [] [1, 2, 4, 5, 6, 12, 14, 15, 91] [0, 1] (cs := [(decide (xt15_33h < (p4.length : Int))) = false]) (S' := ⟨[(1, .cv (.lit (.int .i64 p1))), (2, .cv (.lit (.int .i64 p2))), (4, .cv (.ro Tag.t_api_Entry p4)), (5, .cv (.lit (.int .i64 p5))), (6, .cv (.ptr 0 0)), (12, .cv (.ptr 1 0)), (14, .cv (.lit (.bool xt14_33h))), (15, .cv (.lit (.int .i64 xt15_33h))), (91, .cv (.lit (.bool false)))], [(0, .raw [.lit (.int .i64 p0.Epoch), .lit (.int .i64 p0.Vote), .lit (.int .i64 p0.Commit), .ro Tag.t_api_Entry p0.Log]), (1, .raw [.lit (.int .i64 0), .lit (.int .i64 0), .lit (.int .i64 0), .lit (.slice none 0 0)])]⟩) (by kernel_rfl) (decide_eq_false c12) ?_
                            refine awp_false (b := false) (by kernel_rfl) (rfl) ?_
                            refine awp_exit [1, 2, 4, 5, 6, 12, 14] [0, 1] (S' := ⟨[(1, .cv (.lit (.int .i64 p1))), (2, .cv (.lit (.int .i64 p2))), (4, .cv (.ro Tag.t_api_Entry p4)), (5, .cv (.lit (.int .i64 p5))), (6, .cv (.ptr 0 0)), (12, .cv (.ptr 1 0)), (14, .cv (.lit (.bool xt14_33h)))], [(0, .raw [.lit (.int .i64 p0.Epoch), .lit (.int .i64 p0.Vote), .lit (.int .i64 p0.Commit), .ro Tag.t_api_Entry p0.Log]), (1, .raw [.lit (.int .i64 0), .lit (.int .i64 0), .lit (.int .i64 0), .lit (.slice none 0 0)])]⟩) (by kernel_rfl) ?_
                            have hr := Option.some.inj h
                            subst hr
                            exact .inl ⟨rfl, _, rfl, rfl⟩
                        · rintro e S (⟨rfl, xt14_33, rfl, rfl⟩ | ⟨rfl, a, rfl, hr⟩)
                          · rcases h with ⟨_, e1, h⟩ | ⟨_, e1, h⟩
                            · cases e1
                            · have e2 := Out.go.inj e1
                              subst e2
                              refine awp_seq ?_
                              refine awp_seq ?_
                              refine awp_region L 127 [] [] [1, 2, 4, 5, 6, 12, 14, 118] [0, 1] (cs := []) (S' := ⟨[(1, .cv (.lit (.int .i64 p1))), (2, .cv (.lit (.int .i64 p2))), (4, .cv (.ro Tag.t_api_Entry p4)), (5, .cv (.lit (.int .i64 p5))), (6, .cv (.ptr 0 0)), (12, .cv (.ptr 1 0)), (14, .cv (.lit (.bool xt14_33))), (118, .cv (.lit (.bool ((decide ((IntKind.i64.wrap (p2 + (p4.length : Int))) > 5000))))))], [(0, .raw [.lit (.int .i64 p0.Epoch), .lit (.int .i64 p0.Vote), .lit (.int .i64 p0.Commit), .ro Tag.t_api_Entry p0.Log]), (1, .raw [.lit (.int .i64 0), .lit (.int .i64 0), .lit (.int .i64 0), .lit (.slice none 0 0)])]⟩) (by kernel_rfl) trivial ?_
                              rcases ite_some h with ⟨c16, h⟩ | ⟨c16, h⟩
                              · refine awp_true (b := (decide ((IntKind.i64.wrap (p2 + (p4.length : Int))) > 5000))) (by kernel_rfl) (decide_eq_true c16) ?_
                                refine awp_seq ?_
                                refine awp_region L 133 [] [] [12, 13] [1] (cs := []) (S' := ⟨[(12, .cv (.ptr 1 0)), (13, .cv (.lit (.int .i64 18)))], [(1, .raw [.lit (.int .i64 0), .lit (.int .i64 0), .lit (.int .i64 0), .lit (.slice none 0 0)])]⟩) (by kernel_rfl) trivial ?_
                                refine awp_ret ?_
                                have hr := Option.some.inj h
                                subst hr
                                exact ⟨.inr rfl, .tup [.agg [.lit (.int .i64 0), .lit (.int .i64 0), .lit (.int .i64 0), .lit (.slice none 0 0)], .cv (.lit (.int .i64 18))], by kernel_rfl, by kernel_rfl, trivial, by kernel_rfl⟩
                              · refine awp_false (b := (decide ((IntKind.i64.wrap (p2 + (p4.length : Int))) > 5000))) (by kernel_rfl) (decide_eq_false c16) ?_
                                refine awp_skip [1, 2, 4, 5, 6, 12, 14] [0, 1] (S' := ⟨[(1, .cv (.lit (.int .i64 p1))), (2, .cv (.lit (.int .i64 p2))), (4, .cv (.ro Tag.t_api_Entry p4)), (5, .cv (.lit (.int .i64 p5))), (6, .cv (.ptr 0 0)), (12, .cv (.ptr 1 0)), (14, .cv (.lit (.bool xt14_33)))], [(0, .raw [.lit (.int .i64 p0.Epoch), .lit (.int .i64 p0.Vote), .lit (.int .i64 p0.Commit), .ro Tag.t_api_Entry p0.Log]), (1, .raw [.lit (.int .i64 0), .lit (.int .i64 0), .lit (.int .i64 0), .lit (.slice none 0 0)])]⟩) (by kernel_rfl) ?_
                                refine awp_seq ?_
                                refine awp_region L 137 [] [] [1, 2, 4, 5, 6, 12, 14, 16] [0, 1, 143] (cs := []) (S' := ⟨[(1, .cv (.lit (.int .i64 p1))), (2, .cv (.lit (.int .i64 p2))), (4, .cv (.ro Tag.t_api_Entry p4)), (5, .cv (.lit (.int .i64 p5))), (6, .cv (.ptr 0 0)), (12, .cv (.ptr 1 0)), (14, .cv (.lit (.bool xt14_33))), (16, .cv (.ptr 143 0))], [(0, .raw [.lit (.int .i64 p0.Epoch), .lit (.int .i64 p0.Vote), .lit (.int .i64 p0.Commit), .ro Tag.t_api_Entry p0.Log]), (1, .raw [.lit (.int .i64 0), .lit (.int .i64 0), .lit (.int .i64 0), .lit (.slice none 0 0)]), (143, .raw [.lit (.int .i64 p1), .lit (.int .i64 p0.Vote), .lit (.int .i64 p0.Commit), .lit (.slice none 0 0)])]⟩) (by kernel_rfl) trivial ?_
                                obtain ⟨o3, hp3, h⟩ := bind_some h
                                refine awp_seq (awp_mono (Q' := fun e S => (e = .normal ∧ ∃ xh143_1_66 : Int, S = ⟨[(2, .cv (.lit (.int .i64 p2))), (4, .cv (.ro Tag.t_api_Entry p4)), (5, .cv (.lit (.int .i64 p5))), (6, .cv (.ptr 0 0)), (12, .cv (.ptr 1 0)), (14, .cv (.lit (.bool xt14_33))), (16, .cv (.ptr 143 0))], [(0, .raw [.lit (.int .i64 p0.Epoch), .lit (.int .i64 p0.Vote), .lit (.int .i64 p0.Commit), .ro Tag.t_api_Entry p0.Log]), (1, .raw [.lit (.int .i64 0), .lit (.int .i64 0), .lit (.int .i64 0), .lit (.slice none 0 0)]), (143, .raw [.lit (.int .i64 p1), .lit (.int .i64 xh143_1_66), .lit (.int .i64 p0.Commit), .lit (.slice none 0 0)])]⟩ ∧ xh143_1_66 = o3)) ?_ ?_)
                                · clear h
                                  replace h := hp3
                                  refine awp_seq ?_
                                  refine awp_region L 146 [] [] [2, 4, 5, 6, 12, 14, 16, 129] [0, 1, 143] (cs := []) (S' := ⟨[(2, .cv (.lit (.int .i64 p2))), (4, .cv (.ro Tag.t_api_Entry p4)), (5, .cv (.lit (.int .i64 p5))), (6, .cv (.ptr 0 0)), (12, .cv (.ptr 1 0)), (14, .cv (.lit (.bool xt14_33))), (16, .cv (.ptr 143 0)), (129, .cv (.lit (.bool ((decide (p1 > p0.Epoch))))))], [(0, .raw [.lit (.int .i64 p0.Epoch), .lit (.int .i64 p0.Vote), .lit (.int .i64 p0.Commit), .ro Tag.t_api_Entry p0.Log]), (1, .raw [.lit (.int .i64 0), .lit (.int .i64 0), .lit (.int .i64 0), .lit (.slice none 0 0)]), (143, .raw [.lit (.int .i64 p1), .lit (.int .i64 p0.Vote), .lit (.int .i64 p0.Commit), .lit (.slice none 0 0)])]⟩) (by kernel_rfl) trivial ?_
                                  rcases ite_some h with ⟨c17, h⟩ | ⟨c17, h⟩
                                  · refine awp_true (b := (decide (p1 > p0.Epoch))) (by kernel_rfl) (decide_eq_true c17) ?_
                                    refine awp_region L 151 [] [] [2, 4, 5, 6, 12, 14, 16] [0, 1, 143] (cs := []) (S' := ⟨[(2, .cv (.lit (.int .i64 p2))), (4, .cv (.ro Tag.t_api_Entry p4)), (5, .cv (.lit (.int .i64 p5))), (6, .cv (.ptr 0 0)), (12, .cv (.ptr 1 0)), (14, .cv (.lit (.bool xt14_33))), (16, .cv (.ptr 143 0))], [(0, .raw [.lit (.int .i64 p0.Epoch), .lit (.int .i64 p0.Vote), .lit (.int .i64 p0.Commit), .ro Tag.t_api_Entry p0.Log]), (1, .raw [.lit (.int .i64 0), .lit (.int .i64 0), .lit (.int .i64 0), .lit (.slice none 0 0)]), (143, .raw [.lit (.int .i64 p1), .lit (.int .i64 (-1)), .lit (.int .i64 p0.Commit), .lit (.slice none 0 0)])]⟩) (by kernel_rfl) trivial ?_
                                    have hr := Option.some.inj h
                                    subst hr
                                    exact ⟨rfl, _, rfl, rfl⟩
                                  · refine awp_false (b := (decide (p1 > p0.Epoch))) (by kernel_rfl) (decide_eq_false c17) ?_
                                    refine awp_skip [2, 4, 5, 6, 12, 14, 16] [0, 1, 143] (S' := ⟨[(2, .cv (.lit (.int .i64 p2))), (4, .cv (.ro Tag.t_api_Entry p4)), (5, .cv (.lit (.int .i64 p5))), (6, .cv (.ptr 0 0)), (12, .cv (.ptr 1 0)), (14, .cv (.lit (.bool xt14_33))), (16, .cv (.ptr 143 0))], [(0, .raw [.lit (.int .i64 p0.Epoch), .lit (.int .i64 p0.Vote), .lit (.int .i64 p0.Commit), .ro Tag.t_api_Entry p0.Log]), (1, .raw [.lit (.int .i64 0), .lit (.int .i64 0), .lit (.int .i64 0), .lit (.slice none 0 0)]), (143, .raw [.lit (.int .i64 p1), .lit (.int .i64 p0.Vote), .lit (.int .i64 p0.Commit), .lit (.slice none 0 0)])]⟩) (by kernel_rfl) ?_
                                    have hr := Option.some.inj h
                                    subst hr
                                    exact ⟨rfl, _, rfl, rfl⟩
                                · rintro e S ⟨rfl, xh143_1_66, rfl, rfl⟩
                                  refine awp_seq ?_
                                  obtain ⟨g4, h⟩ := guard_some h
                                  obtain ⟨g5, h⟩ := guard_some h
                                  refine awp_draw L mixed 154 [] [] 6 [2, 4, 5, 6, 12, 14, 16] [0, 1, 143, 160] (cs := [(0 : Int) ≤ 0, (0 : Int) ≤ p2, p2 ≤ (p0.Log.length : Int), (slc p0.Log 0 p2).length * 32 ≤ 140737488355328, True]) (S' := ⟨[(2, .cv (.lit (.int .i64 p2))), (4, .cv (.ro Tag.t_api_Entry p4)), (5, .cv (.lit (.int .i64 p5))), (6, .cv (.ptr 0 0)), (12, .cv (.ptr 1 0)), (14, .cv (.lit (.bool xt14_33))), (16, .cv (.ptr 143 0))], [(0, .raw [.lit (.int .i64 p0.Epoch), .lit (.int .i64 p0.Vote), .lit (.int .i64 p0.Commit), .ro Tag.t_api_Entry p0.Log]), (1, .raw [.lit (.int .i64 0), .lit (.int .i64 0), .lit (.int .i64 0), .lit (.slice none 0 0)]), (143, .raw [.lit (.int .i64 p1), .lit (.int .i64 xh143_1_66), .lit (.int .i64 p0.Commit), .own Tag.t_api_Entry 160]), (160, .lst Tag.t_api_Entry (slc p0.Log 0 p2))]⟩) (by kernel_rfl) (And.intro (Int.le_refl _) (And.intro g4.1 (And.intro g4.2 (And.intro g5 trivial)))) ?_
                                  refine awp_seq ?_
                                  obtain ⟨g6, h⟩ := guard_some h
                                  refine awp_region L 164 [] [] [2, 4, 5, 6, 12, 14, 16] [0, 1, 143, 160] (cs := [((slc p0.Log 0 p2).length + p4.length) * 32 ≤ 140737488355328, True]) (S' := ⟨[(2, .cv (.lit (.int .i64 p2))), (4, .cv (.ro Tag.t_api_Entry p4)), (5, .cv (.lit (.int .i64 p5))), (6, .cv (.ptr 0 0)), (12, .cv (.ptr 1 0)), (14, .cv (.lit (.bool xt14_33))), (16, .cv (.ptr 143 0))], [(0, .raw [.lit (.int .i64 p0.Epoch), .lit (.int .i64 p0.Vote), .lit (.int .i64 p0.Commit), .ro Tag.t_api_Entry p0.Log]), (1, .raw [.lit (.int .i64 0), .lit (.int .i64 0), .lit (.int .i64 0), .lit (.slice none 0 0)]), (143, .raw [.lit (.int .i64 p1), .lit (.int .i64 xh143_1_66), .lit (.int .i64 p0.Commit), .own Tag.t_api_Entry 160]), (160, .lst Tag.t_api_Entry (((slc p0.Log 0 p2) ++ p4)))]⟩) (by kernel_rfl) (And.intro g6 trivial) ?_
                                  obtain ⟨o5, hp5, h⟩ := bind_some h
                                  refine awp_seq (awp_mono (Q' := fun e S => (e = .normal ∧ ∃ xh160_76 : List api_Entry, S = ⟨[(2, .cv (.lit (.int .i64 p2))), (4, .cv (.ro Tag.t_api_Entry p4)), (5, .cv (.lit (.int .i64 p5))), (12, .cv (.ptr 1 0)), (16, .cv (.ptr 143 0))], [(1, .raw [.lit (.int .i64 0), .lit (.int .i64 0), .lit (.int .i64 0), .lit (.slice none 0 0)]), (143, .raw [.lit (.int .i64 p1), .lit (.int .i64 xh143_1_66), .lit (.int .i64 p0.Commit), .own Tag.t_api_Entry 160]), (160, .lst Tag.t_api_Entry xh160_76)]⟩ ∧ xh160_76 = o5)) ?_ ?_)
                                  · clear h
                                    replace h := hp5
                                    obtain ⟨o4, hp4, h⟩ := bind_some h
                                    refine awp_seq (awp_mono (Q' := fun e S => (e = .normal ∧ ∃ xt154_77 : Bool, S = ⟨[(2, .cv (.lit (.int .i64 p2))), (4, .cv (.ro Tag.t_api_Entry p4)), (5, .cv (.lit (.int .i64 p5))), (6, .cv (.ptr 0 0)), (12, .cv (.ptr 1 0)), (16, .cv (.ptr 143 0)), (154, .cv (.lit (.bool xt154_77)))], [(0, .raw [.lit (.int .i64 p0.Epoch), .lit (.int .i64 p0.Vote), .lit (.int .i64 p0.Commit), .ro Tag.t_api_Entry p0.Log]), (1, .raw [.lit (.int .i64 0), .lit (.int .i64 0), .lit (.int .i64 0), .lit (.slice none 0 0)]), (143, .raw [.lit (.int .i64 p1), .lit (.int .i64 xh143_1_66), .lit (.int .i64 p0.Commit), .own Tag.t_api_Entry 160]), (160, .lst Tag.t_api_Entry (((slc p0.Log 0 p2) ++ p4)))]⟩ ∧ xt154_77 = o4)) ?_ ?_)
                                    · clear h
                                      replace h := hp4
                                      rcases ite_some h with ⟨c18, h⟩ | ⟨c18, h⟩
                                      · refine awp_region L 171 [(1, true)] [] [2, 4, 5, 6, 12, 16, 154] [0, 1, 143, 160] (cs := [xt14_33 = true]) (S' := ⟨[(2, .cv (.lit (.int .i64 p2))), (4, .cv (.ro Tag.t_api_Entry p4)), (5, .cv (.lit (.int .i64 p5))), (6, .cv (.ptr 0 0)), (12, .cv (.ptr 1 0)), (16, .cv (.ptr 143 0)), (154, .cv (.lit (.bool ((decide ((p0.Log.length : Int) > (IntKind.i64.wrap (p2 + (p4.length : Int)))))))))], [(0, .raw [.lit (.int .i64 p0.Epoch), .lit (.int .i64 p0.Vote), .lit (.int .i64 p0.Commit), .ro Tag.t_api_Entry p0.Log]), (1, .raw [.lit (.int .i64 0), .lit (.int .i64 0), .lit (.int .i64 0), .lit (.slice none 0 0)]), (143, .raw [.lit (.int .i64 p1), .lit (.int .i64 xh143_1_66), .lit (.int .i64 p0.Commit), .own Tag.t_api_Entry 160]), (160, .lst Tag.t_api_Entry (((slc p0.Log 0 p2) ++ p4)))]⟩) (by kernel_rfl) c18 ?_
                                        have hr := Option.some.inj h
                                        subst hr
                                        exact ⟨rfl, _, rfl, rfl⟩
                                      · refine awp_region L 171 [(1, false)] [] [2, 4, 5, 6, 12, 16, 154] [0, 1, 143, 160] (cs := [xt14_33 = false]) (S' := ⟨[(2, .cv (.lit (.int .i64 p2))), (4, .cv (.ro Tag.t_api_Entry p4)), (5, .cv (.lit (.int .i64 p5))), (6, .cv (.ptr 0 0)), (12, .cv (.ptr 1 0)), (16, .cv (.ptr 143 0)), (154, .cv (.lit (.bool false)))], [(0, .raw [.lit (.int .i64 p0.Epoch), .lit (.int .i64 p0.Vote), .lit (.int .i64 p0.Commit), .ro Tag.t_api_Entry p0.Log]), (1, .raw [.lit (.int .i64 0), .lit (.int .i64 0), .lit (.int .i64 0), .lit (.slice none 0 0)]), (143, .raw [.lit (.int .i64 p1), .lit (.int .i64 xh143_1_66), .lit (.int .i64 p0.Commit), .own Tag.t_api_Entry 160]), (160, .lst Tag.t_api_Entry (((slc p0.Log 0 p2) ++ p4)))]⟩) (by kernel_rfl) (eq_false_of_ne_true c18) ?_
                                        have hr := Option.some.inj h
                                        subst hr
                                        exact ⟨rfl, _, rfl, rfl⟩
                                    · rintro e S ⟨rfl, xt154_77, rfl, rfl⟩
                                      rcases ite_some h with ⟨c19, h⟩ | ⟨c19, h⟩
                                      · refine awp_true (b := xt154_77) (by kernel_rfl) (c19) ?_
                                        obtain ⟨g7, h⟩ := guard_some h
                                        obtain ⟨g8, h⟩ := guard_some h
                                        refine awp_draw L mixed 183 [] [] 9 [2, 4, 5, 12, 16] [1, 143, 160] (cs := [(0 : Int) ≤ (IntKind.i64.wrap (p2 + (p4.length : Int))), ((IntKind.i64.wrap (p2 + (p4.length : Int)))) ≤ (p0.Log.length : Int), (p0.Log.length : Int) ≤ (p0.Log.length : Int), ((((slc p0.Log 0 p2) ++ p4)).length + ((slc p0.Log ((IntKind.i64.wrap (p2 + (p4.length : Int)))) (p0.Log.length : Int))).length) * 32 ≤ 140737488355328, True]) (S' := ⟨[(2, .cv (.lit (.int .i64 p2))), (4, .cv (.ro Tag.t_api_Entry p4)), (5, .cv (.lit (.int .i64 p5))), (12, .cv (.ptr 1 0)), (16, .cv (.ptr 143 0))], [(1, .raw [.lit (.int .i64 0), .lit (.int .i64 0), .lit (.int .i64 0), .lit (.slice none 0 0)]), (143, .raw [.lit (.int .i64 p1), .lit (.int .i64 xh143_1_66), .lit (.int .i64 p0.Commit), .own Tag.t_api_Entry 160]), (160, .lst Tag.t_api_Entry ((((slc p0.Log 0 p2) ++ p4) ++ (slc p0.Log ((IntKind.i64.wrap (p2 + (p4.length : Int)))) (p0.Log.length : Int)))))]⟩) (by kernel_rfl) (And.intro g7.1 (And.intro g7.2 (And.intro (Int.le_refl _) (And.intro g8 trivial)))) ?_
                                        have hr := Option.some.inj h
                                        subst hr
                                        exact ⟨rfl, _, rfl, rfl⟩
                                      · refine awp_false (b := xt154_77) (by kernel_rfl) (eq_false_of_ne_true c19) ?_
                                        refine awp_skip [2, 4, 5, 12, 16] [1, 143, 160] (S' := ⟨[(2, .cv (.lit (.int .i64 p2))), (4, .cv (.ro Tag.t_api_Entry p4)), (5, .cv (.lit (.int .i64 p5))), (12, .cv (.ptr 1 0)), (16, .cv (.ptr 143 0))], [(1, .raw [.lit (.int .i64 0), .lit (.int .i64 0), .lit (.int .i64 0), .lit (.slice none 0 0)]), (143, .raw [.lit (.int .i64 p1), .lit (.int .i64 xh143_1_66), .lit (.int .i64 p0.Commit), .own Tag.t_api_Entry 160]), (160, .lst Tag.t_api_Entry (((slc p0.Log 0 p2) ++ p4)))]⟩) (by kernel_rfl) ?_
                                        have hr := Option.some.inj h
                                        subst hr
                                        exact ⟨rfl, _, rfl, rfl⟩
                                  · rintro e S ⟨rfl, xh160_76, rfl, rfl⟩
                                    obtain ⟨o6, hp6, h⟩ := bind_some h
                                    refine awp_seq (awp_mono (Q' := fun e S => (e = .normal ∧ ∃ xt5_82 : Int, S = ⟨[(5, .cv (.lit (.int .i64 xt5_82))), (12, .cv (.ptr 1 0)), (16, .cv (.ptr 143 0))], [(1, .raw [.lit (.int .i64 0), .lit (.int .i64 0), .lit (.int .i64 0), .lit (.slice none 0 0)]), (143, .raw [.lit (.int .i64 p1), .lit (.int .i64 xh143_1_66), .lit (.int .i64 p0.Commit), .own Tag.t_api_Entry 160]), (160, .lst Tag.t_api_Entry xh160_76)]⟩ ∧ xt5_82 = o6)) ?_ ?_)
                                    · clear h
                                      replace h := hp6
                                      refine awp_seq ?_
                                      refine awp_region L 196 [] [] [2, 4, 5, 12, 16, 171] [1, 143, 160] (cs := []) (S' := ⟨[(2, .cv (.lit (.int .i64 p2))), (4, .cv (.ro Tag.t_api_Entry p4)), (5, .cv (.lit (.int .i64 p5))), (12, .cv (.ptr 1 0)), (16, .cv (.ptr 143 0)), (171, .cv (.lit (.bool ((decide (p5 > (IntKind.i64.wrap (p2 + (p4.length : Int)))))))))], [(1, .raw [.lit (.int .i64 0), .lit (.int .i64 0), .lit (.int .i64 0), .lit (.slice none 0 0)]), (143, .raw [.lit (.int .i64 p1), .lit (.int .i64 xh143_1_66), .lit (.int .i64 p0.Commit), .own Tag.t_api_Entry 160]), (160, .lst Tag.t_api_Entry xh160_76)]⟩) (by kernel_rfl) trivial ?_
                                      rcases ite_some h with ⟨c20, h⟩ | ⟨c20, h⟩
                                      · refine awp_true (b := (decide (p5 > (IntKind.i64.wrap (p2 + (p4.length : Int)))))) (by kernel_rfl) (decide_eq_true c20) ?_
                                        refine awp_region L 203 [] [] [5, 12, 16] [1, 143, 160] (cs := []) (S' := ⟨[(5, .cv (.lit (.int .i64 ((IntKind.i64.wrap (p2 + (p4.length : Int))))))), (12, .cv (.ptr 1 0)), (16, .cv (.ptr 143 0))], [(1, .raw [.lit (.int .i64 0), .lit (.int .i64 0), .lit (.int .i64 0), .lit (.slice none 0 0)]), (143, .raw [.lit (.int .i64 p1), .lit (.int .i64 xh143_1_66), .lit (.int .i64 p0.Commit), .own Tag.t_api_Entry 160]), (160, .lst Tag.t_api_Entry xh160_76)]⟩) (by kernel_rfl) trivial ?_
                                        have hr := Option.some.inj h
                                        subst hr
                                        exact ⟨rfl, _, rfl, rfl⟩
                                      · refine awp_false (b := (decide (p5 > (IntKind.i64.wrap (p2 + (p4.length : Int)))))) (by kernel_rfl) (decide_eq_false c20) ?_
                                        refine awp_skip [5, 12, 16] [1, 143, 160] (S' := ⟨[(5, .cv (.lit (.int .i64 p5))), (12, .cv (.ptr 1 0)), (16, .cv (.ptr 143 0))], [(1, .raw [.lit (.int .i64 0), .lit (.int .i64 0), .lit (.int .i64 0), .lit (.slice none 0 0)]), (143, .raw [.lit (.int .i64 p1), .lit (.int .i64 xh143_1_66), .lit (.int .i64 p0.Commit), .own Tag.t_api_Entry 160]), (160, .lst Tag.t_api_Entry xh160_76)]⟩) (by kernel_rfl) ?_
                                        have hr := Option.some.inj h
                                        subst hr
                                        exact ⟨rfl, _, rfl, rfl⟩
                                    · rintro e S ⟨rfl, xt5_82, rfl, rfl⟩
                                      refine awp_seq ?_
                                      refine awp_seq ?_
                                      refine awp_region L 209 [] [] [5, 12, 16, 179] [1, 143, 160] (cs := []) (S' := ⟨[(5, .cv (.lit (.int .i64 xt5_82))), (12, .cv (.ptr 1 0)), (16, .cv (.ptr 143 0)), (179, .cv (.lit (.bool ((decide (xt5_82 > p0.Commit))))))], [(1, .raw [.lit (.int .i64 0), .lit (.int .i64 0), .lit (.int .i64 0), .lit (.slice none 0 0)]), (143, .raw [.lit (.int .i64 p1), .lit (.int .i64 xh143_1_66), .lit (.int .i64 p0.Commit), .own Tag.t_api_Entry 160]), (160, .lst Tag.t_api_Entry xh160_76)]⟩) (by kernel_rfl) trivial ?_
                                      rcases ite_some h with ⟨c21, h⟩ | ⟨c21, h⟩
                                      · refine awp_true (b := (decide (xt5_82 > p0.Commit))) (by kernel_rfl) (decide_eq_true c21) ?_
                                        refine awp_region L 214 [] [] [12, 16] [1, 143, 160] (cs := []) (S' := ⟨[(12, .cv (.ptr 1 0)), (16, .cv (.ptr 143 0))], [(1, .raw [.lit (.int .i64 0), .lit (.int .i64 0), .lit (.int .i64 0), .lit (.slice none 0 0)]), (143, .raw [.lit (.int .i64 p1), .lit (.int .i64 xh143_1_66), .lit (.int .i64 xt5_82), .own Tag.t_api_Entry 160]), (160, .lst Tag.t_api_Entry xh160_76)]⟩) (by kernel_rfl) trivial ?_
                                        refine awp_seq ?_
                                        refine awp_region L 218 [] [] [12, 13] [1, 160] (cs := []) (S' := ⟨[(12, .cv (.ptr 1 0)), (13, .cv (.lit (.int .i64 0)))], [(1, .raw [.lit (.int .i64 p1), .lit (.int .i64 xh143_1_66), .lit (.int .i64 xt5_82), .own Tag.t_api_Entry 160]), (160, .lst Tag.t_api_Entry xh160_76)]⟩) (by kernel_rfl) trivial ?_
                                        refine awp_ret ?_
                                        have hr := Option.some.inj h
                                        subst hr
                                        exact ⟨.inr rfl, .tup [.agg [.lit (.int .i64 p1), .lit (.int .i64 xh143_1_66), .lit (.int .i64 xt5_82), .own Tag.t_api_Entry 160], .cv (.lit (.int .i64 0))], by kernel_rfl, by kernel_rfl, trivial, by kernel_rfl⟩
                                      · refine awp_false (b := (decide (xt5_82 > p0.Commit))) (by kernel_rfl) (decide_eq_false c21) ?_
                                        refine awp_skip [12, 16] [1, 143, 160] (S' := ⟨[(12, .cv (.ptr 1 0)), (16, .cv (.ptr 143 0))], [(1, .raw [.lit (.int .i64 0), .lit (.int .i64 0), .lit (.int .i64 0), .lit (.slice none 0 0)]), (143, .raw [.lit (.int .i64 p1), .lit (.int .i64 xh143_1_66), .lit (.int .i64 p0.Commit), .own Tag.t_api_Entry 160]), (160, .lst Tag.t_api_Entry xh160_76)]⟩) (by kernel_rfl) ?_
                                        refine awp_seq ?_
                                        refine awp_region L 218 [] [] [12, 13] [1, 160] (cs := []) (S' := ⟨[(12, .cv (.ptr 1 0)), (13, .cv (.lit (.int .i64 0)))], [(1, .raw [.lit (.int .i64 p1), .lit (.int .i64 xh143_1_66), .lit (.int .i64 p0.Commit), .own Tag.t_api_Entry 160]), (160, .lst Tag.t_api_Entry xh160_76)]⟩) (by kernel_rfl) trivial ?_
                                        refine awp_ret ?_
                                        have hr := Option.some.inj h
                                        subst hr
                                        exact ⟨.inr rfl, .tup [.agg [.lit (.int .i64 p1), .lit (.int .i64 xh143_1_66), .lit (.int .i64 p0.Commit), .own Tag.t_api_Entry 160], .cv (.lit (.int .i64 0))], by kernel_rfl, by kernel_rfl, trivial, by kernel_rfl⟩
                          · rcases h with ⟨_, e1, h⟩ | ⟨_, e1, h⟩
                            · have e2 := Out.done.inj e1
                              subst e2
                              subst h
                              exact hr
                            · cases e1
                    · rcases h with ⟨_, e1, h⟩ | ⟨_, e1, h⟩
                      · have e2 := Out.done.inj e1
                        subst e2
                        subst h
                        exact hr
                      · cases e1
              · refine awp_true (b := (!a4)) (by kernel_rfl) (congrArg Bool.not (eq_false_of_ne_true c7)) ?_
                refine awp_seq ?_
                refine awp_region L 40 [] [] [12, 13] [1] (cs := []) (S' := ⟨[(12, .cv (.ptr 1 0)), (13, .cv (.lit (.int .i64 2)))], [(1, .raw [.lit (.int .i64 0), .lit (.int .i64 0), .lit (.int .i64 0), .lit (.slice none 0 0)])]⟩) (by kernel_rfl) trivial ?_
                refine awp_ret ?_
                have hr := Option.some.inj h
                subst hr
                exact ⟨.inr rfl, .tup [.agg [.lit (.int .i64 0), .lit (.int .i64 0), .lit (.int .i64 0), .lit (.slice none 0 0)], .cv (.lit (.int .i64 2))], by kernel_rfl, by kernel_rfl, trivial, by kernel_rfl⟩
          · refine awp_region L 4 [(3, false), (8, false), (13, false), (17, false), (24, true)] [(1, .cv (.lit (.bool a1))), (5, .cv (.lit (.bool a2))), (10, .cv (.lit (.bool a3)))] [1, 2, 3, 4, 5, 6, 12, 51] [0, 1] (cs := [PCall V P 17 [.agg [.lit (.int .i64 p0.Epoch), .lit (.int .i64 p0.Vote), .lit (.int .i64 p0.Commit), .ro Tag.t_api_Entry p0.Log]] (.cv (.lit (.bool a1))), True, (!a1) = false, PCall V P 43 [.cv (.lit (.int .i64 p1)), .cv (.lit (.int .i64 1)), .cv (.lit (.int .i64 1099511627776))] (.cv (.lit (.bool a2))), True, (!a2) = false, PCall V P 43 [.cv (.lit (.int .i64 p2)), .cv (.lit (.int .i64 0)), .cv (.lit (.int .i64 5000))] (.cv (.lit (.bool a3))), True, (!a3) = false, (decide (p3 < 0)) = false, (!(((decide (p2 = 0)) == (decide (p3 = 0))))) = true]) (S' := ⟨[(1, .cv (.lit (.int .i64 p1))), (2, .cv (.lit (.int .i64 p2))), (3, .cv (.lit (.int .i64 p3))), (4, .cv (.ro Tag.t_api_Entry p4)), (5, .cv (.lit (.int .i64 p5))), (6, .cv (.ptr 0 0)), (12, .cv (.ptr 1 0)), (51, .cv (.lit (.bool true)))], [(0, .raw [.lit (.int .i64 p0.Epoch), .lit (.int .i64 p0.Vote), .lit (.int .i64 p0.Commit), .ro Tag.t_api_Entry p0.Log]), (1, .raw [.lit (.int .i64 0), .lit (.int .i64 0), .lit (.int .i64 0), .lit (.slice none 0 0)])]⟩) (by kernel_rfl) (And.intro (workflowref52_Right.ok h1) (And.intro trivial (And.intro (congrArg Bool.not (c1)) (And.intro (workflowref52_in.ok h2) (And.intro trivial (And.intro (congrArg Bool.not (c2)) (And.intro (workflowref52_in.ok h3) (And.intro trivial (And.intro (congrArg Bool.not (c3)) (And.intro (decide_eq_false c4) (congrArg Bool.not (eq_false_of_ne_true c5)))))))))))) ?_
            refine awp_true (b := true) (by kernel_rfl) (rfl) ?_
            refine awp_seq ?_
            refine awp_region L 40 [] [] [12, 13] [1] (cs := []) (S' := ⟨[(12, .cv (.ptr 1 0)), (13, .cv (.lit (.int .i64 2)))], [(1, .raw [.lit (.int .i64 0), .lit (.int .i64 0), .lit (.int .i64 0), .lit (.slice none 0 0)])]⟩) (by kernel_rfl) trivial ?_
            refine awp_ret ?_
            have hr := Option.some.inj h
            subst hr
            exact ⟨.inr rfl, .tup [.agg [.lit (.int .i64 0), .lit (.int .i64 0), .lit (.int .i64 0), .lit (.slice none 0 0)], .cv (.lit (.int .i64 2))], by kernel_rfl, by kernel_rfl, trivial, by kernel_rfl⟩
      · refine awp_region L 4 [(3, false), (8, false), (13, true)] [(1, .cv (.lit (.bool a1))), (5, .cv (.lit (.bool a2))), (10, .cv (.lit (.bool a3)))] [1, 2, 3, 4, 5, 6, 12, 51] [0, 1] (cs := [PCall V P 17 [.agg [.lit (.int .i64 p0.Epoch), .lit (.int .i64 p0.Vote), .lit (.int .i64 p0.Commit), .ro Tag.t_api_Entry p0.Log]] (.cv (.lit (.bool a1))), True, (!a1) = false, PCall V P 43 [.cv (.lit (.int .i64 p1)), .cv (.lit (.int .i64 1)), .cv (.lit (.int .i64 1099511627776))] (.cv (.lit (.bool a2))), True, (!a2) = false, PCall V P 43 [.cv (.lit (.int .i64 p2)), .cv (.lit (.int .i64 0)), .cv (.lit (.int .i64 5000))] (.cv (.lit (.bool a3))), True, (!a3) = true]) (S' := ⟨[(1, .cv (.lit (.int .i64 p1))), (2, .cv (.lit (.int .i64 p2))), (3, .cv (.lit (.int .i64 p3))), (4, .cv (.ro Tag.t_api_Entry p4)), (5, .cv (.lit (.int .i64 p5))), (6, .cv (.ptr 0 0)), (12, .cv (.ptr 1 0)), (51, .cv (.lit (.bool true)))], [(0, .raw [.lit (.int .i64 p0.Epoch), .lit (.int .i64 p0.Vote), .lit (.int .i64 p0.Commit), .ro Tag.t_api_Entry p0.Log]), (1, .raw [.lit (.int .i64 0), .lit (.int .i64 0), .lit (.int .i64 0), .lit (.slice none 0 0)])]⟩) (by kernel_rfl) (And.intro (workflowref52_Right.ok h1) (And.intro trivial (And.intro (congrArg Bool.not (c1)) (And.intro (workflowref52_in.ok h2) (And.intro trivial (And.intro (congrArg Bool.not (c2)) (And.intro (workflowref52_in.ok h3) (And.intro trivial (congrArg Bool.not (eq_false_of_ne_true c3)))))))))) ?_
        refine awp_true (b := true) (by kernel_rfl) (rfl) ?_
        refine awp_seq ?_
        refine awp_region L 40 [] [] [12, 13] [1] (cs := []) (S' := ⟨[(12, .cv (.ptr 1 0)), (13, .cv (.lit (.int .i64 2)))], [(1, .raw [.lit (.int .i64 0), .lit (.int .i64 0), .lit (.int .i64 0), .lit (.slice none 0 0)])]⟩) (by kernel_rfl) trivial ?_
        refine awp_ret ?_
        have hr := Option.some.inj h
        subst hr
        exact ⟨.inr rfl, .tup [.agg [.lit (.int .i64 0), .lit (.int .i64 0), .lit (.int .i64 0), .lit (.slice none 0 0)], .cv (.lit (.int .i64 2))], by kernel_rfl, by kernel_rfl, trivial, by kernel_rfl⟩
    · refine awp_region L 4 [(3, false), (8, true)] [(1, .cv (.lit (.bool a1))), (5, .cv (.lit (.bool a2)))] [1, 2, 3, 4, 5, 6, 12, 51] [0, 1] (cs := [PCall V P 17 [.agg [.lit (.int .i64 p0.Epoch), .lit (.int .i64 p0.Vote), .lit (.int .i64 p0.Commit), .ro Tag.t_api_Entry p0.Log]] (.cv (.lit (.bool a1))), True, (!a1) = false, PCall V P 43 [.cv (.lit (.int .i64 p1)), .cv (.lit (.int .i64 1)), .cv (.lit (.int .i64 1099511627776))] (.cv (.lit (.bool a2))), True, (!a2) = true]) (S' := ⟨[(1, .cv (.lit (.int .i64 p1))), (2, .cv (.lit (.int .i64 p2))), (3, .cv (.lit (.int .i64 p3))), (4, .cv (.ro Tag.t_api_Entry p4)), (5, .cv (.lit (.int .i64 p5))), (6, .cv (.ptr 0 0)), (12, .cv (.ptr 1 0)), (51, .cv (.lit (.bool true)))], [(0, .raw [.lit (.int .i64 p0.Epoch), .lit (.int .i64 p0.Vote), .lit (.int .i64 p0.Commit), .ro Tag.t_api_Entry p0.Log]), (1, .raw [.lit (.int .i64 0), .lit (.int .i64 0), .lit (.int .i64 0), .lit (.slice none 0 0)])]⟩) (by kernel_rfl) (And.intro (workflowref52_Right.ok h1) (And.intro trivial (And.intro (congrArg Bool.not (c1)) (And.intro (workflowref52_in.ok h2) (And.intro trivial (congrArg Bool.not (eq_false_of_ne_true c2))))))) ?_
      refine awp_true (b := true) (by kernel_rfl) (rfl) ?_
      refine awp_seq ?_
      refine awp_region L 40 [] [] [12, 13] [1] (cs := []) (S' := ⟨[(12, .cv (.ptr 1 0)), (13, .cv (.lit (.int .i64 2)))], [(1, .raw [.lit (.int .i64 0), .lit (.int .i64 0), .lit (.int .i64 0), .lit (.slice none 0 0)])]⟩) (by kernel_rfl) trivial ?_
      refine awp_ret ?_
      have hr := Option.some.inj h
      subst hr
      exact ⟨.inr rfl, .tup [.agg [.lit (.int .i64 0), .lit (.int .i64 0), .lit (.int .i64 0), .lit (.slice none 0 0)], .cv (.lit (.int .i64 2))], by kernel_rfl, by kernel_rfl, trivial, by kernel_rfl⟩
  · refine awp_region L 4 [(3, true)] [(1, .cv (.lit (.bool a1)))] [1, 2, 3, 4, 5, 6, 12, 51] [0, 1] (cs := [PCall V P 17 [.agg [.lit (.int .i64 p0.Epoch), .lit (.int .i64 p0.Vote), .lit (.int .i64 p0.Commit), .ro Tag.t_api_Entry p0.Log]] (.cv (.lit (.bool a1))), True, (!a1) = true]) (S' := ⟨[(1, .cv (.lit (.int .i64 p1))), (2, .cv (.lit (.int .i64 p2))), (3, .cv (.lit (.int .i64 p3))), (4, .cv (.ro Tag.t_api_Entry p4)), (5, .cv (.lit (.int .i64 p5))), (6, .cv (.ptr 0 0)), (12, .cv (.ptr 1 0)), (51, .cv (.lit (.bool true)))], [(0, .raw [.lit (.int .i64 p0.Epoch), .lit (.int .i64 p0.Vote), .lit (.int .i64 p0.Commit), .ro Tag.t_api_Entry p0.Log]), (1, .raw [.lit (.int .i64 0), .lit (.int .i64 0), .lit (.int .i64 0), .lit (.slice none 0 0)])]⟩) (by kernel_rfl) (And.intro (workflowref52_Right.ok h1) (And.intro trivial (congrArg Bool.not (eq_false_of_ne_true c1)))) ?_
    refine awp_true (b := true) (by kernel_rfl) (rfl) ?_
    refine awp_seq ?_
    refine awp_region L 40 [] [] [12, 13] [1] (cs := []) (S' := ⟨[(12, .cv (.ptr 1 0)), (13, .cv (.lit (.int .i64 2)))], [(1, .raw [.lit (.int .i64 0), .lit (.int .i64 0), .lit (.int .i64 0), .lit (.slice none 0 0)])]⟩) (by kernel_rfl) trivial ?_
    refine awp_ret ?_
    have hr := Option.some.inj h
    subst hr
    exact ⟨.inr rfl, .tup [.agg [.lit (.int .i64 0), .lit (.int .i64 0), .lit (.int .i64 0), .lit (.slice none 0 0)], .cv (.lit (.int .i64 2))], by kernel_rfl, by kernel_rfl, trivial, by kernel_rfl⟩

theorem workflowref52_Accept.ok {K : Nat} {p0 : api_Replica} {p1 : Int} {p2 : Int} {p3 : Int} {p4 : List api_Entry} {p5 : Int} {r : api_Replica × Int} (h : workflowref52_Accept K p0 p1 p2 p3 p4 p5 = some r) : PCall V P 15 [.agg [.lit (.int .i64 p0.Epoch), .lit (.int .i64 p0.Vote), .lit (.int .i64 p0.Commit), .ro Tag.t_api_Entry p0.Log], .cv (.lit (.int .i64 p1)), .cv (.lit (.int .i64 p2)), .cv (.lit (.int .i64 p3)), .cv (.ro Tag.t_api_Entry p4), .cv (.lit (.int .i64 p5))] (.tup [.agg [.lit (.int .i64 r.1.Epoch), .lit (.int .i64 r.1.Vote), .lit (.int .i64 r.1.Commit), .ro Tag.t_api_Entry r.1.Log], .cv (.lit (.int .i64 r.2))]) :=
  pcall_of (fn := Try.f15) (n := 183) (by kernel_rfl) (by kernel_rfl) (by kernel_rfl) rfl (by kernel_rfl) (by kernel_rfl) fun Γ => workflowref52_Accept.body h

def workflowlaw52_works (K : Nat) : Option Bool := (Option.bind (replog_Accept K ((⟨2, (-1), 0, ([(⟨1, ([] : List UInt8)⟩ : api_Entry), (⟨1, ([] : List UInt8)⟩ : api_Entry), (⟨2, ([] : List UInt8)⟩ : api_Entry)] : List api_Entry)⟩ : api_Replica)) 3 2 1 (([(⟨3, ([] : List UInt8)⟩ : api_Entry)] : List api_Entry)) 0) (fun (a1_0, a1_1) => (Option.bind (replog_Accept K ((⟨2, (-1), 0, ([(⟨1, ([] : List UInt8)⟩ : api_Entry), (⟨1, ([] : List UInt8)⟩ : api_Entry), (⟨2, ([] : List UInt8)⟩ : api_Entry)] : List api_Entry)⟩ : api_Replica)) 1 0 0 ([] : List api_Entry) 0) (fun (a2_0, a2_1) => (Option.bind (replog_Accept K ((⟨2, (-1), 0, ([(⟨1, ([] : List UInt8)⟩ : api_Entry), (⟨1, ([] : List UInt8)⟩ : api_Entry), (⟨2, ([] : List UInt8)⟩ : api_Entry)] : List api_Entry)⟩ : api_Replica)) 2 5 2 ([] : List api_Entry) 0) (fun (a3_0, a3_1) => (if a1_1 = 0 then (Option.bind (workflowref52_Same K a1_0 ((⟨3, (-1), 0, ([(⟨1, ([] : List UInt8)⟩ : api_Entry), (⟨1, ([] : List UInt8)⟩ : api_Entry), (⟨3, ([] : List UInt8)⟩ : api_Entry)] : List api_Entry)⟩ : api_Replica))) (fun a4 => (if a4 = true then (if a2_1 = 25 then (if a3_1 = 26 then (Option.bind (replog_Right K ((⟨2, (-1), 0, ([(⟨1, ([] : List UInt8)⟩ : api_Entry), (⟨1, ([] : List UInt8)⟩ : api_Entry), (⟨2, ([] : List UInt8)⟩ : api_Entry)] : List api_Entry)⟩ : api_Replica))) (fun a5 => some a5)) else some false) else some false) else some false))) else some false)))))))

theorem workflowlaw52_works.body {Γ : Ent} {K : Nat} {r : Bool} (h : workflowlaw52_works K = some r) : AWp V P 55 0 Γ (Try.f13.body.getD .skip) (Eng.Ends P V Try.f13 (.cv (.lit (.bool r)))) ⟨args0 0 [], []⟩ := by
  unfold workflowlaw52_works at h
  refine awp_seq ?_
  refine awp_region L 0 [] [] [] [] (cs := []) (S' := ⟨[], []⟩) (by kernel_rfl) trivial ?_
  refine awp_seq ?_
  refine awp_region L 2 [] [] [1] [7] (cs := []) (S' := ⟨[(1, .cv (.ptr 7 0))], [(7, .raw [.lit (.int .i64 2), .lit (.int .i64 (-1)), .lit (.int .i64 0), .ro Tag.t_api_Entry (([(⟨1, ([] : List UInt8)⟩ : api_Entry), (⟨1, ([] : List UInt8)⟩ : api_Entry), (⟨2, ([] : List UInt8)⟩ : api_Entry)] : List api_Entry))])]⟩) (by kernel_rfl) trivial ?_
  refine awp_seq ?_
  obtain ⟨⟨a1_0, a1_1⟩, h1, h⟩ := bind_some h
  dsimp only at h
  refine awp_region L 10 [] [(3, .tup [.agg [.lit (.int .i64 a1_0.Epoch), .lit (.int .i64 a1_0.Vote), .lit (.int .i64 a1_0.Commit), .ro Tag.t_api_Entry a1_0.Log], .cv (.lit (.int .i64 a1_1))])] [1, 2, 3] [7, 17] (cs := [PCall V P 14 [.agg [.lit (.int .i64 2), .lit (.int .i64 (-1)), .lit (.int .i64 0), .ro Tag.t_api_Entry (([(⟨1, ([] : List UInt8)⟩ : api_Entry), (⟨1, ([] : List UInt8)⟩ : api_Entry), (⟨2, ([] : List UInt8)⟩ : api_Entry)] : List api_Entry))], .cv (.lit (.int .i64 3)), .cv (.lit (.int .i64 2)), .cv (.lit (.int .i64 1)), .cv (.ro Tag.t_api_Entry (([(⟨3, ([] : List UInt8)⟩ : api_Entry)] : List api_Entry))), .cv (.lit (.int .i64 0))] (.tup [.agg [.lit (.int .i64 a1_0.Epoch), .lit (.int .i64 a1_0.Vote), .lit (.int .i64 a1_0.Commit), .ro Tag.t_api_Entry a1_0.Log], .cv (.lit (.int .i64 a1_1))]), True]) (S' := ⟨[(1, .cv (.ptr 7 0)), (2, .cv (.ptr 17 0)), (3, .cv (.lit (.int .i64 a1_1)))], [(7, .raw [.lit (.int .i64 2), .lit (.int .i64 (-1)), .lit (.int .i64 0), .ro Tag.t_api_Entry (([(⟨1, ([] : List UInt8)⟩ : api_Entry), (⟨1, ([] : List UInt8)⟩ : api_Entry), (⟨2, ([] : List UInt8)⟩ : api_Entry)] : List api_Entry))]), (17, .raw [.lit (.int .i64 a1_0.Epoch), .lit (.int .i64 a1_0.Vote), .lit (.int .i64 a1_0.Commit), .ro Tag.t_api_Entry a1_0.Log])]⟩) (by kernel_rfl) (And.intro (replog_Accept.ok h1) trivial) ?_
  refine awp_seq ?_
  obtain ⟨⟨a2_0, a2_1⟩, h2, h⟩ := bind_some h
  dsimp only at h
  refine awp_region L 21 [] [(1, .tup [.agg [.lit (.int .i64 a2_0.Epoch), .lit (.int .i64 a2_0.Vote), .lit (.int .i64 a2_0.Commit), .ro Tag.t_api_Entry a2_0.Log], .cv (.lit (.int .i64 a2_1))])] [1, 2, 3, 5] [7, 17] (cs := [PCall V P 14 [.agg [.lit (.int .i64 2), .lit (.int .i64 (-1)), .lit (.int .i64 0), .ro Tag.t_api_Entry (([(⟨1, ([] : List UInt8)⟩ : api_Entry), (⟨1, ([] : List UInt8)⟩ : api_Entry), (⟨2, ([] : List UInt8)⟩ : api_Entry)] : List api_Entry))], .cv (.lit (.int .i64 1)), .cv (.lit (.int .i64 0)), .cv (.lit (.int .i64 0)), .cv (.lit (.slice none 0 0)), .cv (.lit (.int .i64 0))] (.tup [.agg [.lit (.int .i64 a2_0.Epoch), .lit (.int .i64 a2_0.Vote), .lit (.int .i64 a2_0.Commit), .ro Tag.t_api_Entry a2_0.Log], .cv (.lit (.int .i64 a2_1))]), True]) (S' := ⟨[(1, .cv (.ptr 7 0)), (2, .cv (.ptr 17 0)), (3, .cv (.lit (.int .i64 a1_1))), (5, .cv (.lit (.int .i64 a2_1)))], [(7, .raw [.lit (.int .i64 2), .lit (.int .i64 (-1)), .lit (.int .i64 0), .ro Tag.t_api_Entry (([(⟨1, ([] : List UInt8)⟩ : api_Entry), (⟨1, ([] : List UInt8)⟩ : api_Entry), (⟨2, ([] : List UInt8)⟩ : api_Entry)] : List api_Entry))]), (17, .raw [.lit (.int .i64 a1_0.Epoch), .lit (.int .i64 a1_0.Vote), .lit (.int .i64 a1_0.Commit), .ro Tag.t_api_Entry a1_0.Log])]⟩) (by kernel_rfl) (And.intro (PCall.co V (replog_Accept.ok h2) (by kernel_rfl)) trivial) ?_
  refine awp_seq ?_
  obtain ⟨⟨a3_0, a3_1⟩, h3, h⟩ := bind_some h
  dsimp only at h
  refine awp_region L 30 [] [(1, .tup [.agg [.lit (.int .i64 a3_0.Epoch), .lit (.int .i64 a3_0.Vote), .lit (.int .i64 a3_0.Commit), .ro Tag.t_api_Entry a3_0.Log], .cv (.lit (.int .i64 a3_1))])] [1, 2, 3, 5, 7] [7, 17] (cs := [PCall V P 14 [.agg [.lit (.int .i64 2), .lit (.int .i64 (-1)), .lit (.int .i64 0), .ro Tag.t_api_Entry (([(⟨1, ([] : List UInt8)⟩ : api_Entry), (⟨1, ([] : List UInt8)⟩ : api_Entry), (⟨2, ([] : List UInt8)⟩ : api_Entry)] : List api_Entry))], .cv (.lit (.int .i64 2)), .cv (.lit (.int .i64 5)), .cv (.lit (.int .i64 2)), .cv (.lit (.slice none 0 0)), .cv (.lit (.int .i64 0))] (.tup [.agg [.lit (.int .i64 a3_0.Epoch), .lit (.int .i64 a3_0.Vote), .lit (.int .i64 a3_0.Commit), .ro Tag.t_api_Entry a3_0.Log], .cv (.lit (.int .i64 a3_1))]), True]) (S' := ⟨[(1, .cv (.ptr 7 0)), (2, .cv (.ptr 17 0)), (3, .cv (.lit (.int .i64 a1_1))), (5, .cv (.lit (.int .i64 a2_1))), (7, .cv (.lit (.int .i64 a3_1)))], [(7, .raw [.lit (.int .i64 2), .lit (.int .i64 (-1)), .lit (.int .i64 0), .ro Tag.t_api_Entry (([(⟨1, ([] : List UInt8)⟩ : api_Entry), (⟨1, ([] : List UInt8)⟩ : api_Entry), (⟨2, ([] : List UInt8)⟩ : api_Entry)] : List api_Entry))]), (17, .raw [.lit (.int .i64 a1_0.Epoch), .lit (.int .i64 a1_0.Vote), .lit (.int .i64 a1_0.Commit), .ro Tag.t_api_Entry a1_0.Log])]⟩) (by kernel_rfl) (And.intro (PCall.co V (replog_Accept.ok h3) (by kernel_rfl)) trivial) ?_
  refine awp_seq ?_
  refine awp_region L 39 [] [] [1, 2, 3, 5, 7, 8] [7, 17, 44] (cs := []) (S' := ⟨[(1, .cv (.ptr 7 0)), (2, .cv (.ptr 17 0)), (3, .cv (.lit (.int .i64 a1_1))), (5, .cv (.lit (.int .i64 a2_1))), (7, .cv (.lit (.int .i64 a3_1))), (8, .cv (.ptr 44 0))], [(7, .raw [.lit (.int .i64 2), .lit (.int .i64 (-1)), .lit (.int .i64 0), .ro Tag.t_api_Entry (([(⟨1, ([] : List UInt8)⟩ : api_Entry), (⟨1, ([] : List UInt8)⟩ : api_Entry), (⟨2, ([] : List UInt8)⟩ : api_Entry)] : List api_Entry))]), (17, .raw [.lit (.int .i64 a1_0.Epoch), .lit (.int .i64 a1_0.Vote), .lit (.int .i64 a1_0.Commit), .ro Tag.t_api_Entry a1_0.Log]), (44, .raw [.lit (.int .i64 3), .lit (.int .i64 (-1)), .lit (.int .i64 0), .ro Tag.t_api_Entry (([(⟨1, ([] : List UInt8)⟩ : api_Entry), (⟨1, ([] : List UInt8)⟩ : api_Entry), (⟨3, ([] : List UInt8)⟩ : api_Entry)] : List api_Entry))])]⟩) (by kernel_rfl) trivial ?_
  refine awp_seq ?_
  rcases ite_some h with ⟨c1, h⟩ | ⟨c1, h⟩
  · obtain ⟨a4, h4, h⟩ := bind_some h
    rcases ite_some h with ⟨c2, h⟩ | ⟨c2, h⟩
    · rcases ite_some h with ⟨c3, h⟩ | ⟨c3, h⟩
      · rcases ite_some h with ⟨c4, h⟩ | ⟨c4, h⟩
        · obtain ⟨a5, h5, h⟩ := bind_some h
          refine awp_region L 47 [(2, true), (7, true), (11, true), (15, true)] [(5, .cv (.lit (.bool a4))), (17, .cv (.lit (.bool a5)))] [0] [] (cs := [(decide (a1_1 = 0)) = true, PCall V P 16 [.agg [.lit (.int .i64 a1_0.Epoch), .lit (.int .i64 a1_0.Vote), .lit (.int .i64 a1_0.Commit), .ro Tag.t_api_Entry a1_0.Log], .agg [.lit (.int .i64 3), .lit (.int .i64 (-1)), .lit (.int .i64 0), .ro Tag.t_api_Entry (([(⟨1, ([] : List UInt8)⟩ : api_Entry), (⟨1, ([] : List UInt8)⟩ : api_Entry), (⟨3, ([] : List UInt8)⟩ : api_Entry)] : List api_Entry))]] (.cv (.lit (.bool a4))), True, a4 = true, (decide (a2_1 = 25)) = true, (decide (a3_1 = 26)) = true, PCall V P 28 [.agg [.lit (.int .i64 2), .lit (.int .i64 (-1)), .lit (.int .i64 0), .ro Tag.t_api_Entry (([(⟨1, ([] : List UInt8)⟩ : api_Entry), (⟨1, ([] : List UInt8)⟩ : api_Entry), (⟨2, ([] : List UInt8)⟩ : api_Entry)] : List api_Entry))]] (.cv (.lit (.bool a5))), True]) (S' := ⟨[(0, .cv (.lit (.bool a5)))], []⟩) (by kernel_rfl) (And.intro (decide_eq_true c1) (And.intro (workflowref52_Same.ok h4) (And.intro trivial (And.intro c2 (And.intro (decide_eq_true c3) (And.intro (decide_eq_true c4) (And.intro (replog_Right.ok h5) trivial))))))) ?_
          refine awp_ret ?_
          have hr := Option.some.inj h
          subst hr
          exact ⟨.inr rfl, .cv (.lit (.bool a5)), by kernel_rfl, by kernel_rfl, trivial, by kernel_rfl⟩
        · refine awp_region L 47 [(2, true), (7, true), (11, true), (15, false)] [(5, .cv (.lit (.bool a4)))] [0] [] (cs := [(decide (a1_1 = 0)) = true, PCall V P 16 [.agg [.lit (.int .i64 a1_0.Epoch), .lit (.int .i64 a1_0.Vote), .lit (.int .i64 a1_0.Commit), .ro Tag.t_api_Entry a1_0.Log], .agg [.lit (.int .i64 3), .lit (.int .i64 (-1)), .lit (.int .i64 0), .ro Tag.t_api_Entry (([(⟨1, ([] : List UInt8)⟩ : api_Entry), (⟨1, ([] : List UInt8)⟩ : api_Entry), (⟨3, ([] : List UInt8)⟩ : api_Entry)] : List api_Entry))]] (.cv (.lit (.bool a4))), True, a4 = true, (decide (a2_1 = 25)) = true, (decide (a3_1 = 26)) = false]) (S' := ⟨[(0, .cv (.lit (.bool false)))], []⟩) (by kernel_rfl) (And.intro (decide_eq_true c1) (And.intro (workflowref52_Same.ok h4) (And.intro trivial (And.intro c2 (And.intro (decide_eq_true c3) (decide_eq_false c4)))))) ?_
          refine awp_ret ?_
          have hr := Option.some.inj h
          subst hr
          exact ⟨.inr rfl, .cv (.lit (.bool false)), by kernel_rfl, by kernel_rfl, trivial, by kernel_rfl⟩
      · refine awp_region L 47 [(2, true), (7, true), (11, false)] [(5, .cv (.lit (.bool a4)))] [0] [] (cs := [(decide (a1_1 = 0)) = true, PCall V P 16 [.agg [.lit (.int .i64 a1_0.Epoch), .lit (.int .i64 a1_0.Vote), .lit (.int .i64 a1_0.Commit), .ro Tag.t_api_Entry a1_0.Log], .agg [.lit (.int .i64 3), .lit (.int .i64 (-1)), .lit (.int .i64 0), .ro Tag.t_api_Entry (([(⟨1, ([] : List UInt8)⟩ : api_Entry), (⟨1, ([] : List UInt8)⟩ : api_Entry), (⟨3, ([] : List UInt8)⟩ : api_Entry)] : List api_Entry))]] (.cv (.lit (.bool a4))), True, a4 = true, (decide (a2_1 = 25)) = false]) (S' := ⟨[(0, .cv (.lit (.bool false)))], []⟩) (by kernel_rfl) (And.intro (decide_eq_true c1) (And.intro (workflowref52_Same.ok h4) (And.intro trivial (And.intro c2 (decide_eq_false c3))))) ?_
        refine awp_ret ?_
        have hr := Option.some.inj h
        subst hr
        exact ⟨.inr rfl, .cv (.lit (.bool false)), by kernel_rfl, by kernel_rfl, trivial, by kernel_rfl⟩
    · refine awp_region L 47 [(2, true), (7, false)] [(5, .cv (.lit (.bool a4)))] [0] [] (cs := [(decide (a1_1 = 0)) = true, PCall V P 16 [.agg [.lit (.int .i64 a1_0.Epoch), .lit (.int .i64 a1_0.Vote), .lit (.int .i64 a1_0.Commit), .ro Tag.t_api_Entry a1_0.Log], .agg [.lit (.int .i64 3), .lit (.int .i64 (-1)), .lit (.int .i64 0), .ro Tag.t_api_Entry (([(⟨1, ([] : List UInt8)⟩ : api_Entry), (⟨1, ([] : List UInt8)⟩ : api_Entry), (⟨3, ([] : List UInt8)⟩ : api_Entry)] : List api_Entry))]] (.cv (.lit (.bool a4))), True, a4 = false]) (S' := ⟨[(0, .cv (.lit (.bool false)))], []⟩) (by kernel_rfl) (And.intro (decide_eq_true c1) (And.intro (workflowref52_Same.ok h4) (And.intro trivial (eq_false_of_ne_true c2)))) ?_
      refine awp_ret ?_
      have hr := Option.some.inj h
      subst hr
      exact ⟨.inr rfl, .cv (.lit (.bool false)), by kernel_rfl, by kernel_rfl, trivial, by kernel_rfl⟩
  · refine awp_region L 47 [(2, false)] [] [0] [] (cs := [(decide (a1_1 = 0)) = false]) (S' := ⟨[(0, .cv (.lit (.bool false)))], []⟩) (by kernel_rfl) (decide_eq_false c1) ?_
    refine awp_ret ?_
    have hr := Option.some.inj h
    subst hr
    exact ⟨.inr rfl, .cv (.lit (.bool false)), by kernel_rfl, by kernel_rfl, trivial, by kernel_rfl⟩

theorem workflowlaw52_works.ok {K : Nat} {r : Bool} (h : workflowlaw52_works K = some r) : PCall V P 13 [] (.cv (.lit (.bool r))) :=
  pcall_of (fn := Try.f13) (n := 55) (by kernel_rfl) (by kernel_rfl) (by kernel_rfl) rfl (by kernel_rfl) (by kernel_rfl) fun Γ => workflowlaw52_works.body h

def workflowlaw52_ReplogAccepts (K : Nat) (p0 : api_Replica) (p1 : workflowlaw52_Append) : Option Bool := (Option.bind (workflowlaw52_few K (([p0.Log, p1.Entries] : List (List api_Entry)))) (fun a1 => (if a1 = true then (Option.bind (replog_Accept K p0 p1.Epoch p1.Prev p1.PrevEpoch p1.Entries p1.Commit) (fun (a2_0, a2_1) => (Option.bind (workflowref52_Accept K p0 p1.Epoch p1.Prev p1.PrevEpoch p1.Entries p1.Commit) (fun (a3_0, a3_1) => (if a2_1 = a3_1 then (Option.bind (workflowref52_Same K a2_0 a3_0) (fun a4 => (if a4 = true then (Option.bind (workflowlaw52_works K) (fun a5 => some a5)) else some false))) else some false))))) else (Option.bind (workflowlaw52_works K) (fun a6 => some a6)))))

theorem workflowlaw52_ReplogAccepts.body {Γ : Ent} {K : Nat} {p0 : api_Replica} {p1 : workflowlaw52_Append} {r : Bool} (h : workflowlaw52_ReplogAccepts K p0 p1 = some r) : AWp V P 58 0 Γ (Try.f3.body.getD .skip) (Eng.Ends P V Try.f3 (.cv (.lit (.bool r)))) ⟨args0 0 [.agg [.lit (.int .i64 p0.Epoch), .lit (.int .i64 p0.Vote), .lit (.int .i64 p0.Commit), .ro Tag.t_api_Entry p0.Log], .agg [.lit (.int .i64 p1.Epoch), .lit (.int .i64 p1.Prev), .lit (.int .i64 p1.PrevEpoch), .ro Tag.t_api_Entry p1.Entries, .lit (.int .i64 p1.Commit)]], []⟩ := by
  unfold workflowlaw52_ReplogAccepts at h
  refine awp_seq ?_
  refine awp_region L 0 [] [] [2, 3] [0, 1] (cs := []) (S' := ⟨[(2, .cv (.ptr 0 0)), (3, .cv (.ptr 1 0))], [(0, .raw [.lit (.int .i64 p0.Epoch), .lit (.int .i64 p0.Vote), .lit (.int .i64 p0.Commit), .ro Tag.t_api_Entry p0.Log]), (1, .raw [.lit (.int .i64 p1.Epoch), .lit (.int .i64 p1.Prev), .lit (.int .i64 p1.PrevEpoch), .ro Tag.t_api_Entry p1.Entries, .lit (.int .i64 p1.Commit)])]⟩) (by kernel_rfl) trivial ?_
  refine awp_seq ?_
  refine awp_seq ?_
  obtain ⟨a1, h1, h⟩ := bind_some h
  refine awp_region L 4 [] [(5, .cv (.lit (.bool a1)))] [2, 3, 15] [0, 1] (cs := [PCall V P 12 [.cv (.ro Tag.t_sl_api_Entry (([p0.Log, p1.Entries] : List (List api_Entry))))] (.cv (.lit (.bool a1))), True]) (S' := ⟨[(2, .cv (.ptr 0 0)), (3, .cv (.ptr 1 0)), (15, .cv (.lit (.bool (!a1))))], [(0, .raw [.lit (.int .i64 p0.Epoch), .lit (.int .i64 p0.Vote), .lit (.int .i64 p0.Commit), .ro Tag.t_api_Entry p0.Log]), (1, .raw [.lit (.int .i64 p1.Epoch), .lit (.int .i64 p1.Prev), .lit (.int .i64 p1.PrevEpoch), .ro Tag.t_api_Entry p1.Entries, .lit (.int .i64 p1.Commit)])]⟩) (by kernel_rfl) (And.intro (workflowlaw52_few.ok h1) trivial) ?_
  rcases ite_some h with ⟨c1, h⟩ | ⟨c1, h⟩
  · refine awp_false (b := (!a1)) (by kernel_rfl) (congrArg Bool.not (c1)) ?_
    refine awp_skip [2, 3] [0, 1] (S' := ⟨[(2, .cv (.ptr 0 0)), (3, .cv (.ptr 1 0))], [(0, .raw [.lit (.int .i64 p0.Epoch), .lit (.int .i64 p0.Vote), .lit (.int .i64 p0.Commit), .ro Tag.t_api_Entry p0.Log]), (1, .raw [.lit (.int .i64 p1.Epoch), .lit (.int .i64 p1.Prev), .lit (.int .i64 p1.PrevEpoch), .ro Tag.t_api_Entry p1.Entries, .lit (.int .i64 p1.Commit)])]⟩) (by kernel_rfl) ?_
    refine awp_seq ?_
    obtain ⟨⟨a2_0, a2_1⟩, h2, h⟩ := bind_some h
    dsimp only at h
    refine awp_region L 15 [] [(11, .tup [.agg [.lit (.int .i64 a2_0.Epoch), .lit (.int .i64 a2_0.Vote), .lit (.int .i64 a2_0.Commit), .ro Tag.t_api_Entry a2_0.Log], .cv (.lit (.int .i64 a2_1))])] [2, 3, 5, 6] [0, 1, 30] (cs := [PCall V P 14 [.agg [.lit (.int .i64 p0.Epoch), .lit (.int .i64 p0.Vote), .lit (.int .i64 p0.Commit), .ro Tag.t_api_Entry p0.Log], .cv (.lit (.int .i64 p1.Epoch)), .cv (.lit (.int .i64 p1.Prev)), .cv (.lit (.int .i64 p1.PrevEpoch)), .cv (.ro Tag.t_api_Entry p1.Entries), .cv (.lit (.int .i64 p1.Commit))] (.tup [.agg [.lit (.int .i64 a2_0.Epoch), .lit (.int .i64 a2_0.Vote), .lit (.int .i64 a2_0.Commit), .ro Tag.t_api_Entry a2_0.Log], .cv (.lit (.int .i64 a2_1))]), True]) (S' := ⟨[(2, .cv (.ptr 0 0)), (3, .cv (.ptr 1 0)), (5, .cv (.ptr 30 0)), (6, .cv (.lit (.int .i64 a2_1)))], [(0, .raw [.lit (.int .i64 p0.Epoch), .lit (.int .i64 p0.Vote), .lit (.int .i64 p0.Commit), .ro Tag.t_api_Entry p0.Log]), (1, .raw [.lit (.int .i64 p1.Epoch), .lit (.int .i64 p1.Prev), .lit (.int .i64 p1.PrevEpoch), .ro Tag.t_api_Entry p1.Entries, .lit (.int .i64 p1.Commit)]), (30, .raw [.lit (.int .i64 a2_0.Epoch), .lit (.int .i64 a2_0.Vote), .lit (.int .i64 a2_0.Commit), .ro Tag.t_api_Entry a2_0.Log])]⟩) (by kernel_rfl) (And.intro (replog_Accept.ok h2) trivial) ?_
    refine awp_seq ?_
    obtain ⟨⟨a3_0, a3_1⟩, h3, h⟩ := bind_some h
    dsimp only at h
    refine awp_region L 34 [] [(11, .tup [.agg [.lit (.int .i64 a3_0.Epoch), .lit (.int .i64 a3_0.Vote), .lit (.int .i64 a3_0.Commit), .ro Tag.t_api_Entry a3_0.Log], .cv (.lit (.int .i64 a3_1))])] [5, 6, 7, 8] [30, 49] (cs := [PCall V P 15 [.agg [.lit (.int .i64 p0.Epoch), .lit (.int .i64 p0.Vote), .lit (.int .i64 p0.Commit), .ro Tag.t_api_Entry p0.Log], .cv (.lit (.int .i64 p1.Epoch)), .cv (.lit (.int .i64 p1.Prev)), .cv (.lit (.int .i64 p1.PrevEpoch)), .cv (.ro Tag.t_api_Entry p1.Entries), .cv (.lit (.int .i64 p1.Commit))] (.tup [.agg [.lit (.int .i64 a3_0.Epoch), .lit (.int .i64 a3_0.Vote), .lit (.int .i64 a3_0.Commit), .ro Tag.t_api_Entry a3_0.Log], .cv (.lit (.int .i64 a3_1))]), True]) (S' := ⟨[(5, .cv (.ptr 30 0)), (6, .cv (.lit (.int .i64 a2_1))), (7, .cv (.ptr 49 0)), (8, .cv (.lit (.int .i64 a3_1)))], [(30, .raw [.lit (.int .i64 a2_0.Epoch), .lit (.int .i64 a2_0.Vote), .lit (.int .i64 a2_0.Commit), .ro Tag.t_api_Entry a2_0.Log]), (49, .raw [.lit (.int .i64 a3_0.Epoch), .lit (.int .i64 a3_0.Vote), .lit (.int .i64 a3_0.Commit), .ro Tag.t_api_Entry a3_0.Log])]⟩) (by kernel_rfl) (And.intro (workflowref52_Accept.ok h3) trivial) ?_
    refine awp_seq ?_
    rcases ite_some h with ⟨c2, h⟩ | ⟨c2, h⟩
    · obtain ⟨a4, h4, h⟩ := bind_some h
      rcases ite_some h with ⟨c3, h⟩ | ⟨c3, h⟩
      · obtain ⟨a5, h5, h⟩ := bind_some h
        refine awp_region L 53 [(3, true), (8, true)] [(6, .cv (.lit (.bool a4))), (9, .cv (.lit (.bool a5)))] [4] [] (cs := [(decide (a2_1 = a3_1)) = true, PCall V P 16 [.agg [.lit (.int .i64 a2_0.Epoch), .lit (.int .i64 a2_0.Vote), .lit (.int .i64 a2_0.Commit), .ro Tag.t_api_Entry a2_0.Log], .agg [.lit (.int .i64 a3_0.Epoch), .lit (.int .i64 a3_0.Vote), .lit (.int .i64 a3_0.Commit), .ro Tag.t_api_Entry a3_0.Log]] (.cv (.lit (.bool a4))), True, a4 = true, PCall V P 13 [] (.cv (.lit (.bool a5))), True]) (S' := ⟨[(4, .cv (.lit (.bool a5)))], []⟩) (by kernel_rfl) (And.intro (decide_eq_true c2) (And.intro (workflowref52_Same.ok h4) (And.intro trivial (And.intro c3 (And.intro (workflowlaw52_works.ok h5) trivial))))) ?_
        refine awp_ret ?_
        have hr := Option.some.inj h
        subst hr
        exact ⟨.inr rfl, .cv (.lit (.bool a5)), by kernel_rfl, by kernel_rfl, trivial, by kernel_rfl⟩
      · refine awp_region L 53 [(3, true), (8, false)] [(6, .cv (.lit (.bool a4)))] [4] [] (cs := [(decide (a2_1 = a3_1)) = true, PCall V P 16 [.agg [.lit (.int .i64 a2_0.Epoch), .lit (.int .i64 a2_0.Vote), .lit (.int .i64 a2_0.Commit), .ro Tag.t_api_Entry a2_0.Log], .agg [.lit (.int .i64 a3_0.Epoch), .lit (.int .i64 a3_0.Vote), .lit (.int .i64 a3_0.Commit), .ro Tag.t_api_Entry a3_0.Log]] (.cv (.lit (.bool a4))), True, a4 = false]) (S' := ⟨[(4, .cv (.lit (.bool false)))], []⟩) (by kernel_rfl) (And.intro (decide_eq_true c2) (And.intro (workflowref52_Same.ok h4) (And.intro trivial (eq_false_of_ne_true c3)))) ?_
        refine awp_ret ?_
        have hr := Option.some.inj h
        subst hr
        exact ⟨.inr rfl, .cv (.lit (.bool false)), by kernel_rfl, by kernel_rfl, trivial, by kernel_rfl⟩
    · refine awp_region L 53 [(3, false)] [] [4] [] (cs := [(decide (a2_1 = a3_1)) = false]) (S' := ⟨[(4, .cv (.lit (.bool false)))], []⟩) (by kernel_rfl) (decide_eq_false c2) ?_
      refine awp_ret ?_
      have hr := Option.some.inj h
      subst hr
      exact ⟨.inr rfl, .cv (.lit (.bool false)), by kernel_rfl, by kernel_rfl, trivial, by kernel_rfl⟩
  · refine awp_true (b := (!a1)) (by kernel_rfl) (congrArg Bool.not (eq_false_of_ne_true c1)) ?_
    refine awp_seq ?_
    obtain ⟨a6, h6, h⟩ := bind_some h
    refine awp_region L 12 [] [(0, .cv (.lit (.bool a6)))] [4] [] (cs := [PCall V P 13 [] (.cv (.lit (.bool a6))), True]) (S' := ⟨[(4, .cv (.lit (.bool a6)))], []⟩) (by kernel_rfl) (And.intro (workflowlaw52_works.ok h6) trivial) ?_
    refine awp_ret ?_
    have hr := Option.some.inj h
    subst hr
    exact ⟨.inr rfl, .cv (.lit (.bool a6)), by kernel_rfl, by kernel_rfl, trivial, by kernel_rfl⟩

theorem workflowlaw52_ReplogAccepts.ok {K : Nat} {p0 : api_Replica} {p1 : workflowlaw52_Append} {r : Bool} (h : workflowlaw52_ReplogAccepts K p0 p1 = some r) : PCall V P 3 [.agg [.lit (.int .i64 p0.Epoch), .lit (.int .i64 p0.Vote), .lit (.int .i64 p0.Commit), .ro Tag.t_api_Entry p0.Log], .agg [.lit (.int .i64 p1.Epoch), .lit (.int .i64 p1.Prev), .lit (.int .i64 p1.PrevEpoch), .ro Tag.t_api_Entry p1.Entries, .lit (.int .i64 p1.Commit)]] (.cv (.lit (.bool r))) :=
  pcall_of (fn := Try.f3) (n := 58) (by kernel_rfl) (by kernel_rfl) (by kernel_rfl) rfl (by kernel_rfl) (by kernel_rfl) fun Γ => workflowlaw52_ReplogAccepts.body h

end Go.Proofs.Ytkcaccppmenfmaa
