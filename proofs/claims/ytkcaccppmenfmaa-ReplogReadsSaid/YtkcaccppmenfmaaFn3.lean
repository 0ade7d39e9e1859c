/- What functions of the program compute, as Lean functions, and that they compute it. -/
import Derived.Test.YtkcaccppmenfmaaFn2
set_option linter.unusedVariables false
namespace Go.Proofs.Ytkcaccppmenfmaa
open Eng

def workflowlaw52_ReplogKeeps.l56 (K : Nat) (p1 : List workflowlaw52_Append) (xt31_15h : Int) (a5_0 : api_Replica) : Nat → Int → Option (Out Bool Unit)
  | 0, _ => none
  | k + 1, xt111_56h => (if xt111_56h < ((((p1.getD (Int.toNat xt31_15h) (⟨(0 : Int), (0 : Int), (0 : Int), ([] : List api_Entry), (0 : Int)⟩ : workflowlaw52_Append))).Entries).length : Int) then (if (0 : Int) ≤ xt111_56h ∧ (xt111_56h : Int) < ((((p1.getD (Int.toNat xt31_15h) (⟨(0 : Int), (0 : Int), (0 : Int), ([] : List api_Entry), (0 : Int)⟩ : workflowlaw52_Append))).Entries).length : Int) then (if (IntKind.i64.wrap (((p1.getD (Int.toNat xt31_15h) (⟨(0 : Int), (0 : Int), (0 : Int), ([] : List api_Entry), (0 : Int)⟩ : workflowlaw52_Append))).Prev + xt111_56h)) ≥ (a5_0.Log.length : Int) then some (Out.done false) else (if (0 : Int) ≤ (IntKind.i64.wrap (((p1.getD (Int.toNat xt31_15h) (⟨(0 : Int), (0 : Int), (0 : Int), ([] : List api_Entry), (0 : Int)⟩ : workflowlaw52_Append))).Prev + xt111_56h)) ∧ ((IntKind.i64.wrap (((p1.getD (Int.toNat xt31_15h) (⟨(0 : Int), (0 : Int), (0 : Int), ([] : List api_Entry), (0 : Int)⟩ : workflowlaw52_Append))).Prev + xt111_56h)) : Int) < (a5_0.Log.length : Int) then (Option.bind (workflowref52_Agree K ((a5_0.Log.getD (Int.toNat ((IntKind.i64.wrap (((p1.getD (Int.toNat xt31_15h) (⟨(0 : Int), (0 : Int), (0 : Int), ([] : List api_Entry), (0 : Int)⟩ : workflowlaw52_Append))).Prev + xt111_56h)))) (⟨(0 : Int), ([] : List UInt8)⟩ : api_Entry))) (((((p1.getD (Int.toNat xt31_15h) (⟨(0 : Int), (0 : Int), (0 : Int), ([] : List api_Entry), (0 : Int)⟩ : workflowlaw52_Append))).Entries).getD (Int.toNat xt111_56h) (⟨(0 : Int), ([] : List UInt8)⟩ : api_Entry)))) (fun a10 => (if a10 = true then workflowlaw52_ReplogKeeps.l56 K p1 xt31_15h a5_0 k ((IntKind.i64.wrap (xt111_56h + 1))) else some (Out.done false)))) else none)) else none) else some (Out.go ()))

def workflowlaw52_ReplogKeeps.l15 (K : Nat) (p1 : List workflowlaw52_Append) : Nat → Int → Int → Int → Int → (List api_Entry) → Option (Out Bool Unit)
  | 0, _, _, _, _, _ => none
  | k + 1, xt31_15h, xh0_0_15h, xh0_1_15h, xh0_2_15h, xh0_3_15h => (if xt31_15h < (p1.length : Int) then (if (0 : Int) ≤ xt31_15h ∧ (xt31_15h : Int) < (p1.length : Int) then (Option.bind (workflowlaw52_few K (([((p1.getD (Int.toNat xt31_15h) (⟨(0 : Int), (0 : Int), (0 : Int), ([] : List api_Entry), (0 : Int)⟩ : workflowlaw52_Append))).Entries] : List (List api_Entry)))) (fun a4 => (if a4 = true then (Option.bind (replog_Accept K (⟨xh0_0_15h, xh0_1_15h, xh0_2_15h, xh0_3_15h⟩ : api_Replica) (((p1.getD (Int.toNat xt31_15h) (⟨(0 : Int), (0 : Int), (0 : Int), ([] : List api_Entry), (0 : Int)⟩ : workflowlaw52_Append))).Epoch) (((p1.getD (Int.toNat xt31_15h) (⟨(0 : Int), (0 : Int), (0 : Int), ([] : List api_Entry), (0 : Int)⟩ : workflowlaw52_Append))).Prev) (((p1.getD (Int.toNat xt31_15h) (⟨(0 : Int), (0 : Int), (0 : Int), ([] : List api_Entry), (0 : Int)⟩ : workflowlaw52_Append))).PrevEpoch) (((p1.getD (Int.toNat xt31_15h) (⟨(0 : Int), (0 : Int), (0 : Int), ([] : List api_Entry), (0 : Int)⟩ : workflowlaw52_Append))).Entries) (((p1.getD (Int.toNat xt31_15h) (⟨(0 : Int), (0 : Int), (0 : Int), ([] : List api_Entry), (0 : Int)⟩ : workflowlaw52_Append))).Commit)) (fun (a5_0, a5_1) => (if a5_1 ≠ 0 then workflowlaw52_ReplogKeeps.l15 K p1 k ((IntKind.i64.wrap (xt31_15h + 1))) xh0_0_15h xh0_1_15h xh0_2_15h xh0_3_15h else (Option.bind (replog_Accept K a5_0 (((p1.getD (Int.toNat xt31_15h) (⟨(0 : Int), (0 : Int), (0 : Int), ([] : List api_Entry), (0 : Int)⟩ : workflowlaw52_Append))).Epoch) (((p1.getD (Int.toNat xt31_15h) (⟨(0 : Int), (0 : Int), (0 : Int), ([] : List api_Entry), (0 : Int)⟩ : workflowlaw52_Append))).Prev) (((p1.getD (Int.toNat xt31_15h) (⟨(0 : Int), (0 : Int), (0 : Int), ([] : List api_Entry), (0 : Int)⟩ : workflowlaw52_Append))).PrevEpoch) (((p1.getD (Int.toNat xt31_15h) (⟨(0 : Int), (0 : Int), (0 : Int), ([] : List api_Entry), (0 : Int)⟩ : workflowlaw52_Append))).Entries) (((p1.getD (Int.toNat xt31_15h) (⟨(0 : Int), (0 : Int), (0 : Int), ([] : List api_Entry), (0 : Int)⟩ : workflowlaw52_Append))).Commit)) (fun (a6_0, a6_1) => (if a6_1 ≠ 0 then some (Out.done false) else (Option.bind (workflowref52_Same K a5_0 a6_0) (fun a7 => (if a7 = true then (Option.bind (workflowref52_Right K a5_0) (fun a8 => (if a8 = true then (if a5_0.Epoch < xh0_0_15h then some (Out.done false) else (if a5_0.Commit < xh0_2_15h then some (Out.done false) else (Option.bind (workflowref52_Common K (⟨xh0_0_15h, xh0_1_15h, xh0_2_15h, xh0_3_15h⟩ : api_Replica) a5_0) (fun a9 => (if a9 < xh0_2_15h then some (Out.done false) else (obind (workflowlaw52_ReplogKeeps.l56 K p1 xt31_15h a5_0 K 0 : Option (Out Bool Unit)) Out.done (fun _ => workflowlaw52_ReplogKeeps.l15 K p1 k ((IntKind.i64.wrap (xt31_15h + 1))) a5_0.Epoch a5_0.Vote a5_0.Commit a5_0.Log))))))) else some (Out.done false)))) else some (Out.done false)))))))))) else (Option.bind (workflowlaw52_works K) (fun a11 => some (Out.done a11)))))) else none) else some (Out.go ()))

def workflowlaw52_ReplogKeeps (K : Nat) (p0 : api_Replica) (p1 : List workflowlaw52_Append) : Option Bool := (Option.bind (((if (p1.length : Int) > 20 then some true else (Option.bind (workflowlaw52_few K (([p0.Log] : List (List api_Entry)))) (fun a1 => (if a1 = true then (Option.bind (workflowref52_Right K p0) (fun a2 => some (!a2))) else some true))))) : Option Bool) (fun xt27_4 => (if xt27_4 = true then (Option.bind (workflowlaw52_works K) (fun a3 => some a3)) else (obind (workflowlaw52_ReplogKeeps.l15 K p1 K 0 p0.Epoch p0.Vote p0.Commit p0.Log : Option (Out Bool Unit)) (fun r => r) (fun _ => (Option.bind (workflowlaw52_works K) (fun a12 => some a12)))))))

theorem workflowlaw52_ReplogKeeps.body {Γ : Ent} {K : Nat} {p0 : api_Replica} {p1 : List workflowlaw52_Append} {r : Bool} (h : workflowlaw52_ReplogKeeps K p0 p1 = some r) : AWp V P 141 0 Γ (Try.f4.body.getD .skip) (Eng.Ends P V Try.f4 (.cv (.lit (.bool r)))) ⟨args0 0 [.agg [.lit (.int .i64 p0.Epoch), .lit (.int .i64 p0.Vote), .lit (.int .i64 p0.Commit), .ro Tag.t_api_Entry p0.Log], .cv (.ro Tag.t_workflowlaw52_Append p1)], []⟩ := by
  unfold workflowlaw52_ReplogKeeps at h
  refine awp_seq ?_
  refine awp_region L 0 [] [] [1, 2] [0] (cs := []) (S' := ⟨[(1, .cv (.ro Tag.t_workflowlaw52_Append p1)), (2, .cv (.ptr 0 0))], [(0, .raw [.lit (.int .i64 p0.Epoch), .lit (.int .i64 p0.Vote), .lit (.int .i64 p0.Commit), .ro Tag.t_api_Entry p0.Log])]⟩) (by kernel_rfl) trivial ?_
  refine awp_seq ?_
  obtain ⟨o1, hp1, h⟩ := bind_some h
  refine awp_seq (awp_mono (Q' := fun e S => (e = .normal ∧ ∃ xt27_4 : Bool, S = ⟨[(1, .cv (.ro Tag.t_workflowlaw52_Append p1)), (2, .cv (.ptr 0 0)), (27, .cv (.lit (.bool xt27_4)))], [(0, .raw [.lit (.int .i64 p0.Epoch), .lit (.int .i64 p0.Vote), .lit (.int .i64 p0.Commit), .ro Tag.t_api_Entry p0.Log])]⟩ ∧ xt27_4 = o1)) ?_ ?_)
  · clear h
    replace h := hp1
    rcases ite_some h with ⟨c1, h⟩ | ⟨c1, h⟩
    · refine awp_region L 3 [(3, true)] [] [1, 2, 27] [0] (cs := [(decide ((p1.length : Int) > 20)) = true]) (S' := ⟨[(1, .cv (.ro Tag.t_workflowlaw52_Append p1)), (2, .cv (.ptr 0 0)), (27, .cv (.lit (.bool true)))], [(0, .raw [.lit (.int .i64 p0.Epoch), .lit (.int .i64 p0.Vote), .lit (.int .i64 p0.Commit), .ro Tag.t_api_Entry p0.Log])]⟩) (by kernel_rfl) (decide_eq_true c1) ?_
      have hr := Option.some.inj h
      subst hr
      exact ⟨rfl, _, rfl, rfl⟩
    · obtain ⟨a1, h1, h⟩ := bind_some h
      rcases ite_some h with ⟨c2, h⟩ | ⟨c2, h⟩
      · obtain ⟨a2, h2, h⟩ := bind_some h
        refine awp_region L 3 [(3, false), (10, false)] [(7, .cv (.lit (.bool a1))), (12, .cv (.lit (.bool a2)))] [1, 2, 27] [0] (cs := [(decide ((p1.length : Int) > 20)) = false, PCall V P 12 [.cv (.ro Tag.t_sl_api_Entry (([p0.Log] : List (List api_Entry))))] (.cv (.lit (.bool a1))), True, (!a1) = false, PCall V P 17 [.agg [.lit (.int .i64 p0.Epoch), .lit (.int .i64 p0.Vote), .lit (.int .i64 p0.Commit), .ro Tag.t_api_Entry p0.Log]] (.cv (.lit (.bool a2))), True]) (S' := ⟨[(1, .cv (.ro Tag.t_workflowlaw52_Append p1)), (2, .cv (.ptr 0 0)), (27, .cv (.lit (.bool (!a2))))], [(0, .raw [.lit (.int .i64 p0.Epoch), .lit (.int .i64 p0.Vote), .lit (.int .i64 p0.Commit), .ro Tag.t_api_Entry p0.Log])]⟩) (by kernel_rfl) (And.intro (decide_eq_false c1) (And.intro (workflowlaw52_few.ok h1) (And.intro trivial (And.intro (congrArg Bool.not (c2)) (And.intro (workflowref52_Right.ok h2) trivial))))) ?_
        have hr := Option.some.inj h
        subst hr
        exact ⟨rfl, _, rfl, rfl⟩
      · refine awp_region L 3 [(3, false), (10, true)] [(7, .cv (.lit (.bool a1)))] [1, 2, 27] [0] (cs := [(decide ((p1.length : Int) > 20)) = false, PCall V P 12 [.cv (.ro Tag.t_sl_api_Entry (([p0.Log] : List (List api_Entry))))] (.cv (.lit (.bool a1))), True, (!a1) = true]) (S' := ⟨[(1, .cv (.ro Tag.t_workflowlaw52_Append p1)), (2, .cv (.ptr 0 0)), (27, .cv (.lit (.bool true)))], [(0, .raw [.lit (.int .i64 p0.Epoch), .lit (.int .i64 p0.Vote), .lit (.int .i64 p0.Commit), .ro Tag.t_api_Entry p0.Log])]⟩) (by kernel_rfl) (And.intro (decide_eq_false c1) (And.intro (workflowlaw52_few.ok h1) (And.intro trivial (congrArg Bool.not (eq_false_of_ne_true c2))))) ?_
        have hr := Option.some.inj h
        subst hr
        exact ⟨rfl, _, rfl, rfl⟩
  · rintro e S ⟨rfl, xt27_4, rfl, rfl⟩
    rcases ite_some h with ⟨c3, h⟩ | ⟨c3, h⟩
    · refine awp_true (b := xt27_4) (by kernel_rfl) (c3) ?_
      refine awp_seq ?_
      obtain ⟨a3, h3, h⟩ := bind_some h
      refine awp_region L 19 [] [(0, .cv (.lit (.bool a3)))] [4] [] (cs := [PCall V P 13 [] (.cv (.lit (.bool a3))), True]) (S' := ⟨[(4, .cv (.lit (.bool a3)))], []⟩) (by kernel_rfl) (And.intro (workflowlaw52_works.ok h3) trivial) ?_
      refine awp_ret ?_
      have hr := Option.some.inj h
      subst hr
      exact ⟨.inr rfl, .cv (.lit (.bool a3)), by kernel_rfl, by kernel_rfl, trivial, by kernel_rfl⟩
    · refine awp_false (b := xt27_4) (by kernel_rfl) (eq_false_of_ne_true c3) ?_
      refine awp_skip [1, 2] [0] (S' := ⟨[(1, .cv (.ro Tag.t_workflowlaw52_Append p1)), (2, .cv (.ptr 0 0))], [(0, .raw [.lit (.int .i64 p0.Epoch), .lit (.int .i64 p0.Vote), .lit (.int .i64 p0.Commit), .ro Tag.t_api_Entry p0.Log])]⟩) (by kernel_rfl) ?_
      refine awp_seq ?_
      refine awp_seq ?_
      refine awp_region L 22 [] [] [2, 29, 30, 31] [0] (cs := []) (S' := ⟨[(2, .cv (.ptr 0 0)), (29, .cv (.ro Tag.t_workflowlaw52_Append p1)), (30, .cv (.lit (.int .i64 (p1.length : Int)))), (31, .cv (.lit (.int .i64 0)))], [(0, .raw [.lit (.int .i64 p0.Epoch), .lit (.int .i64 p0.Vote), .lit (.int .i64 p0.Commit), .ro Tag.t_api_Entry p0.Log])]⟩) (by kernel_rfl) trivial ?_
      refine awp_block ?_
      refine awp_keep (ts := [2, 29, 30, 31]) (ids := [0]) (S' := ⟨[(2, .cv (.ptr 0 0)), (29, .cv (.ro Tag.t_workflowlaw52_Append p1)), (30, .cv (.lit (.int .i64 (p1.length : Int)))), (31, .cv (.lit (.int .i64 0)))], [(0, .raw [.lit (.int .i64 p0.Epoch), .lit (.int .i64 p0.Vote), .lit (.int .i64 p0.Commit), .ro Tag.t_api_Entry p0.Log])]⟩) (by kernel_rfl) ?_
      obtain ⟨o3, hp3, h⟩ := obind_some h
      refine awp_mono (Q' := fun e S => (e = .exit 0 ∧ S = ⟨[], []⟩ ∧ Out.go () = o3) ∨ (e = .ret ∧ ∃ a, Out.done a = o3 ∧ Eng.Ends P V Try.f4 (.cv (.lit (.bool a))) .ret S)) (awp_loop (fun k S => ∃ xt31_15h : Int, ∃ xh0_0_15h : Int, ∃ xh0_1_15h : Int, ∃ xh0_2_15h : Int, ∃ xh0_3_15h : List api_Entry, S = ⟨[(2, .cv (.ptr 0 0)), (29, .cv (.ro Tag.t_workflowlaw52_Append p1)), (30, .cv (.lit (.int .i64 (p1.length : Int)))), (31, .cv (.lit (.int .i64 xt31_15h)))], [(0, .raw [.lit (.int .i64 xh0_0_15h), .lit (.int .i64 xh0_1_15h), .lit (.int .i64 xh0_2_15h), .ro Tag.t_api_Entry xh0_3_15h])]⟩ ∧ workflowlaw52_ReplogKeeps.l15 K p1 k xt31_15h xh0_0_15h xh0_1_15h xh0_2_15h xh0_3_15h = some o3) ?_ ⟨_, _, _, _, _, rfl, hp3⟩) ?_
      · clear h hp3
        intro k S hS
        obtain ⟨xt31_15h, xh0_0_15h, xh0_1_15h, xh0_2_15h, xh0_3_15h, rfl, h⟩ := hS
        cases k with
        | zero => cases h
        | succ k =>
        unfold workflowlaw52_ReplogKeeps.l15 at h
        refine awp_seq ?_
        refine awp_region L 26 [] [] [2, 29, 30, 31, 32] [0] (cs := []) (S' := ⟨[(2, .cv (.ptr 0 0)), (29, .cv (.ro Tag.t_workflowlaw52_Append p1)), (30, .cv (.lit (.int .i64 (p1.length : Int)))), (31, .cv (.lit (.int .i64 xt31_15h))), (32, .cv (.lit (.bool ((decide (xt31_15h < (p1.length : Int)))))))], [(0, .raw [.lit (.int .i64 xh0_0_15h), .lit (.int .i64 xh0_1_15h), .lit (.int .i64 xh0_2_15h), .ro Tag.t_api_Entry xh0_3_15h])]⟩) (by kernel_rfl) trivial ?_
        refine awp_seq ?_
        rcases ite_some h with ⟨c4, h⟩ | ⟨c4, h⟩
        · refine awp_true (b := (decide (xt31_15h < (p1.length : Int)))) (by kernel_rfl) (decide_eq_true c4) ?_
          refine awp_skip [2, 29, 30, 31] [0] (S' := ⟨[(2, .cv (.ptr 0 0)), (29, .cv (.ro Tag.t_workflowlaw52_Append p1)), (30, .cv (.lit (.int .i64 (p1.length : Int)))), (31, .cv (.lit (.int .i64 xt31_15h)))], [(0, .raw [.lit (.int .i64 xh0_0_15h), .lit (.int .i64 xh0_1_15h), .lit (.int .i64 xh0_2_15h), .ro Tag.t_api_Entry xh0_3_15h])]⟩) (by kernel_rfl) ?_
          refine awp_seq ?_
          refine awp_block ?_
          refine awp_seq ?_
          obtain ⟨g1, h⟩ := guard_some h
          refine awp_region L 28 [] [] [2, 6, 29, 30, 31] [0, 30] (cs := [(0 : Int) ≤ xt31_15h, (xt31_15h : Int) < (p1.length : Int)]) (S' := ⟨[(2, .cv (.ptr 0 0)), (6, .cv (.ptr 30 0)), (29, .cv (.ro Tag.t_workflowlaw52_Append p1)), (30, .cv (.lit (.int .i64 (p1.length : Int)))), (31, .cv (.lit (.int .i64 xt31_15h)))], [(0, .raw [.lit (.int .i64 xh0_0_15h), .lit (.int .i64 xh0_1_15h), .lit (.int .i64 xh0_2_15h), .ro Tag.t_api_Entry xh0_3_15h]), (30, .raw [.lit (.int .i64 (((p1.getD (Int.toNat xt31_15h) (⟨(0 : Int), (0 : Int), (0 : Int), ([] : List api_Entry), (0 : Int)⟩ : workflowlaw52_Append))).Epoch)), .lit (.int .i64 (((p1.getD (Int.toNat xt31_15h) (⟨(0 : Int), (0 : Int), (0 : Int), ([] : List api_Entry), (0 : Int)⟩ : workflowlaw52_Append))).Prev)), .lit (.int .i64 (((p1.getD (Int.toNat xt31_15h) (⟨(0 : Int), (0 : Int), (0 : Int), ([] : List api_Entry), (0 : Int)⟩ : workflowlaw52_Append))).PrevEpoch)), .ro Tag.t_api_Entry (((p1.getD (Int.toNat xt31_15h) (⟨(0 : Int), (0 : Int), (0 : Int), ([] : List api_Entry), (0 : Int)⟩ : workflowlaw52_Append))).Entries), .lit (.int .i64 (((p1.getD (Int.toNat xt31_15h) (⟨(0 : Int), (0 : Int), (0 : Int), ([] : List api_Entry), (0 : Int)⟩ : workflowlaw52_Append))).Commit))])]⟩) (by kernel_rfl) (And.intro g1.1 g1.2) ?_
          refine awp_seq ?_
          refine awp_seq ?_
          obtain ⟨a4, h4, h⟩ := bind_some h
          refine awp_region L 33 [] [(3, .cv (.lit (.bool a4)))] [2, 6, 29, 30, 31, 39] [0, 30] (cs := [PCall V P 12 [.cv (.ro Tag.t_sl_api_Entry (([((p1.getD (Int.toNat xt31_15h) (⟨(0 : Int), (0 : Int), (0 : Int), ([] : List api_Entry), (0 : Int)⟩ : workflowlaw52_Append))).Entries] : List (List api_Entry))))] (.cv (.lit (.bool a4))), True]) (S' := ⟨[(2, .cv (.ptr 0 0)), (6, .cv (.ptr 30 0)), (29, .cv (.ro Tag.t_workflowlaw52_Append p1)), (30, .cv (.lit (.int .i64 (p1.length : Int)))), (31, .cv (.lit (.int .i64 xt31_15h))), (39, .cv (.lit (.bool (!a4))))], [(0, .raw [.lit (.int .i64 xh0_0_15h), .lit (.int .i64 xh0_1_15h), .lit (.int .i64 xh0_2_15h), .ro Tag.t_api_Entry xh0_3_15h]), (30, .raw [.lit (.int .i64 (((p1.getD (Int.toNat xt31_15h) (⟨(0 : Int), (0 : Int), (0 : Int), ([] : List api_Entry), (0 : Int)⟩ : workflowlaw52_Append))).Epoch)), .lit (.int .i64 (((p1.getD (Int.toNat xt31_15h) (⟨(0 : Int), (0 : Int), (0 : Int), ([] : List api_Entry), (0 : Int)⟩ : workflowlaw52_Append))).Prev)), .lit (.int .i64 (((p1.getD (Int.toNat xt31_15h) (⟨(0 : Int), (0 : Int), (0 : Int), ([] : List api_Entry), (0 : Int)⟩ : workflowlaw52_Append))).PrevEpoch)), .ro Tag.t_api_Entry (((p1.getD (Int.toNat xt31_15h) (⟨(0 : Int), (0 : Int), (0 : Int), ([] : List api_Entry), (0 : Int)⟩ : workflowlaw52_Append))).Entries), .lit (.int .i64 (((p1.getD (Int.toNat xt31_15h) (⟨(0 : Int), (0 : Int), (0 : Int), ([] : List api_Entry), (0 : Int)⟩ : workflowlaw52_Append))).Commit))])]⟩) (by kernel_rfl) (And.intro (workflowlaw52_few.ok h4) trivial) ?_
          rcases ite_some h with ⟨c5, h⟩ | ⟨c5, h⟩
          · refine awp_false (b := (!a4)) (by kernel_rfl) (congrArg Bool.not (c5)) ?_
            refine awp_skip [2, 6, 29, 30, 31] [0, 30] (S' := ⟨[(2, .cv (.ptr 0 0)), (6, .cv (.ptr 30 0)), (29, .cv (.ro Tag.t_workflowlaw52_Append p1)), (30, .cv (.lit (.int .i64 (p1.length : Int)))), (31, .cv (.lit (.int .i64 xt31_15h)))], [(0, .raw [.lit (.int .i64 xh0_0_15h), .lit (.int .i64 xh0_1_15h), .lit (.int .i64 xh0_2_15h), .ro Tag.t_api_Entry xh0_3_15h]), (30, .raw [.lit (.int .i64 (((p1.getD (Int.toNat xt31_15h) (⟨(0 : Int), (0 : Int), (0 : Int), ([] : List api_Entry), (0 : Int)⟩ : workflowlaw52_Append))).Epoch)), .lit (.int .i64 (((p1.getD (Int.toNat xt31_15h) (⟨(0 : Int), (0 : Int), (0 : Int), ([] : List api_Entry), (0 : Int)⟩ : workflowlaw52_Append))).Prev)), .lit (.int .i64 (((p1.getD (Int.toNat xt31_15h) (⟨(0 : Int), (0 : Int), (0 : Int), ([] : List api_Entry), (0 : Int)⟩ : workflowlaw52_Append))).PrevEpoch)), .ro Tag.t_api_Entry (((p1.getD (Int.toNat xt31_15h) (⟨(0 : Int), (0 : Int), (0 : Int), ([] : List api_Entry), (0 : Int)⟩ : workflowlaw52_Append))).Entries), .lit (.int .i64 (((p1.getD (Int.toNat xt31_15h) (⟨(0 : Int), (0 : Int), (0 : Int), ([] : List api_Entry), (0 : Int)⟩ : workflowlaw52_Append))).Commit))])]⟩) (by kernel_rfl) ?_
            refine awp_seq ?_
            obtain ⟨⟨a5_0, a5_1⟩, h5, h⟩ := bind_some h
            dsimp only at h
            refine awp_region L 42 [] [(11, .tup [.agg [.lit (.int .i64 a5_0.Epoch), .lit (.int .i64 a5_0.Vote), .lit (.int .i64 a5_0.Commit), .ro Tag.t_api_Entry a5_0.Log], .cv (.lit (.int .i64 a5_1))])] [2, 6, 7, 8, 29, 30, 31] [0, 30, 57] (cs := [PCall V P 14 [.agg [.lit (.int .i64 xh0_0_15h), .lit (.int .i64 xh0_1_15h), .lit (.int .i64 xh0_2_15h), .ro Tag.t_api_Entry xh0_3_15h], .cv (.lit (.int .i64 (((p1.getD (Int.toNat xt31_15h) (⟨(0 : Int), (0 : Int), (0 : Int), ([] : List api_Entry), (0 : Int)⟩ : workflowlaw52_Append))).Epoch))), .cv (.lit (.int .i64 (((p1.getD (Int.toNat xt31_15h) (⟨(0 : Int), (0 : Int), (0 : Int), ([] : List api_Entry), (0 : Int)⟩ : workflowlaw52_Append))).Prev))), .cv (.lit (.int .i64 (((p1.getD (Int.toNat xt31_15h) (⟨(0 : Int), (0 : Int), (0 : Int), ([] : List api_Entry), (0 : Int)⟩ : workflowlaw52_Append))).PrevEpoch))), .cv (.ro Tag.t_api_Entry (((p1.getD (Int.toNat xt31_15h) (⟨(0 : Int), (0 : Int), (0 : Int), ([] : List api_Entry), (0 : Int)⟩ : workflowlaw52_Append))).Entries)), .cv (.lit (.int .i64 (((p1.getD (Int.toNat xt31_15h) (⟨(0 : Int), (0 : Int), (0 : Int), ([] : List api_Entry), (0 : Int)⟩ : workflowlaw52_Append))).Commit)))] (.tup [.agg [.lit (.int .i64 a5_0.Epoch), .lit (.int .i64 a5_0.Vote), .lit (.int .i64 a5_0.Commit), .ro Tag.t_api_Entry a5_0.Log], .cv (.lit (.int .i64 a5_1))]), True]) (S' := ⟨[(2, .cv (.ptr 0 0)), (6, .cv (.ptr 30 0)), (7, .cv (.ptr 57 0)), (8, .cv (.lit (.int .i64 a5_1))), (29, .cv (.ro Tag.t_workflowlaw52_Append p1)), (30, .cv (.lit (.int .i64 (p1.length : Int)))), (31, .cv (.lit (.int .i64 xt31_15h)))], [(0, .raw [.lit (.int .i64 xh0_0_15h), .lit (.int .i64 xh0_1_15h), .lit (.int .i64 xh0_2_15h), .ro Tag.t_api_Entry xh0_3_15h]), (30, .raw [.lit (.int .i64 (((p1.getD (Int.toNat xt31_15h) (⟨(0 : Int), (0 : Int), (0 : Int), ([] : List api_Entry), (0 : Int)⟩ : workflowlaw52_Append))).Epoch)), .lit (.int .i64 (((p1.getD (Int.toNat xt31_15h) (⟨(0 : Int), (0 : Int), (0 : Int), ([] : List api_Entry), (0 : Int)⟩ : workflowlaw52_Append))).Prev)), .lit (.int .i64 (((p1.getD (Int.toNat xt31_15h) (⟨(0 : Int), (0 : Int), (0 : Int), ([] : List api_Entry), (0 : Int)⟩ : workflowlaw52_Append))).PrevEpoch)), .ro Tag.t_api_Entry (((p1.getD (Int.toNat xt31_15h) (⟨(0 : Int), (0 : Int), (0 : Int), ([] : List api_Entry), (0 : Int)⟩ : workflowlaw52_Append))).Entries), .lit (.int .i64 (((p1.getD (Int.toNat xt31_15h) (⟨(0 : Int), (0 : Int), (0 : Int), ([] : List api_Entry), (0 : Int)⟩ : workflowlaw52_Append))).Commit))]), (57, .raw [.lit (.int .i64 a5_0.Epoch), .lit (.int .i64 a5_0.Vote), .lit (.int .i64 a5_0.Commit), .ro Tag.t_api_Entry a5_0.Log])]⟩) (by kernel_rfl) (And.intro (replog_Accept.ok h5) trivial) ?_
            refine awp_seq ?_
            refine awp_seq ?_
            refine awp_region L 61 [] [] [2, 6, 7, 29, 30, 31, 57] [0, 30, 57] (cs := []) (S' := ⟨[(2, .cv (.ptr 0 0)), (6, .cv (.ptr 30 0)), (7, .cv (.ptr 57 0)), (29, .cv (.ro Tag.t_workflowlaw52_Append p1)), (30, .cv (.lit (.int .i64 (p1.length : Int)))), (31, .cv (.lit (.int .i64 xt31_15h))), (57, .cv (.lit (.bool ((decide (a5_1 ≠ 0))))))], [(0, .raw [.lit (.int .i64 xh0_0_15h), .lit (.int .i64 xh0_1_15h), .lit (.int .i64 xh0_2_15h), .ro Tag.t_api_Entry xh0_3_15h]), (30, .raw [.lit (.int .i64 (((p1.getD (Int.toNat xt31_15h) (⟨(0 : Int), (0 : Int), (0 : Int), ([] : List api_Entry), (0 : Int)⟩ : workflowlaw52_Append))).Epoch)), .lit (.int .i64 (((p1.getD (Int.toNat xt31_15h) (⟨(0 : Int), (0 : Int), (0 : Int), ([] : List api_Entry), (0 : Int)⟩ : workflowlaw52_Append))).Prev)), .lit (.int .i64 (((p1.getD (Int.toNat xt31_15h) (⟨(0 : Int), (0 : Int), (0 : Int), ([] : List api_Entry), (0 : Int)⟩ : workflowlaw52_Append))).PrevEpoch)), .ro Tag.t_api_Entry (((p1.getD (Int.toNat xt31_15h) (⟨(0 : Int), (0 : Int), (0 : Int), ([] : List api_Entry), (0 : Int)⟩ : workflowlaw52_Append))).Entries), .lit (.int .i64 (((p1.getD (Int.toNat xt31_15h) (⟨(0 : Int), (0 : Int), (0 : Int), ([] : List api_Entry), (0 : Int)⟩ : workflowlaw52_Append))).Commit))]), (57, .raw [.lit (.int .i64 a5_0.Epoch), .lit (.int .i64 a5_0.Vote), .lit (.int .i64 a5_0.Commit), .ro Tag.t_api_Entry a5_0.Log])]⟩) (by kernel_rfl) trivial ?_
            rcases ite_some h with ⟨c6, h⟩ | ⟨c6, h⟩
            · refine awp_true (b := (decide (a5_1 ≠ 0))) (by kernel_rfl) (decide_eq_true c6) ?_
              refine awp_exit [2, 29, 30, 31] [0] (S' := ⟨[(2, .cv (.ptr 0 0)), (29, .cv (.ro Tag.t_workflowlaw52_Append p1)), (30, .cv (.lit (.int .i64 (p1.length : Int)))), (31, .cv (.lit (.int .i64 xt31_15h)))], [(0, .raw [.lit (.int .i64 xh0_0_15h), .lit (.int .i64 xh0_1_15h), .lit (.int .i64 xh0_2_15h), .ro Tag.t_api_Entry xh0_3_15h])]⟩) (by kernel_rfl) ?_
              refine awp_region L 165 [] [] [2, 29, 30, 31] [0] (cs := []) (S' := ⟨[(2, .cv (.ptr 0 0)), (29, .cv (.ro Tag.t_workflowlaw52_Append p1)), (30, .cv (.lit (.int .i64 (p1.length : Int)))), (31, .cv (.lit (.int .i64 ((IntKind.i64.wrap (xt31_15h + 1))))))], [(0, .raw [.lit (.int .i64 xh0_0_15h), .lit (.int .i64 xh0_1_15h), .lit (.int .i64 xh0_2_15h), .ro Tag.t_api_Entry xh0_3_15h])]⟩) (by kernel_rfl) trivial ?_
              exact ⟨k, Nat.lt_succ_self k, _, _, _, _, _, rfl, h⟩
            · refine awp_false (b := (decide (a5_1 ≠ 0))) (by kernel_rfl) (decide_eq_false c6) ?_
              refine awp_skip [2, 6, 7, 29, 30, 31] [0, 30, 57] (S' := ⟨[(2, .cv (.ptr 0 0)), (6, .cv (.ptr 30 0)), (7, .cv (.ptr 57 0)), (29, .cv (.ro Tag.t_workflowlaw52_Append p1)), (30, .cv (.lit (.int .i64 (p1.length : Int)))), (31, .cv (.lit (.int .i64 xt31_15h)))], [(0, .raw [.lit (.int .i64 xh0_0_15h), .lit (.int .i64 xh0_1_15h), .lit (.int .i64 xh0_2_15h), .ro Tag.t_api_Entry xh0_3_15h]), (30, .raw [.lit (.int .i64 (((p1.getD (Int.toNat xt31_15h) (⟨(0 : Int), (0 : Int), (0 : Int), ([] : List api_Entry), (0 : Int)⟩ : workflowlaw52_Append))).Epoch)), .lit (.int .i64 (((p1.getD (Int.toNat xt31_15h) (⟨(0 : Int), (0 : Int), (0 : Int), ([] : List api_Entry), (0 : Int)⟩ : workflowlaw52_Append))).Prev)), .lit (.int .i64 (((p1.getD (Int.toNat xt31_15h) (⟨(0 : Int), (0 : Int), (0 : Int), ([] : List api_Entry), (0 : Int)⟩ : workflowlaw52_Append))).PrevEpoch)), .ro Tag.t_api_Entry (((p1.getD (Int.toNat xt31_15h) (⟨(0 : Int), (0 : Int), (0 : Int), ([] : List api_Entry), (0 : Int)⟩ : workflowlaw52_Append))).Entries), .lit (.int .i64 (((p1.getD (Int.toNat xt31_15h) (⟨(0 : Int), (0 : Int), (0 : Int), ([] : List api_Entry), (0 : Int)⟩ : workflowlaw52_Append))).Commit))]), (57, .raw [.lit (.int .i64 a5_0.Epoch), .lit (.int .i64 a5_0.Vote), .lit (.int .i64 a5_0.Commit), .ro Tag.t_api_Entry a5_0.Log])]⟩) (by kernel_rfl) ?_
              refine awp_seq ?_
              obtain ⟨⟨a6_0, a6_1⟩, h6, h⟩ := bind_some h
              dsimp only at h
              refine awp_region L 64 [] [(11, .tup [.agg [.lit (.int .i64 a6_0.Epoch), .lit (.int .i64 a6_0.Vote), .lit (.int .i64 a6_0.Commit), .ro Tag.t_api_Entry a6_0.Log], .cv (.lit (.int .i64 a6_1))])] [2, 6, 7, 9, 10, 29, 30, 31] [0, 30, 57, 79] (cs := [PCall V P 14 [.agg [.lit (.int .i64 a5_0.Epoch), .lit (.int .i64 a5_0.Vote), .lit (.int .i64 a5_0.Commit), .ro Tag.t_api_Entry a5_0.Log], .cv (.lit (.int .i64 (((p1.getD (Int.toNat xt31_15h) (⟨(0 : Int), (0 : Int), (0 : Int), ([] : List api_Entry), (0 : Int)⟩ : workflowlaw52_Append))).Epoch))), .cv (.lit (.int .i64 (((p1.getD (Int.toNat xt31_15h) (⟨(0 : Int), (0 : Int), (0 : Int), ([] : List api_Entry), (0 : Int)⟩ : workflowlaw52_Append))).Prev))), .cv (.lit (.int .i64 (((p1.getD (Int.toNat xt31_15h) (⟨(0 : Int), (0 : Int), (0 : Int), ([] : List api_Entry), (0 : Int)⟩ : workflowlaw52_Append))).PrevEpoch))), .cv (.ro Tag.t_api_Entry (((p1.getD (Int.toNat xt31_15h) (⟨(0 : Int), (0 : Int), (0 : Int), ([] : List api_Entry), (0 : Int)⟩ : workflowlaw52_Append))).Entries)), .cv (.lit (.int .i64 (((p1.getD (Int.toNat xt31_15h) (⟨(0 : Int), (0 : Int), (0 : Int), ([] : List api_Entry), (0 : Int)⟩ : workflowlaw52_Append))).Commit)))] (.tup [.agg [.lit (.int .i64 a6_0.Epoch), .lit (.int .i64 a6_0.Vote), .lit (.int .i64 a6_0.Commit), .ro Tag.t_api_Entry a6_0.Log], .cv (.lit (.int .i64 a6_1))]), True]) (S' := ⟨[(2, .cv (.ptr 0 0)), (6, .cv (.ptr 30 0)), (7, .cv (.ptr 57 0)), (9, .cv (.ptr 79 0)), (10, .cv (.lit (.int .i64 a6_1))), (29, .cv (.ro Tag.t_workflowlaw52_Append p1)), (30, .cv (.lit (.int .i64 (p1.length : Int)))), (31, .cv (.lit (.int .i64 xt31_15h)))], [(0, .raw [.lit (.int .i64 xh0_0_15h), .lit (.int .i64 xh0_1_15h), .lit (.int .i64 xh0_2_15h), .ro Tag.t_api_Entry xh0_3_15h]), (30, .raw [.lit (.int .i64 (((p1.getD (Int.toNat xt31_15h) (⟨(0 : Int), (0 : Int), (0 : Int), ([] : List api_Entry), (0 : Int)⟩ : workflowlaw52_Append))).Epoch)), .lit (.int .i64 (((p1.getD (Int.toNat xt31_15h) (⟨(0 : Int), (0 : Int), (0 : Int), ([] : List api_Entry), (0 : Int)⟩ : workflowlaw52_Append))).Prev)), .lit (.int .i64 (((p1.getD (Int.toNat xt31_15h) (⟨(0 : Int), (0 : Int), (0 : Int), ([] : List api_Entry), (0 : Int)⟩ : workflowlaw52_Append))).PrevEpoch)), .ro Tag.t_api_Entry (((p1.getD (Int.toNat xt31_15h) (⟨(0 : Int), (0 : Int), (0 : Int), ([] : List api_Entry), (0 : Int)⟩ : workflowlaw52_Append))).Entries), .lit (.int .i64 (((p1.getD (Int.toNat xt31_15h) (⟨(0 : Int), (0 : Int), (0 : Int), ([] : List api_Entry), (0 : Int)⟩ : workflowlaw52_Append))).Commit))]), (57, .raw [.lit (.int .i64 a5_0.Epoch), .lit (.int .i64 a5_0.Vote), .lit (.int .i64 a5_0.Commit), .ro Tag.t_api_Entry a5_0.Log]), (79, .raw [.lit (.int .i64 a6_0.Epoch), .lit (.int .i64 a6_0.Vote), .lit (.int .i64 a6_0.Commit), .ro Tag.t_api_Entry a6_0.Log])]⟩) (by kernel_rfl) (And.intro (replog_Accept.ok h6) trivial) ?_
              refine awp_seq ?_
              refine awp_seq ?_
              rcases ite_some h with ⟨c7, h⟩ | ⟨c7, h⟩
              · refine awp_draw L mixed 83 [(2, true)] [] 35 [2, 6, 7, 29, 30, 31, 107] [0, 30, 57] (cs := [(decide (a6_1 ≠ 0)) = true]) (S' := ⟨[(2, .cv (.ptr 0 0)), (6, .cv (.ptr 30 0)), (7, .cv (.ptr 57 0)), (29, .cv (.ro Tag.t_workflowlaw52_Append p1)), (30, .cv (.lit (.int .i64 (p1.length : Int)))), (31, .cv (.lit (.int .i64 xt31_15h))), (107, .cv (.lit (.bool true)))], [(0, .raw [.lit (.int .i64 xh0_0_15h), .lit (.int .i64 xh0_1_15h), .lit (.int .i64 xh0_2_15h), .ro Tag.t_api_Entry xh0_3_15h]), (30, .raw [.lit (.int .i64 (((p1.getD (Int.toNat xt31_15h) (⟨(0 : Int), (0 : Int), (0 : Int), ([] : List api_Entry), (0 : Int)⟩ : workflowlaw52_Append))).Epoch)), .lit (.int .i64 (((p1.getD (Int.toNat xt31_15h) (⟨(0 : Int), (0 : Int), (0 : Int), ([] : List api_Entry), (0 : Int)⟩ : workflowlaw52_Append))).Prev)), .lit (.int .i64 (((p1.getD (Int.toNat xt31_15h) (⟨(0 : Int), (0 : Int), (0 : Int), ([] : List api_Entry), (0 : Int)⟩ : workflowlaw52_Append))).PrevEpoch)), .ro Tag.t_api_Entry (((p1.getD (Int.toNat xt31_15h) (⟨(0 : Int), (0 : Int), (0 : Int), ([] : List api_Entry), (0 : Int)⟩ : workflowlaw52_Append))).Entries), .lit (.int .i64 (((p1.getD (Int.toNat xt31_15h) (⟨(0 : Int), (0 : Int), (0 : Int), ([] : List api_Entry), (0 : Int)⟩ : workflowlaw52_Append))).Commit))]), (57, .raw [.lit (.int .i64 a5_0.Epoch), .lit (.int .i64 a5_0.Vote), .lit (.int .i64 a5_0.Commit), .ro Tag.t_api_Entry a5_0.Log])]⟩) (by kernel_rfl) (decide_eq_true c7) ?_
                refine awp_true (b := true) (by kernel_rfl) (rfl) ?_
                refine awp_seq ?_
                refine awp_region L 119 [] [] [4] [] (cs := []) (S' := ⟨[(4, .cv (.lit (.bool false)))], []⟩) (by kernel_rfl) trivial ?_
                refine awp_ret ?_
                have hr := Option.some.inj h
                subst hr
                exact .inr ⟨rfl, _, rfl, ⟨.inr rfl, .cv (.lit (.bool false)), by kernel_rfl, by kernel_rfl, trivial, by kernel_rfl⟩⟩
              · obtain ⟨a7, h7, h⟩ := bind_some h
                rcases ite_some h with ⟨c8, h⟩ | ⟨c8, h⟩
                · obtain ⟨a8, h8, h⟩ := bind_some h
                  rcases ite_some h with ⟨c9, h⟩ | ⟨c9, h⟩
                  · rcases ite_some h with ⟨c10, h⟩ | ⟨c10, h⟩
                    · refine awp_draw L mixed 83 [(2, false), (8, false), (13, false), (20, true)] [(5, .cv (.lit (.bool a7))), (10, .cv (.lit (.bool a8)))] 35 [2, 6, 7, 29, 30, 31, 107] [0, 30, 57] (cs := [(decide (a6_1 ≠ 0)) = false, PCall V P 16 [.agg [.lit (.int .i64 a5_0.Epoch), .lit (.int .i64 a5_0.Vote), .lit (.int .i64 a5_0.Commit), .ro Tag.t_api_Entry a5_0.Log], .agg [.lit (.int .i64 a6_0.Epoch), .lit (.int .i64 a6_0.Vote), .lit (.int .i64 a6_0.Commit), .ro Tag.t_api_Entry a6_0.Log]] (.cv (.lit (.bool a7))), True, (!a7) = false, PCall V P 17 [.agg [.lit (.int .i64 a5_0.Epoch), .lit (.int .i64 a5_0.Vote), .lit (.int .i64 a5_0.Commit), .ro Tag.t_api_Entry a5_0.Log]] (.cv (.lit (.bool a8))), True, (!a8) = false, (decide (a5_0.Epoch < xh0_0_15h)) = true]) (S' := ⟨[(2, .cv (.ptr 0 0)), (6, .cv (.ptr 30 0)), (7, .cv (.ptr 57 0)), (29, .cv (.ro Tag.t_workflowlaw52_Append p1)), (30, .cv (.lit (.int .i64 (p1.length : Int)))), (31, .cv (.lit (.int .i64 xt31_15h))), (107, .cv (.lit (.bool true)))], [(0, .raw [.lit (.int .i64 xh0_0_15h), .lit (.int .i64 xh0_1_15h), .lit (.int .i64 xh0_2_15h), .ro Tag.t_api_Entry xh0_3_15h]), (30, .raw [.lit (.int .i64 (((p1.getD (Int.toNat xt31_15h) (⟨(0 : Int), (0 : Int), (0 : Int), ([] : List api_Entry), (0 : Int)⟩ : workflowlaw52_Append))).Epoch)), .lit (.int .i64 (((p1.getD (Int.toNat xt31_15h) (⟨(0 : Int), (0 : Int), (0 : Int), ([] : List api_Entry), (0 : Int)⟩ : workflowlaw52_Append))).Prev)), .lit (.int .i64 (((p1.getD (Int.toNat xt31_15h) (⟨(0 : Int), (0 : Int), (0 : Int), ([] : List api_Entry), (0 : Int)⟩ : workflowlaw52_Append))).PrevEpoch)), .ro Tag.t_api_Entry (((p1.getD (Int.toNat xt31_15h) (⟨(0 : Int), (0 : Int), (0 : Int), ([] : List api_Entry), (0 : Int)⟩ : workflowlaw52_Append))).Entries), .lit (.int .i64 (((p1.getD (Int.toNat xt31_15h) (⟨(0 : Int), (0 : Int), (0 : Int), ([] : List api_Entry), (0 : Int)⟩ : workflowlaw52_Append))).Commit))]), (57, .raw [.lit (.int .i64 a5_0.Epoch), .lit (.int .i64 a5_0.Vote), .lit (.int .i64 a5_0.Commit), .ro Tag.t_api_Entry a5_0.Log])]⟩) (by kernel_rfl) (And.intro (decide_eq_false c7) (And.intro (workflowref52_Same.ok h7) (And.intro trivial (And.intro (congrArg Bool.not (c8)) (And.intro (workflowref52_Right.ok h8) (And.intro trivial (And.intro (congrArg Bool.not (c9)) (decide_eq_true c10)))))))) ?_
                      refine awp_true (b := true) (by kernel_rfl) (rfl) ?_
                      refine awp_seq ?_
                      refine awp_region L 119 [] [] [4] [] (cs := []) (S' := ⟨[(4, .cv (.lit (.bool false)))], []⟩) (by kernel_rfl) trivial ?_
                      refine awp_ret ?_
                      have hr := Option.some.inj h
                      subst hr
                      exact .inr ⟨rfl, _, rfl, ⟨.inr rfl, .cv (.lit (.bool false)), by kernel_rfl, by kernel_rfl, trivial, by kernel_rfl⟩⟩
                    · rcases ite_some h with ⟨c11, h⟩ | ⟨c11, h⟩
                      · refine awp_draw L mixed 83 [(2, false), (8, false), (13, false), (20, false), (27, true)] [(5, .cv (.lit (.bool a7))), (10, .cv (.lit (.bool a8)))] 35 [2, 6, 7, 29, 30, 31, 107] [0, 30, 57] (cs := [(decide (a6_1 ≠ 0)) = false, PCall V P 16 [.agg [.lit (.int .i64 a5_0.Epoch), .lit (.int .i64 a5_0.Vote), .lit (.int .i64 a5_0.Commit), .ro Tag.t_api_Entry a5_0.Log], .agg [.lit (.int .i64 a6_0.Epoch), .lit (.int .i64 a6_0.Vote), .lit (.int .i64 a6_0.Commit), .ro Tag.t_api_Entry a6_0.Log]] (.cv (.lit (.bool a7))), True, (!a7) = false, PCall V P 17 [.agg [.lit (.int .i64 a5_0.Epoch), .lit (.int .i64 a5_0.Vote), .lit (.int .i64 a5_0.Commit), .ro Tag.t_api_Entry a5_0.Log]] (.cv (.lit (.bool a8))), True, (!a8) = false, (decide (a5_0.Epoch < xh0_0_15h)) = false, (decide (a5_0.Commit < xh0_2_15h)) = true]) (S' := ⟨[(2, .cv (.ptr 0 0)), (6, .cv (.ptr 30 0)), (7, .cv (.ptr 57 0)), (29, .cv (.ro Tag.t_workflowlaw52_Append p1)), (30, .cv (.lit (.int .i64 (p1.length : Int)))), (31, .cv (.lit (.int .i64 xt31_15h))), (107, .cv (.lit (.bool true)))], [(0, .raw [.lit (.int .i64 xh0_0_15h), .lit (.int .i64 xh0_1_15h), .lit (.int .i64 xh0_2_15h), .ro Tag.t_api_Entry xh0_3_15h]), (30, .raw [.lit (.int .i64 (((p1.getD (Int.toNat xt31_15h) (⟨(0 : Int), (0 : Int), (0 : Int), ([] : List api_Entry), (0 : Int)⟩ : workflowlaw52_Append))).Epoch)), .lit (.int .i64 (((p1.getD (Int.toNat xt31_15h) (⟨(0 : Int), (0 : Int), (0 : Int), ([] : List api_Entry), (0 : Int)⟩ : workflowlaw52_Append))).Prev)), .lit (.int .i64 (((p1.getD (Int.toNat xt31_15h) (⟨(0 : Int), (0 : Int), (0 : Int), ([] : List api_Entry), (0 : Int)⟩ : workflowlaw52_Append))).PrevEpoch)), .ro Tag.t_api_Entry (((p1.getD (Int.toNat xt31_15h) (⟨(0 : Int), (0 : Int), (0 : Int), ([] : List api_Entry), (0 : Int)⟩ : workflowlaw52_Append))).Entries), .lit (.int .i64 (((p1.getD (Int.toNat xt31_15h) (⟨(0 : Int), (0 : Int), (0 : Int), ([] : List api_Entry), (0 : Int)⟩ : workflowlaw52_Append))).Commit))]), (57, .raw [.lit (.int .i64 a5_0.Epoch), .lit (.int .i64 a5_0.Vote), .lit (.int .i64 a5_0.Commit), .ro Tag.t_api_Entry a5_0.Log])]⟩) (by kernel_rfl) (And.intro (decide_eq_false c7) (And.intro (workflowref52_Same.ok h7) (And.intro trivial (And.intro (congrArg Bool.not (c8)) (And.intro (workflowref52_Right.ok h8) (And.intro trivial (And.intro (congrArg Bool.not (c9)) (And.intro (decide_eq_false c10) (decide_eq_true c11))))))))) ?_
                        refine awp_true (b := true) (by kernel_rfl) (rfl) ?_
                        refine awp_seq ?_
                        refine awp_region L 119 [] [] [4] [] (cs := []) (S' := ⟨[(4, .cv (.lit (.bool false)))], []⟩) (by kernel_rfl) trivial ?_
                        refine awp_ret ?_
                        have hr := Option.some.inj h
                        subst hr
                        exact .inr ⟨rfl, _, rfl, ⟨.inr rfl, .cv (.lit (.bool false)), by kernel_rfl, by kernel_rfl, trivial, by kernel_rfl⟩⟩
                      · obtain ⟨a9, h9, h⟩ := bind_some h
                        refine awp_draw L mixed 83 [(2, false), (8, false), (13, false), (20, false), (27, false)] [(5, .cv (.lit (.bool a7))), (10, .cv (.lit (.bool a8))), (30, .cv (.lit (.int .i64 a9)))] 35 [2, 6, 7, 29, 30, 31, 107] [0, 30, 57] (cs := [(decide (a6_1 ≠ 0)) = false, PCall V P 16 [.agg [.lit (.int .i64 a5_0.Epoch), .lit (.int .i64 a5_0.Vote), .lit (.int .i64 a5_0.Commit), .ro Tag.t_api_Entry a5_0.Log], .agg [.lit (.int .i64 a6_0.Epoch), .lit (.int .i64 a6_0.Vote), .lit (.int .i64 a6_0.Commit), .ro Tag.t_api_Entry a6_0.Log]] (.cv (.lit (.bool a7))), True, (!a7) = false, PCall V P 17 [.agg [.lit (.int .i64 a5_0.Epoch), .lit (.int .i64 a5_0.Vote), .lit (.int .i64 a5_0.Commit), .ro Tag.t_api_Entry a5_0.Log]] (.cv (.lit (.bool a8))), True, (!a8) = false, (decide (a5_0.Epoch < xh0_0_15h)) = false, (decide (a5_0.Commit < xh0_2_15h)) = false, PCall V P 18 [.agg [.lit (.int .i64 xh0_0_15h), .lit (.int .i64 xh0_1_15h), .lit (.int .i64 xh0_2_15h), .ro Tag.t_api_Entry xh0_3_15h], .agg [.lit (.int .i64 a5_0.Epoch), .lit (.int .i64 a5_0.Vote), .lit (.int .i64 a5_0.Commit), .ro Tag.t_api_Entry a5_0.Log]] (.cv (.lit (.int .i64 a9))), True]) (S' := ⟨[(2, .cv (.ptr 0 0)), (6, .cv (.ptr 30 0)), (7, .cv (.ptr 57 0)), (29, .cv (.ro Tag.t_workflowlaw52_Append p1)), (30, .cv (.lit (.int .i64 (p1.length : Int)))), (31, .cv (.lit (.int .i64 xt31_15h))), (107, .cv (.lit (.bool ((decide (a9 < xh0_2_15h))))))], [(0, .raw [.lit (.int .i64 xh0_0_15h), .lit (.int .i64 xh0_1_15h), .lit (.int .i64 xh0_2_15h), .ro Tag.t_api_Entry xh0_3_15h]), (30, .raw [.lit (.int .i64 (((p1.getD (Int.toNat xt31_15h) (⟨(0 : Int), (0 : Int), (0 : Int), ([] : List api_Entry), (0 : Int)⟩ : workflowlaw52_Append))).Epoch)), .lit (.int .i64 (((p1.getD (Int.toNat xt31_15h) (⟨(0 : Int), (0 : Int), (0 : Int), ([] : List api_Entry), (0 : Int)⟩ : workflowlaw52_Append))).Prev)), .lit (.int .i64 (((p1.getD (Int.toNat xt31_15h) (⟨(0 : Int), (0 : Int), (0 : Int), ([] : List api_Entry), (0 : Int)⟩ : workflowlaw52_Append))).PrevEpoch)), .ro Tag.t_api_Entry (((p1.getD (Int.toNat xt31_15h) (⟨(0 : Int), (0 : Int), (0 : Int), ([] : List api_Entry), (0 : Int)⟩ : workflowlaw52_Append))).Entries), .lit (.int .i64 (((p1.getD (Int.toNat xt31_15h) (⟨(0 : Int), (0 : Int), (0 : Int), ([] : List api_Entry), (0 : Int)⟩ : workflowlaw52_Append))).Commit))]), (57, .raw [.lit (.int .i64 a5_0.Epoch), .lit (.int .i64 a5_0.Vote), .lit (.int .i64 a5_0.Commit), .ro Tag.t_api_Entry a5_0.Log])]⟩) (by kernel_rfl) (And.intro (decide_eq_false c7) (And.intro (workflowref52_Same.ok h7) (And.intro trivial (And.intro (congrArg Bool.not (c8)) (And.intro (workflowref52_Right.ok h8) (And.intro trivial (And.intro (congrArg Bool.not (c9)) (And.intro (decide_eq_false c10) (And.intro (decide_eq_false c11) (And.intro (workflowref52_Common.ok h9) trivial)))))))))) ?_
                        rcases ite_some h with ⟨c12, h⟩ | ⟨c12, h⟩
                        · refine awp_true (b := (decide (a9 < xh0_2_15h))) (by kernel_rfl) (decide_eq_true c12) ?_
                          refine awp_seq ?_
                          refine awp_region L 119 [] [] [4] [] (cs := []) (S' := ⟨[(4, .cv (.lit (.bool false)))], []⟩) (by kernel_rfl) trivial ?_
                          refine awp_ret ?_
                          have hr := Option.some.inj h
                          subst hr
                          exact .inr ⟨rfl, _, rfl, ⟨.inr rfl, .cv (.lit (.bool false)), by kernel_rfl, by kernel_rfl, trivial, by kernel_rfl⟩⟩
                        · refine awp_false (b := (decide (a9 < xh0_2_15h))) (by kernel_rfl) (decide_eq_false c12) ?_
                          refine awp_skip [2, 6, 7, 29, 30, 31] [0, 30, 57] (S' := ⟨[(2, .cv (.ptr 0 0)), (6, .cv (.ptr 30 0)), (7, .cv (.ptr 57 0)), (29, .cv (.ro Tag.t_workflowlaw52_Append p1)), (30, .cv (.lit (.int .i64 (p1.length : Int)))), (31, .cv (.lit (.int .i64 xt31_15h)))], [(0, .raw [.lit (.int .i64 xh0_0_15h), .lit (.int .i64 xh0_1_15h), .lit (.int .i64 xh0_2_15h), .ro Tag.t_api_Entry xh0_3_15h]), (30, .raw [.lit (.int .i64 (((p1.getD (Int.toNat xt31_15h) (⟨(0 : Int), (0 : Int), (0 : Int), ([] : List api_Entry), (0 : Int)⟩ : workflowlaw52_Append))).Epoch)), .lit (.int .i64 (((p1.getD (Int.toNat xt31_15h) (⟨(0 : Int), (0 : Int), (0 : Int), ([] : List api_Entry), (0 : Int)⟩ : workflowlaw52_Append))).Prev)), .lit (.int .i64 (((p1.getD (Int.toNat xt31_15h) (⟨(0 : Int), (0 : Int), (0 : Int), ([] : List api_Entry), (0 : Int)⟩ : workflowlaw52_Append))).PrevEpoch)), .ro Tag.t_api_Entry (((p1.getD (Int.toNat xt31_15h) (⟨(0 : Int), (0 : Int), (0 : Int), ([] : List api_Entry), (0 : Int)⟩ : workflowlaw52_Append))).Entries), .lit (.int .i64 (((p1.getD (Int.toNat xt31_15h) (⟨(0 : Int), (0 : Int), (0 : Int), ([] : List api_Entry), (0 : Int)⟩ : workflowlaw52_Append))).Commit))]), (57, .raw [.lit (.int .i64 a5_0.Epoch), .lit (.int .i64 a5_0.Vote), .lit (.int .i64 a5_0.Commit), .ro Tag.t_api_Entry a5_0.Log])]⟩) (by kernel_rfl) ?_
                          refine awp_seq ?_
                          refine awp_seq ?_
                          refine awp_region L 121 [] [] [2, 6, 7, 29, 30, 31, 109, 110, 111] [0, 30, 57] (cs := []) (S' := ⟨[(2, .cv (.ptr 0 0)), (6, .cv (.ptr 30 0)), (7, .cv (.ptr 57 0)), (29, .cv (.ro Tag.t_workflowlaw52_Append p1)), (30, .cv (.lit (.int .i64 (p1.length : Int)))), (31, .cv (.lit (.int .i64 xt31_15h))), (109, .cv (.ro Tag.t_api_Entry (((p1.getD (Int.toNat xt31_15h) (⟨(0 : Int), (0 : Int), (0 : Int), ([] : List api_Entry), (0 : Int)⟩ : workflowlaw52_Append))).Entries))), (110, .cv (.lit (.int .i64 (((((p1.getD (Int.toNat xt31_15h) (⟨(0 : Int), (0 : Int), (0 : Int), ([] : List api_Entry), (0 : Int)⟩ : workflowlaw52_Append))).Entries).length : Int))))), (111, .cv (.lit (.int .i64 0)))], [(0, .raw [.lit (.int .i64 xh0_0_15h), .lit (.int .i64 xh0_1_15h), .lit (.int .i64 xh0_2_15h), .ro Tag.t_api_Entry xh0_3_15h]), (30, .raw [.lit (.int .i64 (((p1.getD (Int.toNat xt31_15h) (⟨(0 : Int), (0 : Int), (0 : Int), ([] : List api_Entry), (0 : Int)⟩ : workflowlaw52_Append))).Epoch)), .lit (.int .i64 (((p1.getD (Int.toNat xt31_15h) (⟨(0 : Int), (0 : Int), (0 : Int), ([] : List api_Entry), (0 : Int)⟩ : workflowlaw52_Append))).Prev)), .lit (.int .i64 (((p1.getD (Int.toNat xt31_15h) (⟨(0 : Int), (0 : Int), (0 : Int), ([] : List api_Entry), (0 : Int)⟩ : workflowlaw52_Append))).PrevEpoch)), .ro Tag.t_api_Entry (((p1.getD (Int.toNat xt31_15h) (⟨(0 : Int), (0 : Int), (0 : Int), ([] : List api_Entry), (0 : Int)⟩ : workflowlaw52_Append))).Entries), .lit (.int .i64 (((p1.getD (Int.toNat xt31_15h) (⟨(0 : Int), (0 : Int), (0 : Int), ([] : List api_Entry), (0 : Int)⟩ : workflowlaw52_Append))).Commit))]), (57, .raw [.lit (.int .i64 a5_0.Epoch), .lit (.int .i64 a5_0.Vote), .lit (.int .i64 a5_0.Commit), .ro Tag.t_api_Entry a5_0.Log])]⟩) (by kernel_rfl) trivial ?_
                          refine awp_block ?_
                          refine awp_keep (ts := [2, 6, 7, 29, 30, 31, 109, 110, 111]) (ids := [0, 30, 57]) (S' := ⟨[(2, .cv (.ptr 0 0)), (6, .cv (.ptr 30 0)), (7, .cv (.ptr 57 0)), (29, .cv (.ro Tag.t_workflowlaw52_Append p1)), (30, .cv (.lit (.int .i64 (p1.length : Int)))), (31, .cv (.lit (.int .i64 xt31_15h))), (109, .cv (.ro Tag.t_api_Entry (((p1.getD (Int.toNat xt31_15h) (⟨(0 : Int), (0 : Int), (0 : Int), ([] : List api_Entry), (0 : Int)⟩ : workflowlaw52_Append))).Entries))), (110, .cv (.lit (.int .i64 (((((p1.getD (Int.toNat xt31_15h) (⟨(0 : Int), (0 : Int), (0 : Int), ([] : List api_Entry), (0 : Int)⟩ : workflowlaw52_Append))).Entries).length : Int))))), (111, .cv (.lit (.int .i64 0)))], [(0, .raw [.lit (.int .i64 xh0_0_15h), .lit (.int .i64 xh0_1_15h), .lit (.int .i64 xh0_2_15h), .ro Tag.t_api_Entry xh0_3_15h]), (30, .raw [.lit (.int .i64 (((p1.getD (Int.toNat xt31_15h) (⟨(0 : Int), (0 : Int), (0 : Int), ([] : List api_Entry), (0 : Int)⟩ : workflowlaw52_Append))).Epoch)), .lit (.int .i64 (((p1.getD (Int.toNat xt31_15h) (⟨(0 : Int), (0 : Int), (0 : Int), ([] : List api_Entry), (0 : Int)⟩ : workflowlaw52_Append))).Prev)), .lit (.int .i64 (((p1.getD (Int.toNat xt31_15h) (⟨(0 : Int), (0 : Int), (0 : Int), ([] : List api_Entry), (0 : Int)⟩ : workflowlaw52_Append))).PrevEpoch)), .ro Tag.t_api_Entry (((p1.getD (Int.toNat xt31_15h) (⟨(0 : Int), (0 : Int), (0 : Int), ([] : List api_Entry), (0 : Int)⟩ : workflowlaw52_Append))).Entries), .lit (.int .i64 (((p1.getD (Int.toNat xt31_15h) (⟨(0 : Int), (0 : Int), (0 : Int), ([] : List api_Entry), (0 : Int)⟩ : workflowlaw52_Append))).Commit))]), (57, .raw [.lit (.int .i64 a5_0.Epoch), .lit (.int .i64 a5_0.Vote), .lit (.int .i64 a5_0.Commit), .ro Tag.t_api_Entry a5_0.Log])]⟩) (by kernel_rfl) ?_
                          obtain ⟨o2, hp2, h⟩ := obind_some h
                          refine awp_mono (Q' := fun e S => (e = .exit 2 ∧ S = ⟨[(2, .cv (.ptr 0 0)), (7, .cv (.ptr 57 0)), (29, .cv (.ro Tag.t_workflowlaw52_Append p1)), (30, .cv (.lit (.int .i64 (p1.length : Int)))), (31, .cv (.lit (.int .i64 xt31_15h)))], [(0, .raw [.lit (.int .i64 xh0_0_15h), .lit (.int .i64 xh0_1_15h), .lit (.int .i64 xh0_2_15h), .ro Tag.t_api_Entry xh0_3_15h]), (57, .raw [.lit (.int .i64 a5_0.Epoch), .lit (.int .i64 a5_0.Vote), .lit (.int .i64 a5_0.Commit), .ro Tag.t_api_Entry a5_0.Log])]⟩ ∧ Out.go () = o2) ∨ (e = .ret ∧ ∃ a, Out.done a = o2 ∧ Eng.Ends P V Try.f4 (.cv (.lit (.bool a))) .ret S)) (awp_loop (fun k S => ∃ xt111_56h : Int, S = ⟨[(2, .cv (.ptr 0 0)), (6, .cv (.ptr 30 0)), (7, .cv (.ptr 57 0)), (29, .cv (.ro Tag.t_workflowlaw52_Append p1)), (30, .cv (.lit (.int .i64 (p1.length : Int)))), (31, .cv (.lit (.int .i64 xt31_15h))), (109, .cv (.ro Tag.t_api_Entry (((p1.getD (Int.toNat xt31_15h) (⟨(0 : Int), (0 : Int), (0 : Int), ([] : List api_Entry), (0 : Int)⟩ : workflowlaw52_Append))).Entries))), (110, .cv (.lit (.int .i64 (((((p1.getD (Int.toNat xt31_15h) (⟨(0 : Int), (0 : Int), (0 : Int), ([] : List api_Entry), (0 : Int)⟩ : workflowlaw52_Append))).Entries).length : Int))))), (111, .cv (.lit (.int .i64 xt111_56h)))], [(0, .raw [.lit (.int .i64 xh0_0_15h), .lit (.int .i64 xh0_1_15h), .lit (.int .i64 xh0_2_15h), .ro Tag.t_api_Entry xh0_3_15h]), (30, .raw [.lit (.int .i64 (((p1.getD (Int.toNat xt31_15h) (⟨(0 : Int), (0 : Int), (0 : Int), ([] : List api_Entry), (0 : Int)⟩ : workflowlaw52_Append))).Epoch)), .lit (.int .i64 (((p1.getD (Int.toNat xt31_15h) (⟨(0 : Int), (0 : Int), (0 : Int), ([] : List api_Entry), (0 : Int)⟩ : workflowlaw52_Append))).Prev)), .lit (.int .i64 (((p1.getD (Int.toNat xt31_15h) (⟨(0 : Int), (0 : Int), (0 : Int), ([] : List api_Entry), (0 : Int)⟩ : workflowlaw52_Append))).PrevEpoch)), .ro Tag.t_api_Entry (((p1.getD (Int.toNat xt31_15h) (⟨(0 : Int), (0 : Int), (0 : Int), ([] : List api_Entry), (0 : Int)⟩ : workflowlaw52_Append))).Entries), .lit (.int .i64 (((p1.getD (Int.toNat xt31_15h) (⟨(0 : Int), (0 : Int), (0 : Int), ([] : List api_Entry), (0 : Int)⟩ : workflowlaw52_Append))).Commit))]), (57, .raw [.lit (.int .i64 a5_0.Epoch), .lit (.int .i64 a5_0.Vote), .lit (.int .i64 a5_0.Commit), .ro Tag.t_api_Entry a5_0.Log])]⟩ ∧ workflowlaw52_ReplogKeeps.l56 K p1 xt31_15h a5_0 k xt111_56h = some o2) ?_ ⟨_, rfl, hp2⟩) ?_
                          · clear h hp2
                            intro k S hS
                            obtain ⟨xt111_56h, rfl, h⟩ := hS
                            cases k with
                            | zero => cases h
                            | succ k =>
                            unfold workflowlaw52_ReplogKeeps.l56 at h
                            refine awp_seq ?_
                            refine awp_region L 126 [] [] [2, 6, 7, 29, 30, 31, 109, 110, 111, 112] [0, 30, 57] (cs := []) (S' := ⟨[(2, .cv (.ptr 0 0)), (6, .cv (.ptr 30 0)), (7, .cv (.ptr 57 0)), (29, .cv (.ro Tag.t_workflowlaw52_Append p1)), (30, .cv (.lit (.int .i64 (p1.length : Int)))), (31, .cv (.lit (.int .i64 xt31_15h))), (109, .cv (.ro Tag.t_api_Entry (((p1.getD (Int.toNat xt31_15h) (⟨(0 : Int), (0 : Int), (0 : Int), ([] : List api_Entry), (0 : Int)⟩ : workflowlaw52_Append))).Entries))), (110, .cv (.lit (.int .i64 (((((p1.getD (Int.toNat xt31_15h) (⟨(0 : Int), (0 : Int), (0 : Int), ([] : List api_Entry), (0 : Int)⟩ : workflowlaw52_Append))).Entries).length : Int))))), (111, .cv (.lit (.int .i64 xt111_56h))), (112, .cv (.lit (.bool ((decide (xt111_56h < ((((p1.getD (Int.toNat xt31_15h) (⟨(0 : Int), (0 : Int), (0 : Int), ([] : List api_Entry), (0 : Int)⟩ : workflowlaw52_Append))).Entries).length : Int)))))))], [(0, .raw [.lit (.int .i64 xh0_0_15h), .lit (.int .i64 xh0_1_15h), .lit (.int .i64 xh0_2_15h), .ro Tag.t_api_Entry xh0_3_15h]), (30, .raw [.lit (.int .i64 (((p1.getD (Int.toNat xt31_15h) (⟨(0 : Int), (0 : Int), (0 : Int), ([] : List api_Entry), (0 : Int)⟩ : workflowlaw52_Append))).Epoch)), .lit (.int .i64 (((p1.getD (Int.toNat xt31_15h) (⟨(0 : Int), (0 : Int), (0 : Int), ([] : List api_Entry), (0 : Int)⟩ : workflowlaw52_Append))).Prev)), .lit (.int .i64 (((p1.getD (Int.toNat xt31_15h) (⟨(0 : Int), (0 : Int), (0 : Int), ([] : List api_Entry), (0 : Int)⟩ : workflowlaw52_Append))).PrevEpoch)), .ro Tag.t_api_Entry (((p1.getD (Int.toNat xt31_15h) (⟨(0 : Int), (0 : Int), (0 : Int), ([] : List api_Entry), (0 : Int)⟩ : workflowlaw52_Append))).Entries), .lit (.int .i64 (((p1.getD (Int.toNat xt31_15h) (⟨(0 : Int), (0 : Int), (0 : Int), ([] : List api_Entry), (0 : Int)⟩ : workflowlaw52_Append))).Commit))]), (57, .raw [.lit (.int .i64 a5_0.Epoch), .lit (.int .i64 a5_0.Vote), .lit (.int .i64 a5_0.Commit), .ro Tag.t_api_Entry a5_0.Log])]⟩) (by kernel_rfl) trivial ?_
                            refine awp_seq ?_
                            rcases ite_some h with ⟨c13, h⟩ | ⟨c13, h⟩
                            · refine awp_true (b := (decide (xt111_56h < ((((p1.getD (Int.toNat xt31_15h) (⟨(0 : Int), (0 : Int), (0 : Int), ([] : List api_Entry), (0 : Int)⟩ : workflowlaw52_Append))).Entries).length : Int)))) (by kernel_rfl) (decide_eq_true c13) ?_
                              refine awp_skip [2, 6, 7, 29, 30, 31, 109, 110, 111] [0, 30, 57] (S' := ⟨[(2, .cv (.ptr 0 0)), (6, .cv (.ptr 30 0)), (7, .cv (.ptr 57 0)), (29, .cv (.ro Tag.t_workflowlaw52_Append p1)), (30, .cv (.lit (.int .i64 (p1.length : Int)))), (31, .cv (.lit (.int .i64 xt31_15h))), (109, .cv (.ro Tag.t_api_Entry (((p1.getD (Int.toNat xt31_15h) (⟨(0 : Int), (0 : Int), (0 : Int), ([] : List api_Entry), (0 : Int)⟩ : workflowlaw52_Append))).Entries))), (110, .cv (.lit (.int .i64 (((((p1.getD (Int.toNat xt31_15h) (⟨(0 : Int), (0 : Int), (0 : Int), ([] : List api_Entry), (0 : Int)⟩ : workflowlaw52_Append))).Entries).length : Int))))), (111, .cv (.lit (.int .i64 xt111_56h)))], [(0, .raw [.lit (.int .i64 xh0_0_15h), .lit (.int .i64 xh0_1_15h), .lit (.int .i64 xh0_2_15h), .ro Tag.t_api_Entry xh0_3_15h]), (30, .raw [.lit (.int .i64 (((p1.getD (Int.toNat xt31_15h) (⟨(0 : Int), (0 : Int), (0 : Int), ([] : List api_Entry), (0 : Int)⟩ : workflowlaw52_Append))).Epoch)), .lit (.int .i64 (((p1.getD (Int.toNat xt31_15h) (⟨(0 : Int), (0 : Int), (0 : Int), ([] : List api_Entry), (0 : Int)⟩ : workflowlaw52_Append))).Prev)), .lit (.int .i64 (((p1.getD (Int.toNat xt31_15h) (⟨(0 : Int), (0 : Int), (0 : Int), ([] : List api_Entry), (0 : Int)⟩ : workflowlaw52_Append))).PrevEpoch)), .ro Tag.t_api_Entry (((p1.getD (Int.toNat xt31_15h) (⟨(0 : Int), (0 : Int), (0 : Int), ([] : List api_Entry), (0 : Int)⟩ : workflowlaw52_Append))).Entries), .lit (.int .i64 (((p1.getD (Int.toNat xt31_15h) (⟨(0 : Int), (0 : Int), (0 : Int), ([] : List api_Entry), (0 : Int)⟩ : workflowlaw52_Append))).Commit))]), (57, .raw [.lit (.int .i64 a5_0.Epoch), .lit (.int .i64 a5_0.Vote), .lit (.int .i64 a5_0.Commit), .ro Tag.t_api_Entry a5_0.Log])]⟩) (by kernel_rfl) ?_
                              refine awp_seq ?_
                              refine awp_block ?_
                              refine awp_seq ?_
                              obtain ⟨g2, h⟩ := guard_some h
                              refine awp_region L 128 [] [] [2, 6, 7, 11, 12, 29, 30, 31, 109, 110, 111] [0, 30, 57, 131] (cs := [(0 : Int) ≤ xt111_56h, (xt111_56h : Int) < ((((p1.getD (Int.toNat xt31_15h) (⟨(0 : Int), (0 : Int), (0 : Int), ([] : List api_Entry), (0 : Int)⟩ : workflowlaw52_Append))).Entries).length : Int)]) (S' := ⟨[(2, .cv (.ptr 0 0)), (6, .cv (.ptr 30 0)), (7, .cv (.ptr 57 0)), (11, .cv (.lit (.int .i64 xt111_56h))), (12, .cv (.ptr 131 0)), (29, .cv (.ro Tag.t_workflowlaw52_Append p1)), (30, .cv (.lit (.int .i64 (p1.length : Int)))), (31, .cv (.lit (.int .i64 xt31_15h))), (109, .cv (.ro Tag.t_api_Entry (((p1.getD (Int.toNat xt31_15h) (⟨(0 : Int), (0 : Int), (0 : Int), ([] : List api_Entry), (0 : Int)⟩ : workflowlaw52_Append))).Entries))), (110, .cv (.lit (.int .i64 (((((p1.getD (Int.toNat xt31_15h) (⟨(0 : Int), (0 : Int), (0 : Int), ([] : List api_Entry), (0 : Int)⟩ : workflowlaw52_Append))).Entries).length : Int))))), (111, .cv (.lit (.int .i64 xt111_56h)))], [(0, .raw [.lit (.int .i64 xh0_0_15h), .lit (.int .i64 xh0_1_15h), .lit (.int .i64 xh0_2_15h), .ro Tag.t_api_Entry xh0_3_15h]), (30, .raw [.lit (.int .i64 (((p1.getD (Int.toNat xt31_15h) (⟨(0 : Int), (0 : Int), (0 : Int), ([] : List api_Entry), (0 : Int)⟩ : workflowlaw52_Append))).Epoch)), .lit (.int .i64 (((p1.getD (Int.toNat xt31_15h) (⟨(0 : Int), (0 : Int), (0 : Int), ([] : List api_Entry), (0 : Int)⟩ : workflowlaw52_Append))).Prev)), .lit (.int .i64 (((p1.getD (Int.toNat xt31_15h) (⟨(0 : Int), (0 : Int), (0 : Int), ([] : List api_Entry), (0 : Int)⟩ : workflowlaw52_Append))).PrevEpoch)), .ro Tag.t_api_Entry (((p1.getD (Int.toNat xt31_15h) (⟨(0 : Int), (0 : Int), (0 : Int), ([] : List api_Entry), (0 : Int)⟩ : workflowlaw52_Append))).Entries), .lit (.int .i64 (((p1.getD (Int.toNat xt31_15h) (⟨(0 : Int), (0 : Int), (0 : Int), ([] : List api_Entry), (0 : Int)⟩ : workflowlaw52_Append))).Commit))]), (57, .raw [.lit (.int .i64 a5_0.Epoch), .lit (.int .i64 a5_0.Vote), .lit (.int .i64 a5_0.Commit), .ro Tag.t_api_Entry a5_0.Log]), (131, .raw [.lit (.int .i64 ((((((p1.getD (Int.toNat xt31_15h) (⟨(0 : Int), (0 : Int), (0 : Int), ([] : List api_Entry), (0 : Int)⟩ : workflowlaw52_Append))).Entries).getD (Int.toNat xt111_56h) (⟨(0 : Int), ([] : List UInt8)⟩ : api_Entry))).Epoch)), .ro Tag.t_uint8 ((((((p1.getD (Int.toNat xt31_15h) (⟨(0 : Int), (0 : Int), (0 : Int), ([] : List api_Entry), (0 : Int)⟩ : workflowlaw52_Append))).Entries).getD (Int.toNat xt111_56h) (⟨(0 : Int), ([] : List UInt8)⟩ : api_Entry))).Data)])]⟩) (by kernel_rfl) (And.intro g2.1 g2.2) ?_
                              refine awp_seq ?_
                              rcases ite_some h with ⟨c14, h⟩ | ⟨c14, h⟩
                              · refine awp_draw L mixed 135 [(8, true)] [] 21 [2, 6, 7, 29, 30, 31, 109, 110, 111, 136] [0, 30, 57] (cs := [(decide ((IntKind.i64.wrap (((p1.getD (Int.toNat xt31_15h) (⟨(0 : Int), (0 : Int), (0 : Int), ([] : List api_Entry), (0 : Int)⟩ : workflowlaw52_Append))).Prev + xt111_56h)) ≥ (a5_0.Log.length : Int))) = true]) (S' := ⟨[(2, .cv (.ptr 0 0)), (6, .cv (.ptr 30 0)), (7, .cv (.ptr 57 0)), (29, .cv (.ro Tag.t_workflowlaw52_Append p1)), (30, .cv (.lit (.int .i64 (p1.length : Int)))), (31, .cv (.lit (.int .i64 xt31_15h))), (109, .cv (.ro Tag.t_api_Entry (((p1.getD (Int.toNat xt31_15h) (⟨(0 : Int), (0 : Int), (0 : Int), ([] : List api_Entry), (0 : Int)⟩ : workflowlaw52_Append))).Entries))), (110, .cv (.lit (.int .i64 (((((p1.getD (Int.toNat xt31_15h) (⟨(0 : Int), (0 : Int), (0 : Int), ([] : List api_Entry), (0 : Int)⟩ : workflowlaw52_Append))).Entries).length : Int))))), (111, .cv (.lit (.int .i64 xt111_56h))), (136, .cv (.lit (.bool true)))], [(0, .raw [.lit (.int .i64 xh0_0_15h), .lit (.int .i64 xh0_1_15h), .lit (.int .i64 xh0_2_15h), .ro Tag.t_api_Entry xh0_3_15h]), (30, .raw [.lit (.int .i64 (((p1.getD (Int.toNat xt31_15h) (⟨(0 : Int), (0 : Int), (0 : Int), ([] : List api_Entry), (0 : Int)⟩ : workflowlaw52_Append))).Epoch)), .lit (.int .i64 (((p1.getD (Int.toNat xt31_15h) (⟨(0 : Int), (0 : Int), (0 : Int), ([] : List api_Entry), (0 : Int)⟩ : workflowlaw52_Append))).Prev)), .lit (.int .i64 (((p1.getD (Int.toNat xt31_15h) (⟨(0 : Int), (0 : Int), (0 : Int), ([] : List api_Entry), (0 : Int)⟩ : workflowlaw52_Append))).PrevEpoch)), .ro Tag.t_api_Entry (((p1.getD (Int.toNat xt31_15h) (⟨(0 : Int), (0 : Int), (0 : Int), ([] : List api_Entry), (0 : Int)⟩ : workflowlaw52_Append))).Entries), .lit (.int .i64 (((p1.getD (Int.toNat xt31_15h) (⟨(0 : Int), (0 : Int), (0 : Int), ([] : List api_Entry), (0 : Int)⟩ : workflowlaw52_Append))).Commit))]), (57, .raw [.lit (.int .i64 a5_0.Epoch), .lit (.int .i64 a5_0.Vote), .lit (.int .i64 a5_0.Commit), .ro Tag.t_api_Entry a5_0.Log])]⟩) (by kernel_rfl) (decide_eq_true c14) ?_
                                refine awp_true (b := true) (by kernel_rfl) (rfl) ?_
                                refine awp_seq ?_
                                refine awp_region L 157 [] [] [4] [] (cs := []) (S' := ⟨[(4, .cv (.lit (.bool false)))], []⟩) (by kernel_rfl) trivial ?_
                                refine awp_ret ?_
                                have hr := Option.some.inj h
                                subst hr
                                exact .inr ⟨rfl, _, rfl, ⟨.inr rfl, .cv (.lit (.bool false)), by kernel_rfl, by kernel_rfl, trivial, by kernel_rfl⟩⟩
                              · obtain ⟨g3, h⟩ := guard_some h
                                obtain ⟨a10, h10, h⟩ := bind_some h
                                refine awp_draw L mixed 135 [(8, false)] [(18, .cv (.lit (.bool a10)))] 21 [2, 6, 7, 29, 30, 31, 109, 110, 111, 136] [0, 30, 57] (cs := [(decide ((IntKind.i64.wrap (((p1.getD (Int.toNat xt31_15h) (⟨(0 : Int), (0 : Int), (0 : Int), ([] : List api_Entry), (0 : Int)⟩ : workflowlaw52_Append))).Prev + xt111_56h)) ≥ (a5_0.Log.length : Int))) = false, (0 : Int) ≤ (IntKind.i64.wrap (((p1.getD (Int.toNat xt31_15h) (⟨(0 : Int), (0 : Int), (0 : Int), ([] : List api_Entry), (0 : Int)⟩ : workflowlaw52_Append))).Prev + xt111_56h)), ((IntKind.i64.wrap (((p1.getD (Int.toNat xt31_15h) (⟨(0 : Int), (0 : Int), (0 : Int), ([] : List api_Entry), (0 : Int)⟩ : workflowlaw52_Append))).Prev + xt111_56h)) : Int) < (a5_0.Log.length : Int), PCall V P 19 [.agg [.lit (.int .i64 (((a5_0.Log.getD (Int.toNat ((IntKind.i64.wrap (((p1.getD (Int.toNat xt31_15h) (⟨(0 : Int), (0 : Int), (0 : Int), ([] : List api_Entry), (0 : Int)⟩ : workflowlaw52_Append))).Prev + xt111_56h)))) (⟨(0 : Int), ([] : List UInt8)⟩ : api_Entry))).Epoch)), .ro Tag.t_uint8 (((a5_0.Log.getD (Int.toNat ((IntKind.i64.wrap (((p1.getD (Int.toNat xt31_15h) (⟨(0 : Int), (0 : Int), (0 : Int), ([] : List api_Entry), (0 : Int)⟩ : workflowlaw52_Append))).Prev + xt111_56h)))) (⟨(0 : Int), ([] : List UInt8)⟩ : api_Entry))).Data)], .agg [.lit (.int .i64 ((((((p1.getD (Int.toNat xt31_15h) (⟨(0 : Int), (0 : Int), (0 : Int), ([] : List api_Entry), (0 : Int)⟩ : workflowlaw52_Append))).Entries).getD (Int.toNat xt111_56h) (⟨(0 : Int), ([] : List UInt8)⟩ : api_Entry))).Epoch)), .ro Tag.t_uint8 ((((((p1.getD (Int.toNat xt31_15h) (⟨(0 : Int), (0 : Int), (0 : Int), ([] : List api_Entry), (0 : Int)⟩ : workflowlaw52_Append))).Entries).getD (Int.toNat xt111_56h) (⟨(0 : Int), ([] : List UInt8)⟩ : api_Entry))).Data)]] (.cv (.lit (.bool a10))), True]) (S' := ⟨[(2, .cv (.ptr 0 0)), (6, .cv (.ptr 30 0)), (7, .cv (.ptr 57 0)), (29, .cv (.ro Tag.t_workflowlaw52_Append p1)), (30, .cv (.lit (.int .i64 (p1.length : Int)))), (31, .cv (.lit (.int .i64 xt31_15h))), (109, .cv (.ro Tag.t_api_Entry (((p1.getD (Int.toNat xt31_15h) (⟨(0 : Int), (0 : Int), (0 : Int), ([] : List api_Entry), (0 : Int)⟩ : workflowlaw52_Append))).Entries))), (110, .cv (.lit (.int .i64 (((((p1.getD (Int.toNat xt31_15h) (⟨(0 : Int), (0 : Int), (0 : Int), ([] : List api_Entry), (0 : Int)⟩ : workflowlaw52_Append))).Entries).length : Int))))), (111, .cv (.lit (.int .i64 xt111_56h))), (136, .cv (.lit (.bool (!a10))))], [(0, .raw [.lit (.int .i64 xh0_0_15h), .lit (.int .i64 xh0_1_15h), .lit (.int .i64 xh0_2_15h), .ro Tag.t_api_Entry xh0_3_15h]), (30, .raw [.lit (.int .i64 (((p1.getD (Int.toNat xt31_15h) (⟨(0 : Int), (0 : Int), (0 : Int), ([] : List api_Entry), (0 : Int)⟩ : workflowlaw52_Append))).Epoch)), .lit (.int .i64 (((p1.getD (Int.toNat xt31_15h) (⟨(0 : Int), (0 : Int), (0 : Int), ([] : List api_Entry), (0 : Int)⟩ : workflowlaw52_Append))).Prev)), .lit (.int .i64 (((p1.getD (Int.toNat xt31_15h) (⟨(0 : Int), (0 : Int), (0 : Int), ([] : List api_Entry), (0 : Int)⟩ : workflowlaw52_Append))).PrevEpoch)), .ro Tag.t_api_Entry (((p1.getD (Int.toNat xt31_15h) (⟨(0 : Int), (0 : Int), (0 : Int), ([] : List api_Entry), (0 : Int)⟩ : workflowlaw52_Append))).Entries), .lit (.int .i64 (((p1.getD (Int.toNat xt31_15h) (⟨(0 : Int), (0 : Int), (0 : Int), ([] : List api_Entry), (0 : Int)⟩ : workflowlaw52_Append))).Commit))]), (57, .raw [.lit (.int .i64 a5_0.Epoch), .lit (.int .i64 a5_0.Vote), .lit (.int .i64 a5_0.Commit), .ro Tag.t_api_Entry a5_0.Log])]⟩) (by kernel_rfl) (And.intro (decide_eq_false c14) (And.intro g3.1 (And.intro g3.2 (And.intro (workflowref52_Agree.ok h10) trivial)))) ?_
                                rcases ite_some h with ⟨c15, h⟩ | ⟨c15, h⟩
                                · refine awp_false (b := (!a10)) (by kernel_rfl) (congrArg Bool.not (c15)) ?_
                                  refine awp_skip [2, 6, 7, 29, 30, 31, 109, 110, 111] [0, 30, 57] (S' := ⟨[(2, .cv (.ptr 0 0)), (6, .cv (.ptr 30 0)), (7, .cv (.ptr 57 0)), (29, .cv (.ro Tag.t_workflowlaw52_Append p1)), (30, .cv (.lit (.int .i64 (p1.length : Int)))), (31, .cv (.lit (.int .i64 xt31_15h))), (109, .cv (.ro Tag.t_api_Entry (((p1.getD (Int.toNat xt31_15h) (⟨(0 : Int), (0 : Int), (0 : Int), ([] : List api_Entry), (0 : Int)⟩ : workflowlaw52_Append))).Entries))), (110, .cv (.lit (.int .i64 (((((p1.getD (Int.toNat xt31_15h) (⟨(0 : Int), (0 : Int), (0 : Int), ([] : List api_Entry), (0 : Int)⟩ : workflowlaw52_Append))).Entries).length : Int))))), (111, .cv (.lit (.int .i64 xt111_56h)))], [(0, .raw [.lit (.int .i64 xh0_0_15h), .lit (.int .i64 xh0_1_15h), .lit (.int .i64 xh0_2_15h), .ro Tag.t_api_Entry xh0_3_15h]), (30, .raw [.lit (.int .i64 (((p1.getD (Int.toNat xt31_15h) (⟨(0 : Int), (0 : Int), (0 : Int), ([] : List api_Entry), (0 : Int)⟩ : workflowlaw52_Append))).Epoch)), .lit (.int .i64 (((p1.getD (Int.toNat xt31_15h) (⟨(0 : Int), (0 : Int), (0 : Int), ([] : List api_Entry), (0 : Int)⟩ : workflowlaw52_Append))).Prev)), .lit (.int .i64 (((p1.getD (Int.toNat xt31_15h) (⟨(0 : Int), (0 : Int), (0 : Int), ([] : List api_Entry), (0 : Int)⟩ : workflowlaw52_Append))).PrevEpoch)), .ro Tag.t_api_Entry (((p1.getD (Int.toNat xt31_15h) (⟨(0 : Int), (0 : Int), (0 : Int), ([] : List api_Entry), (0 : Int)⟩ : workflowlaw52_Append))).Entries), .lit (.int .i64 (((p1.getD (Int.toNat xt31_15h) (⟨(0 : Int), (0 : Int), (0 : Int), ([] : List api_Entry), (0 : Int)⟩ : workflowlaw52_Append))).Commit))]), (57, .raw [.lit (.int .i64 a5_0.Epoch), .lit (.int .i64 a5_0.Vote), .lit (.int .i64 a5_0.Commit), .ro Tag.t_api_Entry a5_0.Log])]⟩) (by kernel_rfl) ?_
                                  refine awp_region L 159 [] [] [2, 6, 7, 29, 30, 31, 109, 110, 111] [0, 30, 57] (cs := []) (S' := ⟨[(2, .cv (.ptr 0 0)), (6, .cv (.ptr 30 0)), (7, .cv (.ptr 57 0)), (29, .cv (.ro Tag.t_workflowlaw52_Append p1)), (30, .cv (.lit (.int .i64 (p1.length : Int)))), (31, .cv (.lit (.int .i64 xt31_15h))), (109, .cv (.ro Tag.t_api_Entry (((p1.getD (Int.toNat xt31_15h) (⟨(0 : Int), (0 : Int), (0 : Int), ([] : List api_Entry), (0 : Int)⟩ : workflowlaw52_Append))).Entries))), (110, .cv (.lit (.int .i64 (((((p1.getD (Int.toNat xt31_15h) (⟨(0 : Int), (0 : Int), (0 : Int), ([] : List api_Entry), (0 : Int)⟩ : workflowlaw52_Append))).Entries).length : Int))))), (111, .cv (.lit (.int .i64 ((IntKind.i64.wrap (xt111_56h + 1))))))], [(0, .raw [.lit (.int .i64 xh0_0_15h), .lit (.int .i64 xh0_1_15h), .lit (.int .i64 xh0_2_15h), .ro Tag.t_api_Entry xh0_3_15h]), (30, .raw [.lit (.int .i64 (((p1.getD (Int.toNat xt31_15h) (⟨(0 : Int), (0 : Int), (0 : Int), ([] : List api_Entry), (0 : Int)⟩ : workflowlaw52_Append))).Epoch)), .lit (.int .i64 (((p1.getD (Int.toNat xt31_15h) (⟨(0 : Int), (0 : Int), (0 : Int), ([] : List api_Entry), (0 : Int)⟩ : workflowlaw52_Append))).Prev)), .lit (.int .i64 (((p1.getD (Int.toNat xt31_15h) (⟨(0 : Int), (0 : Int), (0 : Int), ([] : List api_Entry), (0 : Int)⟩ : workflowlaw52_Append))).PrevEpoch)), .ro Tag.t_api_Entry (((p1.getD (Int.toNat xt31_15h) (⟨(0 : Int), (0 : Int), (0 : Int), ([] : List api_Entry), (0 : Int)⟩ : workflowlaw52_Append))).Entries), .lit (.int .i64 (((p1.getD (Int.toNat xt31_15h) (⟨(0 : Int), (0 : Int), (0 : Int), ([] : List api_Entry), (0 : Int)⟩ : workflowlaw52_Append))).Commit))]), (57, .raw [.lit (.int .i64 a5_0.Epoch), .lit (.int .i64 a5_0.Vote), .lit (.int .i64 a5_0.Commit), .ro Tag.t_api_Entry a5_0.Log])]⟩) (by kernel_rfl) trivial ?_
                                  exact ⟨k, Nat.lt_succ_self k, _, rfl, h⟩
                                · refine awp_true (b := (!a10)) (by kernel_rfl) (congrArg Bool.not (eq_false_of_ne_true c15)) ?_
                                  refine awp_seq ?_
                                  refine awp_region L 157 [] [] [4] [] (cs := []) (S' := ⟨[(4, .cv (.lit (.bool false)))], []⟩) (by kernel_rfl) trivial ?_
                                  refine awp_ret ?_
                                  have hr := Option.some.inj h
                                  subst hr
                                  exact .inr ⟨rfl, _, rfl, ⟨.inr rfl, .cv (.lit (.bool false)), by kernel_rfl, by kernel_rfl, trivial, by kernel_rfl⟩⟩
                            · refine awp_false (b := (decide (xt111_56h < ((((p1.getD (Int.toNat xt31_15h) (⟨(0 : Int), (0 : Int), (0 : Int), ([] : List api_Entry), (0 : Int)⟩ : workflowlaw52_Append))).Entries).length : Int)))) (by kernel_rfl) (decide_eq_false c13) ?_
                              refine awp_exit [2, 7, 29, 30, 31] [0, 57] (S' := ⟨[(2, .cv (.ptr 0 0)), (7, .cv (.ptr 57 0)), (29, .cv (.ro Tag.t_workflowlaw52_Append p1)), (30, .cv (.lit (.int .i64 (p1.length : Int)))), (31, .cv (.lit (.int .i64 xt31_15h)))], [(0, .raw [.lit (.int .i64 xh0_0_15h), .lit (.int .i64 xh0_1_15h), .lit (.int .i64 xh0_2_15h), .ro Tag.t_api_Entry xh0_3_15h]), (57, .raw [.lit (.int .i64 a5_0.Epoch), .lit (.int .i64 a5_0.Vote), .lit (.int .i64 a5_0.Commit), .ro Tag.t_api_Entry a5_0.Log])]⟩) (by kernel_rfl) ?_
                              have hr := Option.some.inj h
                              subst hr
                              exact .inl ⟨rfl, rfl, rfl⟩
                          · rintro e S (⟨rfl, rfl, rfl⟩ | ⟨rfl, a, rfl, hr⟩)
                            · rcases h with ⟨_, e1, h⟩ | ⟨_, e1, h⟩
                              · cases e1
                              · have e2 := Out.go.inj e1
                                subst e2
                                refine awp_region L 162 [] [] [2, 29, 30, 31] [0] (cs := []) (S' := ⟨[(2, .cv (.ptr 0 0)), (29, .cv (.ro Tag.t_workflowlaw52_Append p1)), (30, .cv (.lit (.int .i64 (p1.length : Int)))), (31, .cv (.lit (.int .i64 xt31_15h)))], [(0, .raw [.lit (.int .i64 a5_0.Epoch), .lit (.int .i64 a5_0.Vote), .lit (.int .i64 a5_0.Commit), .ro Tag.t_api_Entry a5_0.Log])]⟩) (by kernel_rfl) trivial ?_
                                refine awp_region L 165 [] [] [2, 29, 30, 31] [0] (cs := []) (S' := ⟨[(2, .cv (.ptr 0 0)), (29, .cv (.ro Tag.t_workflowlaw52_Append p1)), (30, .cv (.lit (.int .i64 (p1.length : Int)))), (31, .cv (.lit (.int .i64 ((IntKind.i64.wrap (xt31_15h + 1))))))], [(0, .raw [.lit (.int .i64 a5_0.Epoch), .lit (.int .i64 a5_0.Vote), .lit (.int .i64 a5_0.Commit), .ro Tag.t_api_Entry a5_0.Log])]⟩) (by kernel_rfl) trivial ?_
                                exact ⟨k, Nat.lt_succ_self k, _, _, _, _, _, rfl, h⟩
                            · rcases h with ⟨_, e1, h⟩ | ⟨_, e1, h⟩
                              · have e2 := Out.done.inj e1
                                subst e2
                                subst h
                                exact .inr ⟨rfl, _, rfl, hr⟩
                              · cases e1
                  · refine awp_draw L mixed 83 [(2, false), (8, false), (13, true)] [(5, .cv (.lit (.bool a7))), (10, .cv (.lit (.bool a8)))] 35 [2, 6, 7, 29, 30, 31, 107] [0, 30, 57] (cs := [(decide (a6_1 ≠ 0)) = false, PCall V P 16 [.agg [.lit (.int .i64 a5_0.Epoch), .lit (.int .i64 a5_0.Vote), .lit (.int .i64 a5_0.Commit), .ro Tag.t_api_Entry a5_0.Log], .agg [.lit (.int .i64 a6_0.Epoch), .lit (.int .i64 a6_0.Vote), .lit (.int .i64 a6_0.Commit), .ro Tag.t_api_Entry a6_0.Log]] (.cv (.lit (.bool a7))), True, (!a7) = false, PCall V P 17 [.agg [.lit (.int .i64 a5_0.Epoch), .lit (.int .i64 a5_0.Vote), .lit (.int .i64 a5_0.Commit), .ro Tag.t_api_Entry a5_0.Log]] (.cv (.lit (.bool a8))), True, (!a8) = true]) (S' := ⟨[(2, .cv (.ptr 0 0)), (6, .cv (.ptr 30 0)), (7, .cv (.ptr 57 0)), (29, .cv (.ro Tag.t_workflowlaw52_Append p1)), (30, .cv (.lit (.int .i64 (p1.length : Int)))), (31, .cv (.lit (.int .i64 xt31_15h))), (107, .cv (.lit (.bool true)))], [(0, .raw [.lit (.int .i64 xh0_0_15h), .lit (.int .i64 xh0_1_15h), .lit (.int .i64 xh0_2_15h), .ro Tag.t_api_Entry xh0_3_15h]), (30, .raw [.lit (.int .i64 (((p1.getD (Int.toNat xt31_15h) (⟨(0 : Int), (0 : Int), (0 : Int), ([] : List api_Entry), (0 : Int)⟩ : workflowlaw52_Append))).Epoch)), .lit (.int .i64 (((p1.getD (Int.toNat xt31_15h) (⟨(0 : Int), (0 : Int), (0 : Int), ([] : List api_Entry), (0 : Int)⟩ : workflowlaw52_Append))).Prev)), .lit (.int .i64 (((p1.getD (Int.toNat xt31_15h) (⟨(0 : Int), (0 : Int), (0 : Int), ([] : List api_Entry), (0 : Int)⟩ : workflowlaw52_Append))).PrevEpoch)), .ro Tag.t_api_Entry (((p1.getD (Int.toNat xt31_15h) (⟨(0 : Int), (0 : Int), (0 : Int), ([] : List api_Entry), (0 : Int)⟩ : workflowlaw52_Append))).Entries), .lit (.int .i64 (((p1.getD (Int.toNat xt31_15h) (⟨(0 : Int), (0 : Int), (0 : Int), ([] : List api_Entry), (0 : Int)⟩ : workflowlaw52_Append))).Commit))]), (57, .raw [.lit (.int .i64 a5_0.Epoch), .lit (.int .i64 a5_0.Vote), .lit (.int .i64 a5_0.Commit), .ro Tag.t_api_Entry a5_0.Log])]⟩) (by kernel_rfl) (And.intro (decide_eq_false c7) (And.intro (workflowref52_Same.ok h7) (And.intro trivial (And.intro (congrArg Bool.not (c8)) (And.intro (workflowref52_Right.ok h8) (And.intro trivial (congrArg Bool.not (eq_false_of_ne_true c9)))))))) ?_
                    refine awp_true (b := true) (by kernel_rfl) (rfl) ?_
                    refine awp_seq ?_
                    refine awp_region L 119 [] [] [4] [] (cs := []) (S' := ⟨[(4, .cv (.lit (.bool false)))], []⟩) (by kernel_rfl) trivial ?_
                    refine awp_ret ?_
                    have hr := Option.some.inj h
                    subst hr
                    exact .inr ⟨rfl, _, rfl, ⟨.inr rfl, .cv (.lit (.bool false)), by kernel_rfl, by kernel_rfl, trivial, by kernel_rfl⟩⟩
                · refine awp_draw L mixed 83 [(2, false), (8, true)] [(5, .cv (.lit (.bool a7)))] 35 [2, 6, 7, 29, 30, 31, 107] [0, 30, 57] (cs := [(decide (a6_1 ≠ 0)) = false, PCall V P 16 [.agg [.lit (.int .i64 a5_0.Epoch), .lit (.int .i64 a5_0.Vote), .lit (.int .i64 a5_0.Commit), .ro Tag.t_api_Entry a5_0.Log], .agg [.lit (.int .i64 a6_0.Epoch), .lit (.int .i64 a6_0.Vote), .lit (.int .i64 a6_0.Commit), .ro Tag.t_api_Entry a6_0.Log]] (.cv (.lit (.bool a7))), True, (!a7) = true]) (S' := ⟨[(2, .cv (.ptr 0 0)), (6, .cv (.ptr 30 0)), (7, .cv (.ptr 57 0)), (29, .cv (.ro Tag.t_workflowlaw52_Append p1)), (30, .cv (.lit (.int .i64 (p1.length : Int)))), (31, .cv (.lit (.int .i64 xt31_15h))), (107, .cv (.lit (.bool true)))], [(0, .raw [.lit (.int .i64 xh0_0_15h), .lit (.int .i64 xh0_1_15h), .lit (.int .i64 xh0_2_15h), .ro Tag.t_api_Entry xh0_3_15h]), (30, .raw [.lit (.int .i64 (((p1.getD (Int.toNat xt31_15h) (⟨(0 : Int), (0 : Int), (0 : Int), ([] : List api_Entry), (0 : Int)⟩ : workflowlaw52_Append))).Epoch)), .lit (.int .i64 (((p1.getD (Int.toNat xt31_15h) (⟨(0 : Int), (0 : Int), (0 : Int), ([] : List api_Entry), (0 : Int)⟩ : workflowlaw52_Append))).Prev)), .lit (.int .i64 (((p1.getD (Int.toNat xt31_15h) (⟨(0 : Int), (0 : Int), (0 : Int), ([] : List api_Entry), (0 : Int)⟩ : workflowlaw52_Append))).PrevEpoch)), .ro Tag.t_api_Entry (((p1.getD (Int.toNat xt31_15h) (⟨(0 : Int), (0 : Int), (0 : Int), ([] : List api_Entry), (0 : Int)⟩ : workflowlaw52_Append))).Entries), .lit (.int .i64 (((p1.getD (Int.toNat xt31_15h) (⟨(0 : Int), (0 : Int), (0 : Int), ([] : List api_Entry), (0 : Int)⟩ : workflowlaw52_Append))).Commit))]), (57, .raw [.lit (.int .i64 a5_0.Epoch), .lit (.int .i64 a5_0.Vote), .lit (.int .i64 a5_0.Commit), .ro Tag.t_api_Entry a5_0.Log])]⟩) (by kernel_rfl) (And.intro (decide_eq_false c7) (And.intro (workflowref52_Same.ok h7) (And.intro trivial (congrArg Bool.not (eq_false_of_ne_true c8))))) ?_
                  refine awp_true (b := true) (by kernel_rfl) (rfl) ?_
                  refine awp_seq ?_
                  refine awp_region L 119 [] [] [4] [] (cs := []) (S' := ⟨[(4, .cv (.lit (.bool false)))], []⟩) (by kernel_rfl) trivial ?_
                  refine awp_ret ?_
                  have hr := Option.some.inj h
                  subst hr
                  exact .inr ⟨rfl, _, rfl, ⟨.inr rfl, .cv (.lit (.bool false)), by kernel_rfl, by kernel_rfl, trivial, by kernel_rfl⟩⟩
          · refine awp_true (b := (!a4)) (by kernel_rfl) (congrArg Bool.not (eq_false_of_ne_true c5)) ?_
            refine awp_seq ?_
            obtain ⟨a11, h11, h⟩ := bind_some h
            refine awp_region L 39 [] [(0, .cv (.lit (.bool a11)))] [4] [] (cs := [PCall V P 13 [] (.cv (.lit (.bool a11))), True]) (S' := ⟨[(4, .cv (.lit (.bool a11)))], []⟩) (by kernel_rfl) (And.intro (workflowlaw52_works.ok h11) trivial) ?_
            refine awp_ret ?_
            have hr := Option.some.inj h
            subst hr
            exact .inr ⟨rfl, _, rfl, ⟨.inr rfl, .cv (.lit (.bool a11)), by kernel_rfl, by kernel_rfl, trivial, by kernel_rfl⟩⟩
        · refine awp_false (b := (decide (xt31_15h < (p1.length : Int)))) (by kernel_rfl) (decide_eq_false c4) ?_
          refine awp_exit [] [] (S' := ⟨[], []⟩) (by kernel_rfl) ?_
          have hr := Option.some.inj h
          subst hr
          exact .inl ⟨rfl, rfl, rfl⟩
      · rintro e S (⟨rfl, rfl, rfl⟩ | ⟨rfl, a, rfl, hr⟩)
        · rcases h with ⟨_, e1, h⟩ | ⟨_, e1, h⟩
          · cases e1
          · have e2 := Out.go.inj e1
            subst e2
            refine awp_seq ?_
            obtain ⟨a12, h12, h⟩ := bind_some h
            refine awp_region L 168 [] [(0, .cv (.lit (.bool a12)))] [4] [] (cs := [PCall V P 13 [] (.cv (.lit (.bool a12))), True]) (S' := ⟨[(4, .cv (.lit (.bool a12)))], []⟩) (by kernel_rfl) (And.intro (workflowlaw52_works.ok h12) trivial) ?_
            refine awp_ret ?_
            have hr := Option.some.inj h
            subst hr
            exact ⟨.inr rfl, .cv (.lit (.bool a12)), by kernel_rfl, by kernel_rfl, trivial, by kernel_rfl⟩
        · rcases h with ⟨_, e1, h⟩ | ⟨_, e1, h⟩
          · have e2 := Out.done.inj e1
            subst e2
            subst h
            exact hr
          · cases e1

theorem workflowlaw52_ReplogKeeps.ok {K : Nat} {p0 : api_Replica} {p1 : List workflowlaw52_Append} {r : Bool} (h : workflowlaw52_ReplogKeeps K p0 p1 = some r) : PCall V P 4 [.agg [.lit (.int .i64 p0.Epoch), .lit (.int .i64 p0.Vote), .lit (.int .i64 p0.Commit), .ro Tag.t_api_Entry p0.Log], .cv (.ro Tag.t_workflowlaw52_Append p1)] (.cv (.lit (.bool r))) :=
  pcall_of (fn := Try.f4) (n := 141) (by kernel_rfl) (by kernel_rfl) (by kernel_rfl) rfl (by kernel_rfl) (by kernel_rfl) fun Γ => workflowlaw52_ReplogKeeps.body h

def replog_Lead (K : Nat) (p0 : api_Replica) (p1 : Int) (p2 : List UInt8) : Option (api_Replica × Int) := (Option.bind (((Option.bind (replog_Right K p0) (fun a1 => (if a1 = true then some ((decide (p1 < 1))) else some true)))) : Option Bool) (fun xt8_5 => (if xt8_5 = true then some (((⟨0, 0, 0, ([] : List api_Entry)⟩ : api_Replica), 2)) else (if (p2.length : Int) > 65536 then some (((⟨0, 0, 0, ([] : List api_Entry)⟩ : api_Replica), 6)) else (if p1 ≠ p0.Epoch then some (((⟨0, 0, 0, ([] : List api_Entry)⟩ : api_Replica), 25)) else (if (p0.Log.length : Int) ≥ 5000 then some (((⟨0, 0, 0, ([] : List api_Entry)⟩ : api_Replica), 18)) else (Option.bind (replog_entries K p0.Log) (fun a2 => (Option.bind (bytes_Clone K p2) (fun a3 => (if (a2.length + (([(⟨p1, a3⟩ : api_Entry)] : List api_Entry)).length) * 32 ≤ 140737488355328 then some (((⟨p0.Epoch, p0.Vote, p0.Commit, (a2 ++ ([(⟨p1, a3⟩ : api_Entry)] : List api_Entry))⟩ : api_Replica), 0)) else none)))))))))))

theorem replog_Lead.body {Γ : Ent} {K : Nat} {p0 : api_Replica} {p1 : Int} {p2 : List UInt8} {r : api_Replica × Int} (h : replog_Lead K p0 p1 p2 = some r) : AWp V P 45 0 Γ (Try.f20.body.getD .skip) (Eng.Ends P V Try.f20 (.tup [.agg [.lit (.int .i64 r.1.Epoch), .lit (.int .i64 r.1.Vote), .lit (.int .i64 r.1.Commit), .ro Tag.t_api_Entry r.1.Log], .cv (.lit (.int .i64 r.2))])) ⟨args0 0 [.agg [.lit (.int .i64 p0.Epoch), .lit (.int .i64 p0.Vote), .lit (.int .i64 p0.Commit), .ro Tag.t_api_Entry p0.Log], .cv (.lit (.int .i64 p1)), .cv (.ro Tag.t_uint8 p2)], []⟩ := by
  unfold replog_Lead at h
  refine awp_seq ?_
  refine awp_region L 0 [] [] [1, 2, 3, 6] [0, 1] (cs := []) (S' := ⟨[(1, .cv (.lit (.int .i64 p1))), (2, .cv (.ro Tag.t_uint8 p2)), (3, .cv (.ptr 0 0)), (6, .cv (.ptr 1 0))], [(0, .raw [.lit (.int .i64 p0.Epoch), .lit (.int .i64 p0.Vote), .lit (.int .i64 p0.Commit), .ro Tag.t_api_Entry p0.Log]), (1, .raw [.lit (.int .i64 0), .lit (.int .i64 0), .lit (.int .i64 0), .lit (.slice none 0 0)])]⟩) (by kernel_rfl) trivial ?_
  refine awp_seq ?_
  refine awp_block ?_
  obtain ⟨o1, hp1, h⟩ := bind_some h
  refine awp_seq (awp_mono (Q' := fun e S => (e = .normal ∧ ∃ xt8_5 : Bool, S = ⟨[(1, .cv (.lit (.int .i64 p1))), (2, .cv (.ro Tag.t_uint8 p2)), (3, .cv (.ptr 0 0)), (6, .cv (.ptr 1 0)), (8, .cv (.lit (.bool xt8_5)))], [(0, .raw [.lit (.int .i64 p0.Epoch), .lit (.int .i64 p0.Vote), .lit (.int .i64 p0.Commit), .ro Tag.t_api_Entry p0.Log]), (1, .raw [.lit (.int .i64 0), .lit (.int .i64 0), .lit (.int .i64 0), .lit (.slice none 0 0)])]⟩ ∧ xt8_5 = o1)) ?_ ?_)
  · clear h
    replace h := hp1
    obtain ⟨a1, h1, h⟩ := bind_some h
    rcases ite_some h with ⟨c1, h⟩ | ⟨c1, h⟩
    · refine awp_region L 4 [(3, false)] [(1, .cv (.lit (.bool a1)))] [1, 2, 3, 6, 8] [0, 1] (cs := [PCall V P 28 [.agg [.lit (.int .i64 p0.Epoch), .lit (.int .i64 p0.Vote), .lit (.int .i64 p0.Commit), .ro Tag.t_api_Entry p0.Log]] (.cv (.lit (.bool a1))), True, (!a1) = false]) (S' := ⟨[(1, .cv (.lit (.int .i64 p1))), (2, .cv (.ro Tag.t_uint8 p2)), (3, .cv (.ptr 0 0)), (6, .cv (.ptr 1 0)), (8, .cv (.lit (.bool ((decide (p1 < 1))))))], [(0, .raw [.lit (.int .i64 p0.Epoch), .lit (.int .i64 p0.Vote), .lit (.int .i64 p0.Commit), .ro Tag.t_api_Entry p0.Log]), (1, .raw [.lit (.int .i64 0), .lit (.int .i64 0), .lit (.int .i64 0), .lit (.slice none 0 0)])]⟩) (by kernel_rfl) (And.intro (replog_Right.ok h1) (And.intro trivial (congrArg Bool.not (c1)))) ?_
      have hr := Option.some.inj h
      subst hr
      exact ⟨rfl, _, rfl, rfl⟩
    · refine awp_region L 4 [(3, true)] [(1, .cv (.lit (.bool a1)))] [1, 2, 3, 6, 8] [0, 1] (cs := [PCall V P 28 [.agg [.lit (.int .i64 p0.Epoch), .lit (.int .i64 p0.Vote), .lit (.int .i64 p0.Commit), .ro Tag.t_api_Entry p0.Log]] (.cv (.lit (.bool a1))), True, (!a1) = true]) (S' := ⟨[(1, .cv (.lit (.int .i64 p1))), (2, .cv (.ro Tag.t_uint8 p2)), (3, .cv (.ptr 0 0)), (6, .cv (.ptr 1 0)), (8, .cv (.lit (.bool true)))], [(0, .raw [.lit (.int .i64 p0.Epoch), .lit (.int .i64 p0.Vote), .lit (.int .i64 p0.Commit), .ro Tag.t_api_Entry p0.Log]), (1, .raw [.lit (.int .i64 0), .lit (.int .i64 0), .lit (.int .i64 0), .lit (.slice none 0 0)])]⟩) (by kernel_rfl) (And.intro (replog_Right.ok h1) (And.intro trivial (congrArg Bool.not (eq_false_of_ne_true c1)))) ?_
      have hr := Option.some.inj h
      subst hr
      exact ⟨rfl, _, rfl, rfl⟩
  · rintro e S ⟨rfl, xt8_5, rfl, rfl⟩
    rcases ite_some h with ⟨c2, h⟩ | ⟨c2, h⟩
    · refine awp_true (b := xt8_5) (by kernel_rfl) (c2) ?_
      refine awp_seq ?_
      refine awp_region L 13 [] [] [6, 7] [1] (cs := []) (S' := ⟨[(6, .cv (.ptr 1 0)), (7, .cv (.lit (.int .i64 2)))], [(1, .raw [.lit (.int .i64 0), .lit (.int .i64 0), .lit (.int .i64 0), .lit (.slice none 0 0)])]⟩) (by kernel_rfl) trivial ?_
      refine awp_ret ?_
      have hr := Option.some.inj h
      subst hr
      exact ⟨.inr rfl, .tup [.agg [.lit (.int .i64 0), .lit (.int .i64 0), .lit (.int .i64 0), .lit (.slice none 0 0)], .cv (.lit (.int .i64 2))], by kernel_rfl, by kernel_rfl, trivial, by kernel_rfl⟩
    · refine awp_false (b := xt8_5) (by kernel_rfl) (eq_false_of_ne_true c2) ?_
      refine awp_seq ?_
      refine awp_region L 17 [] [] [1, 2, 3, 6, 17] [0, 1] (cs := []) (S' := ⟨[(1, .cv (.lit (.int .i64 p1))), (2, .cv (.ro Tag.t_uint8 p2)), (3, .cv (.ptr 0 0)), (6, .cv (.ptr 1 0)), (17, .cv (.lit (.bool ((decide ((p2.length : Int) > 65536))))))], [(0, .raw [.lit (.int .i64 p0.Epoch), .lit (.int .i64 p0.Vote), .lit (.int .i64 p0.Commit), .ro Tag.t_api_Entry p0.Log]), (1, .raw [.lit (.int .i64 0), .lit (.int .i64 0), .lit (.int .i64 0), .lit (.slice none 0 0)])]⟩) (by kernel_rfl) trivial ?_
      rcases ite_some h with ⟨c3, h⟩ | ⟨c3, h⟩
      · refine awp_true (b := (decide ((p2.length : Int) > 65536))) (by kernel_rfl) (decide_eq_true c3) ?_
        refine awp_seq ?_
        refine awp_region L 22 [] [] [6, 7] [1] (cs := []) (S' := ⟨[(6, .cv (.ptr 1 0)), (7, .cv (.lit (.int .i64 6)))], [(1, .raw [.lit (.int .i64 0), .lit (.int .i64 0), .lit (.int .i64 0), .lit (.slice none 0 0)])]⟩) (by kernel_rfl) trivial ?_
        refine awp_ret ?_
        have hr := Option.some.inj h
        subst hr
        exact ⟨.inr rfl, .tup [.agg [.lit (.int .i64 0), .lit (.int .i64 0), .lit (.int .i64 0), .lit (.slice none 0 0)], .cv (.lit (.int .i64 6))], by kernel_rfl, by kernel_rfl, trivial, by kernel_rfl⟩
      · refine awp_false (b := (decide ((p2.length : Int) > 65536))) (by kernel_rfl) (decide_eq_false c3) ?_
        refine awp_seq ?_
        refine awp_region L 26 [] [] [1, 2, 3, 6, 22] [0, 1] (cs := []) (S' := ⟨[(1, .cv (.lit (.int .i64 p1))), (2, .cv (.ro Tag.t_uint8 p2)), (3, .cv (.ptr 0 0)), (6, .cv (.ptr 1 0)), (22, .cv (.lit (.bool ((decide (p1 ≠ p0.Epoch))))))], [(0, .raw [.lit (.int .i64 p0.Epoch), .lit (.int .i64 p0.Vote), .lit (.int .i64 p0.Commit), .ro Tag.t_api_Entry p0.Log]), (1, .raw [.lit (.int .i64 0), .lit (.int .i64 0), .lit (.int .i64 0), .lit (.slice none 0 0)])]⟩) (by kernel_rfl) trivial ?_
        rcases ite_some h with ⟨c4, h⟩ | ⟨c4, h⟩
        · refine awp_true (b := (decide (p1 ≠ p0.Epoch))) (by kernel_rfl) (decide_eq_true c4) ?_
          refine awp_seq ?_
          refine awp_region L 32 [] [] [6, 7] [1] (cs := []) (S' := ⟨[(6, .cv (.ptr 1 0)), (7, .cv (.lit (.int .i64 25)))], [(1, .raw [.lit (.int .i64 0), .lit (.int .i64 0), .lit (.int .i64 0), .lit (.slice none 0 0)])]⟩) (by kernel_rfl) trivial ?_
          refine awp_ret ?_
          have hr := Option.some.inj h
          subst hr
          exact ⟨.inr rfl, .tup [.agg [.lit (.int .i64 0), .lit (.int .i64 0), .lit (.int .i64 0), .lit (.slice none 0 0)], .cv (.lit (.int .i64 25))], by kernel_rfl, by kernel_rfl, trivial, by kernel_rfl⟩
        · refine awp_false (b := (decide (p1 ≠ p0.Epoch))) (by kernel_rfl) (decide_eq_false c4) ?_
          refine awp_seq ?_
          refine awp_region L 36 [] [] [1, 2, 3, 6, 28] [0, 1] (cs := []) (S' := ⟨[(1, .cv (.lit (.int .i64 p1))), (2, .cv (.ro Tag.t_uint8 p2)), (3, .cv (.ptr 0 0)), (6, .cv (.ptr 1 0)), (28, .cv (.lit (.bool ((decide ((p0.Log.length : Int) ≥ 5000))))))], [(0, .raw [.lit (.int .i64 p0.Epoch), .lit (.int .i64 p0.Vote), .lit (.int .i64 p0.Commit), .ro Tag.t_api_Entry p0.Log]), (1, .raw [.lit (.int .i64 0), .lit (.int .i64 0), .lit (.int .i64 0), .lit (.slice none 0 0)])]⟩) (by kernel_rfl) trivial ?_
          rcases ite_some h with ⟨c5, h⟩ | ⟨c5, h⟩
          · refine awp_true (b := (decide ((p0.Log.length : Int) ≥ 5000))) (by kernel_rfl) (decide_eq_true c5) ?_
            refine awp_seq ?_
            refine awp_region L 42 [] [] [6, 7] [1] (cs := []) (S' := ⟨[(6, .cv (.ptr 1 0)), (7, .cv (.lit (.int .i64 18)))], [(1, .raw [.lit (.int .i64 0), .lit (.int .i64 0), .lit (.int .i64 0), .lit (.slice none 0 0)])]⟩) (by kernel_rfl) trivial ?_
            refine awp_ret ?_
            have hr := Option.some.inj h
            subst hr
            exact ⟨.inr rfl, .tup [.agg [.lit (.int .i64 0), .lit (.int .i64 0), .lit (.int .i64 0), .lit (.slice none 0 0)], .cv (.lit (.int .i64 18))], by kernel_rfl, by kernel_rfl, trivial, by kernel_rfl⟩
          · refine awp_false (b := (decide ((p0.Log.length : Int) ≥ 5000))) (by kernel_rfl) (decide_eq_false c5) ?_
            refine awp_skip [1, 2, 3, 6] [0, 1] (S' := ⟨[(1, .cv (.lit (.int .i64 p1))), (2, .cv (.ro Tag.t_uint8 p2)), (3, .cv (.ptr 0 0)), (6, .cv (.ptr 1 0))], [(0, .raw [.lit (.int .i64 p0.Epoch), .lit (.int .i64 p0.Vote), .lit (.int .i64 p0.Commit), .ro Tag.t_api_Entry p0.Log]), (1, .raw [.lit (.int .i64 0), .lit (.int .i64 0), .lit (.int .i64 0), .lit (.slice none 0 0)])]⟩) (by kernel_rfl) ?_
            refine awp_seq ?_
            obtain ⟨a2, h2, h⟩ := bind_some h
            obtain ⟨a3, h3, h⟩ := bind_some h
            obtain ⟨g1, h⟩ := guard_some h
            refine awp_region L 46 [] [(2, .cv (.ron Tag.t_api_Entry a2)), (5, .cv (.ro Tag.t_uint8 a3))] [3, 6] [0, 1, 48] (cs := [FCall V P 42 [.cv (.ro Tag.t_api_Entry p0.Log)] Tag.t_api_Entry a2, PCall V P 45 [.cv (.ro Tag.t_uint8 p2)] (.cv (.ro Tag.t_uint8 a3)), True, (a2.length + (([(⟨p1, a3⟩ : api_Entry)] : List api_Entry)).length) * 32 ≤ 140737488355328, True]) (S' := ⟨[(3, .cv (.ptr 0 0)), (6, .cv (.ptr 1 0))], [(0, .raw [.lit (.int .i64 p0.Epoch), .lit (.int .i64 p0.Vote), .lit (.int .i64 p0.Commit), .own Tag.t_api_Entry 48]), (1, .raw [.lit (.int .i64 0), .lit (.int .i64 0), .lit (.int .i64 0), .lit (.slice none 0 0)]), (48, .lst Tag.t_api_Entry ((a2 ++ ([(⟨p1, a3⟩ : api_Entry)] : List api_Entry))))]⟩) (by kernel_rfl) (And.intro (replog_entries.okF h2) (And.intro (bytes_Clone.ok h3) (And.intro trivial (And.intro g1 trivial)))) ?_
            refine awp_seq ?_
            refine awp_region L 58 [] [] [6, 7] [1, 48] (cs := []) (S' := ⟨[(6, .cv (.ptr 1 0)), (7, .cv (.lit (.int .i64 0)))], [(1, .raw [.lit (.int .i64 p0.Epoch), .lit (.int .i64 p0.Vote), .lit (.int .i64 p0.Commit), .own Tag.t_api_Entry 48]), (48, .lst Tag.t_api_Entry ((a2 ++ ([(⟨p1, a3⟩ : api_Entry)] : List api_Entry))))]⟩) (by kernel_rfl) trivial ?_
            refine awp_ret ?_
            have hr := Option.some.inj h
            subst hr
            exact ⟨.inr rfl, .tup [.agg [.lit (.int .i64 p0.Epoch), .lit (.int .i64 p0.Vote), .lit (.int .i64 p0.Commit), .own Tag.t_api_Entry 48], .cv (.lit (.int .i64 0))], by kernel_rfl, by kernel_rfl, trivial, by kernel_rfl⟩

theorem replog_Lead.ok {K : Nat} {p0 : api_Replica} {p1 : Int} {p2 : List UInt8} {r : api_Replica × Int} (h : replog_Lead K p0 p1 p2 = some r) : PCall V P 20 [.agg [.lit (.int .i64 p0.Epoch), .lit (.int .i64 p0.Vote), .lit (.int .i64 p0.Commit), .ro Tag.t_api_Entry p0.Log], .cv (.lit (.int .i64 p1)), .cv (.ro Tag.t_uint8 p2)] (.tup [.agg [.lit (.int .i64 r.1.Epoch), .lit (.int .i64 r.1.Vote), .lit (.int .i64 r.1.Commit), .ro Tag.t_api_Entry r.1.Log], .cv (.lit (.int .i64 r.2))]) :=
  pcall_of (fn := Try.f20) (n := 45) (by kernel_rfl) (by kernel_rfl) (by kernel_rfl) rfl (by kernel_rfl) (by kernel_rfl) fun Γ => replog_Lead.body h

def workflowref52_Lead (K : Nat) (p0 : api_Replica) (p1 : Int) (p2 : List UInt8) : Option (api_Replica × Int) := (Option.bind (workflowref52_Right K p0) (fun a1 => (if a1 = true then (if p1 < 1 then some (((⟨0, 0, 0, ([] : List api_Entry)⟩ : api_Replica), 2)) else (if (p2.length : Int) > 65536 then some (((⟨0, 0, 0, ([] : List api_Entry)⟩ : api_Replica), 6)) else (if p1 ≠ p0.Epoch then some (((⟨0, 0, 0, ([] : List api_Entry)⟩ : api_Replica), 25)) else (if (p0.Log.length : Int) ≥ 5000 then some (((⟨0, 0, 0, ([] : List api_Entry)⟩ : api_Replica), 18)) else (if p0.Log.length * 32 ≤ 140737488355328 then (if (p0.Log.length + (([(⟨p1, p2⟩ : api_Entry)] : List api_Entry)).length) * 32 ≤ 140737488355328 then some (((⟨p0.Epoch, p0.Vote, p0.Commit, (p0.Log ++ ([(⟨p1, p2⟩ : api_Entry)] : List api_Entry))⟩ : api_Replica), 0)) else none) else none))))) else some (((⟨0, 0, 0, ([] : List api_Entry)⟩ : api_Replica), 2)))))

theorem workflowref52_Lead.body {Γ : Ent} {K : Nat} {p0 : api_Replica} {p1 : Int} {p2 : List UInt8} {r : api_Replica × Int} (h : workflowref52_Lead K p0 p1 p2 = some r) : AWp V P 53 0 Γ (Try.f21.body.getD .skip) (Eng.Ends P V Try.f21 (.tup [.agg [.lit (.int .i64 r.1.Epoch), .lit (.int .i64 r.1.Vote), .lit (.int .i64 r.1.Commit), .ro Tag.t_api_Entry r.1.Log], .cv (.lit (.int .i64 r.2))])) ⟨args0 0 [.agg [.lit (.int .i64 p0.Epoch), .lit (.int .i64 p0.Vote), .lit (.int .i64 p0.Commit), .ro Tag.t_api_Entry p0.Log], .cv (.lit (.int .i64 p1)), .cv (.ro Tag.t_uint8 p2)], []⟩ := by
  unfold workflowref52_Lead at h
  refine awp_seq ?_
  refine awp_region L 0 [] [] [1, 2, 3, 6] [0, 1] (cs := []) (S' := ⟨[(1, .cv (.lit (.int .i64 p1))), (2, .cv (.ro Tag.t_uint8 p2)), (3, .cv (.ptr 0 0)), (6, .cv (.ptr 1 0))], [(0, .raw [.lit (.int .i64 p0.Epoch), .lit (.int .i64 p0.Vote), .lit (.int .i64 p0.Commit), .ro Tag.t_api_Entry p0.Log]), (1, .raw [.lit (.int .i64 0), .lit (.int .i64 0), .lit (.int .i64 0), .lit (.slice none 0 0)])]⟩) (by kernel_rfl) trivial ?_
  refine awp_seq ?_
  refine awp_seq ?_
  obtain ⟨a1, h1, h⟩ := bind_some h
  rcases ite_some h with ⟨c1, h⟩ | ⟨c1, h⟩
  · refine awp_region L 4 [(3, false)] [(1, .cv (.lit (.bool a1)))] [1, 2, 3, 6, 15] [0, 1] (cs := [PCall V P 17 [.agg [.lit (.int .i64 p0.Epoch), .lit (.int .i64 p0.Vote), .lit (.int .i64 p0.Commit), .ro Tag.t_api_Entry p0.Log]] (.cv (.lit (.bool a1))), True, (!a1) = false]) (S' := ⟨[(1, .cv (.lit (.int .i64 p1))), (2, .cv (.ro Tag.t_uint8 p2)), (3, .cv (.ptr 0 0)), (6, .cv (.ptr 1 0)), (15, .cv (.lit (.bool ((decide (p1 < 1))))))], [(0, .raw [.lit (.int .i64 p0.Epoch), .lit (.int .i64 p0.Vote), .lit (.int .i64 p0.Commit), .ro Tag.t_api_Entry p0.Log]), (1, .raw [.lit (.int .i64 0), .lit (.int .i64 0), .lit (.int .i64 0), .lit (.slice none 0 0)])]⟩) (by kernel_rfl) (And.intro (workflowref52_Right.ok h1) (And.intro trivial (congrArg Bool.not (c1)))) ?_
    rcases ite_some h with ⟨c2, h⟩ | ⟨c2, h⟩
    · refine awp_true (b := (decide (p1 < 1))) (by kernel_rfl) (decide_eq_true c2) ?_
      refine awp_seq ?_
      refine awp_region L 12 [] [] [6, 7] [1] (cs := []) (S' := ⟨[(6, .cv (.ptr 1 0)), (7, .cv (.lit (.int .i64 2)))], [(1, .raw [.lit (.int .i64 0), .lit (.int .i64 0), .lit (.int .i64 0), .lit (.slice none 0 0)])]⟩) (by kernel_rfl) trivial ?_
      refine awp_ret ?_
      have hr := Option.some.inj h
      subst hr
      exact ⟨.inr rfl, .tup [.agg [.lit (.int .i64 0), .lit (.int .i64 0), .lit (.int .i64 0), .lit (.slice none 0 0)], .cv (.lit (.int .i64 2))], by kernel_rfl, by kernel_rfl, trivial, by kernel_rfl⟩
    · refine awp_false (b := (decide (p1 < 1))) (by kernel_rfl) (decide_eq_false c2) ?_
      refine awp_skip [1, 2, 3, 6] [0, 1] (S' := ⟨[(1, .cv (.lit (.int .i64 p1))), (2, .cv (.ro Tag.t_uint8 p2)), (3, .cv (.ptr 0 0)), (6, .cv (.ptr 1 0))], [(0, .raw [.lit (.int .i64 p0.Epoch), .lit (.int .i64 p0.Vote), .lit (.int .i64 p0.Commit), .ro Tag.t_api_Entry p0.Log]), (1, .raw [.lit (.int .i64 0), .lit (.int .i64 0), .lit (.int .i64 0), .lit (.slice none 0 0)])]⟩) (by kernel_rfl) ?_
      refine awp_seq ?_
      refine awp_seq ?_
      refine awp_region L 16 [] [] [1, 2, 3, 6, 19] [0, 1] (cs := []) (S' := ⟨[(1, .cv (.lit (.int .i64 p1))), (2, .cv (.ro Tag.t_uint8 p2)), (3, .cv (.ptr 0 0)), (6, .cv (.ptr 1 0)), (19, .cv (.lit (.bool ((decide ((p2.length : Int) > 65536))))))], [(0, .raw [.lit (.int .i64 p0.Epoch), .lit (.int .i64 p0.Vote), .lit (.int .i64 p0.Commit), .ro Tag.t_api_Entry p0.Log]), (1, .raw [.lit (.int .i64 0), .lit (.int .i64 0), .lit (.int .i64 0), .lit (.slice none 0 0)])]⟩) (by kernel_rfl) trivial ?_
      rcases ite_some h with ⟨c3, h⟩ | ⟨c3, h⟩
      · refine awp_true (b := (decide ((p2.length : Int) > 65536))) (by kernel_rfl) (decide_eq_true c3) ?_
        refine awp_seq ?_
        refine awp_region L 20 [] [] [6, 7] [1] (cs := []) (S' := ⟨[(6, .cv (.ptr 1 0)), (7, .cv (.lit (.int .i64 6)))], [(1, .raw [.lit (.int .i64 0), .lit (.int .i64 0), .lit (.int .i64 0), .lit (.slice none 0 0)])]⟩) (by kernel_rfl) trivial ?_
        refine awp_ret ?_
        have hr := Option.some.inj h
        subst hr
        exact ⟨.inr rfl, .tup [.agg [.lit (.int .i64 0), .lit (.int .i64 0), .lit (.int .i64 0), .lit (.slice none 0 0)], .cv (.lit (.int .i64 6))], by kernel_rfl, by kernel_rfl, trivial, by kernel_rfl⟩
      · refine awp_false (b := (decide ((p2.length : Int) > 65536))) (by kernel_rfl) (decide_eq_false c3) ?_
        refine awp_skip [1, 2, 3, 6] [0, 1] (S' := ⟨[(1, .cv (.lit (.int .i64 p1))), (2, .cv (.ro Tag.t_uint8 p2)), (3, .cv (.ptr 0 0)), (6, .cv (.ptr 1 0))], [(0, .raw [.lit (.int .i64 p0.Epoch), .lit (.int .i64 p0.Vote), .lit (.int .i64 p0.Commit), .ro Tag.t_api_Entry p0.Log]), (1, .raw [.lit (.int .i64 0), .lit (.int .i64 0), .lit (.int .i64 0), .lit (.slice none 0 0)])]⟩) (by kernel_rfl) ?_
        refine awp_seq ?_
        refine awp_seq ?_
        refine awp_region L 24 [] [] [1, 2, 3, 6, 24] [0, 1] (cs := []) (S' := ⟨[(1, .cv (.lit (.int .i64 p1))), (2, .cv (.ro Tag.t_uint8 p2)), (3, .cv (.ptr 0 0)), (6, .cv (.ptr 1 0)), (24, .cv (.lit (.bool ((decide (p1 ≠ p0.Epoch))))))], [(0, .raw [.lit (.int .i64 p0.Epoch), .lit (.int .i64 p0.Vote), .lit (.int .i64 p0.Commit), .ro Tag.t_api_Entry p0.Log]), (1, .raw [.lit (.int .i64 0), .lit (.int .i64 0), .lit (.int .i64 0), .lit (.slice none 0 0)])]⟩) (by kernel_rfl) trivial ?_
        rcases ite_some h with ⟨c4, h⟩ | ⟨c4, h⟩
        · refine awp_true (b := (decide (p1 ≠ p0.Epoch))) (by kernel_rfl) (decide_eq_true c4) ?_
          refine awp_seq ?_
          refine awp_region L 29 [] [] [6, 7] [1] (cs := []) (S' := ⟨[(6, .cv (.ptr 1 0)), (7, .cv (.lit (.int .i64 25)))], [(1, .raw [.lit (.int .i64 0), .lit (.int .i64 0), .lit (.int .i64 0), .lit (.slice none 0 0)])]⟩) (by kernel_rfl) trivial ?_
          refine awp_ret ?_
          have hr := Option.some.inj h
          subst hr
          exact ⟨.inr rfl, .tup [.agg [.lit (.int .i64 0), .lit (.int .i64 0), .lit (.int .i64 0), .lit (.slice none 0 0)], .cv (.lit (.int .i64 25))], by kernel_rfl, by kernel_rfl, trivial, by kernel_rfl⟩
        · refine awp_false (b := (decide (p1 ≠ p0.Epoch))) (by kernel_rfl) (decide_eq_false c4) ?_
          refine awp_skip [1, 2, 3, 6] [0, 1] (S' := ⟨[(1, .cv (.lit (.int .i64 p1))), (2, .cv (.ro Tag.t_uint8 p2)), (3, .cv (.ptr 0 0)), (6, .cv (.ptr 1 0))], [(0, .raw [.lit (.int .i64 p0.Epoch), .lit (.int .i64 p0.Vote), .lit (.int .i64 p0.Commit), .ro Tag.t_api_Entry p0.Log]), (1, .raw [.lit (.int .i64 0), .lit (.int .i64 0), .lit (.int .i64 0), .lit (.slice none 0 0)])]⟩) (by kernel_rfl) ?_
          refine awp_seq ?_
          refine awp_seq ?_
          refine awp_region L 33 [] [] [1, 2, 3, 6, 29] [0, 1] (cs := []) (S' := ⟨[(1, .cv (.lit (.int .i64 p1))), (2, .cv (.ro Tag.t_uint8 p2)), (3, .cv (.ptr 0 0)), (6, .cv (.ptr 1 0)), (29, .cv (.lit (.bool ((decide ((p0.Log.length : Int) ≥ 5000))))))], [(0, .raw [.lit (.int .i64 p0.Epoch), .lit (.int .i64 p0.Vote), .lit (.int .i64 p0.Commit), .ro Tag.t_api_Entry p0.Log]), (1, .raw [.lit (.int .i64 0), .lit (.int .i64 0), .lit (.int .i64 0), .lit (.slice none 0 0)])]⟩) (by kernel_rfl) trivial ?_
          rcases ite_some h with ⟨c5, h⟩ | ⟨c5, h⟩
          · refine awp_true (b := (decide ((p0.Log.length : Int) ≥ 5000))) (by kernel_rfl) (decide_eq_true c5) ?_
            refine awp_seq ?_
            refine awp_region L 38 [] [] [6, 7] [1] (cs := []) (S' := ⟨[(6, .cv (.ptr 1 0)), (7, .cv (.lit (.int .i64 18)))], [(1, .raw [.lit (.int .i64 0), .lit (.int .i64 0), .lit (.int .i64 0), .lit (.slice none 0 0)])]⟩) (by kernel_rfl) trivial ?_
            refine awp_ret ?_
            have hr := Option.some.inj h
            subst hr
            exact ⟨.inr rfl, .tup [.agg [.lit (.int .i64 0), .lit (.int .i64 0), .lit (.int .i64 0), .lit (.slice none 0 0)], .cv (.lit (.int .i64 18))], by kernel_rfl, by kernel_rfl, trivial, by kernel_rfl⟩
          · refine awp_false (b := (decide ((p0.Log.length : Int) ≥ 5000))) (by kernel_rfl) (decide_eq_false c5) ?_
            refine awp_skip [1, 2, 3, 6] [0, 1] (S' := ⟨[(1, .cv (.lit (.int .i64 p1))), (2, .cv (.ro Tag.t_uint8 p2)), (3, .cv (.ptr 0 0)), (6, .cv (.ptr 1 0))], [(0, .raw [.lit (.int .i64 p0.Epoch), .lit (.int .i64 p0.Vote), .lit (.int .i64 p0.Commit), .ro Tag.t_api_Entry p0.Log]), (1, .raw [.lit (.int .i64 0), .lit (.int .i64 0), .lit (.int .i64 0), .lit (.slice none 0 0)])]⟩) (by kernel_rfl) ?_
            refine awp_seq ?_
            refine awp_region L 42 [] [] [1, 2, 3, 6, 8] [0, 1, 49] (cs := []) (S' := ⟨[(1, .cv (.lit (.int .i64 p1))), (2, .cv (.ro Tag.t_uint8 p2)), (3, .cv (.ptr 0 0)), (6, .cv (.ptr 1 0)), (8, .cv (.ptr 49 0))], [(0, .raw [.lit (.int .i64 p0.Epoch), .lit (.int .i64 p0.Vote), .lit (.int .i64 p0.Commit), .ro Tag.t_api_Entry p0.Log]), (1, .raw [.lit (.int .i64 0), .lit (.int .i64 0), .lit (.int .i64 0), .lit (.slice none 0 0)]), (49, .raw [.lit (.int .i64 p0.Epoch), .lit (.int .i64 p0.Vote), .lit (.int .i64 p0.Commit), .lit (.slice none 0 0)])]⟩) (by kernel_rfl) trivial ?_
            refine awp_seq ?_
            obtain ⟨g1, h⟩ := guard_some h
            refine awp_region L 52 [] [] [1, 2, 6, 8] [1, 49, 56] (cs := [p0.Log.length * 32 ≤ 140737488355328, True]) (S' := ⟨[(1, .cv (.lit (.int .i64 p1))), (2, .cv (.ro Tag.t_uint8 p2)), (6, .cv (.ptr 1 0)), (8, .cv (.ptr 49 0))], [(1, .raw [.lit (.int .i64 0), .lit (.int .i64 0), .lit (.int .i64 0), .lit (.slice none 0 0)]), (49, .raw [.lit (.int .i64 p0.Epoch), .lit (.int .i64 p0.Vote), .lit (.int .i64 p0.Commit), .own Tag.t_api_Entry 56]), (56, .lst Tag.t_api_Entry p0.Log)]⟩) (by kernel_rfl) (And.intro g1 trivial) ?_
            refine awp_seq ?_
            obtain ⟨g2, h⟩ := guard_some h
            refine awp_region L 60 [] [] [6, 8] [1, 49, 56] (cs := [(p0.Log.length + (([(⟨p1, p2⟩ : api_Entry)] : List api_Entry)).length) * 32 ≤ 140737488355328, True]) (S' := ⟨[(6, .cv (.ptr 1 0)), (8, .cv (.ptr 49 0))], [(1, .raw [.lit (.int .i64 0), .lit (.int .i64 0), .lit (.int .i64 0), .lit (.slice none 0 0)]), (49, .raw [.lit (.int .i64 p0.Epoch), .lit (.int .i64 p0.Vote), .lit (.int .i64 p0.Commit), .own Tag.t_api_Entry 56]), (56, .lst Tag.t_api_Entry ((p0.Log ++ ([(⟨p1, p2⟩ : api_Entry)] : List api_Entry))))]⟩) (by kernel_rfl) (And.intro g2 trivial) ?_
            refine awp_seq ?_
            refine awp_region L 70 [] [] [6, 7] [1, 56] (cs := []) (S' := ⟨[(6, .cv (.ptr 1 0)), (7, .cv (.lit (.int .i64 0)))], [(1, .raw [.lit (.int .i64 p0.Epoch), .lit (.int .i64 p0.Vote), .lit (.int .i64 p0.Commit), .own Tag.t_api_Entry 56]), (56, .lst Tag.t_api_Entry ((p0.Log ++ ([(⟨p1, p2⟩ : api_Entry)] : List api_Entry))))]⟩) (by kernel_rfl) trivial ?_
            refine awp_ret ?_
            have hr := Option.some.inj h
            subst hr
            exact ⟨.inr rfl, .tup [.agg [.lit (.int .i64 p0.Epoch), .lit (.int .i64 p0.Vote), .lit (.int .i64 p0.Commit), .own Tag.t_api_Entry 56], .cv (.lit (.int .i64 0))], by kernel_rfl, by kernel_rfl, trivial, by kernel_rfl⟩
  · refine awp_region L 4 [(3, true)] [(1, .cv (.lit (.bool a1)))] [1, 2, 3, 6, 15] [0, 1] (cs := [PCall V P 17 [.agg [.lit (.int .i64 p0.Epoch), .lit (.int .i64 p0.Vote), .lit (.int .i64 p0.Commit), .ro Tag.t_api_Entry p0.Log]] (.cv (.lit (.bool a1))), True, (!a1) = true]) (S' := ⟨[(1, .cv (.lit (.int .i64 p1))), (2, .cv (.ro Tag.t_uint8 p2)), (3, .cv (.ptr 0 0)), (6, .cv (.ptr 1 0)), (15, .cv (.lit (.bool true)))], [(0, .raw [.lit (.int .i64 p0.Epoch), .lit (.int .i64 p0.Vote), .lit (.int .i64 p0.Commit), .ro Tag.t_api_Entry p0.Log]), (1, .raw [.lit (.int .i64 0), .lit (.int .i64 0), .lit (.int .i64 0), .lit (.slice none 0 0)])]⟩) (by kernel_rfl) (And.intro (workflowref52_Right.ok h1) (And.intro trivial (congrArg Bool.not (eq_false_of_ne_true c1)))) ?_
    refine awp_true (b := true) (by kernel_rfl) (rfl) ?_
    refine awp_seq ?_
    refine awp_region L 12 [] [] [6, 7] [1] (cs := []) (S' := ⟨[(6, .cv (.ptr 1 0)), (7, .cv (.lit (.int .i64 2)))], [(1, .raw [.lit (.int .i64 0), .lit (.int .i64 0), .lit (.int .i64 0), .lit (.slice none 0 0)])]⟩) (by kernel_rfl) trivial ?_
    refine awp_ret ?_
    have hr := Option.some.inj h
    subst hr
    exact ⟨.inr rfl, .tup [.agg [.lit (.int .i64 0), .lit (.int .i64 0), .lit (.int .i64 0), .lit (.slice none 0 0)], .cv (.lit (.int .i64 2))], by kernel_rfl, by kernel_rfl, trivial, by kernel_rfl⟩

theorem workflowref52_Lead.ok {K : Nat} {p0 : api_Replica} {p1 : Int} {p2 : List UInt8} {r : api_Replica × Int} (h : workflowref52_Lead K p0 p1 p2 = some r) : PCall V P 21 [.agg [.lit (.int .i64 p0.Epoch), .lit (.int .i64 p0.Vote), .lit (.int .i64 p0.Commit), .ro Tag.t_api_Entry p0.Log], .cv (.lit (.int .i64 p1)), .cv (.ro Tag.t_uint8 p2)] (.tup [.agg [.lit (.int .i64 r.1.Epoch), .lit (.int .i64 r.1.Vote), .lit (.int .i64 r.1.Commit), .ro Tag.t_api_Entry r.1.Log], .cv (.lit (.int .i64 r.2))]) :=
  pcall_of (fn := Try.f21) (n := 53) (by kernel_rfl) (by kernel_rfl) (by kernel_rfl) rfl (by kernel_rfl) (by kernel_rfl) fun Γ => workflowref52_Lead.body h

def workflowlaw52_ReplogLeads (K : Nat) (p0 : api_Replica) (p1 : Int) (p2 : List UInt8) : Option Bool := (Option.bind (((Option.bind (workflowlaw52_few K (([p0.Log] : List (List api_Entry)))) (fun a1 => (if a1 = true then some ((decide ((p2.length : Int) > 70000))) else some true)))) : Option Bool) (fun xt20_4 => (if xt20_4 = true then (Option.bind (workflowlaw52_works K) (fun a2 => some a2)) else (Option.bind (replog_Lead K p0 p1 p2) (fun (a3_0, a3_1) => (Option.bind (workflowref52_Lead K p0 p1 p2) (fun (a4_0, a4_1) => (if a3_1 = a4_1 then (Option.bind (workflowref52_Same K a3_0 a4_0) (fun a5 => (if a5 = true then (Option.bind (workflowlaw52_works K) (fun a6 => some a6)) else some false))) else some false))))))))

theorem workflowlaw52_ReplogLeads.body {Γ : Ent} {K : Nat} {p0 : api_Replica} {p1 : Int} {p2 : List UInt8} {r : Bool} (h : workflowlaw52_ReplogLeads K p0 p1 p2 = some r) : AWp V P 47 0 Γ (Try.f5.body.getD .skip) (Eng.Ends P V Try.f5 (.cv (.lit (.bool r)))) ⟨args0 0 [.agg [.lit (.int .i64 p0.Epoch), .lit (.int .i64 p0.Vote), .lit (.int .i64 p0.Commit), .ro Tag.t_api_Entry p0.Log], .cv (.lit (.int .i64 p1)), .cv (.ro Tag.t_uint8 p2)], []⟩ := by
  unfold workflowlaw52_ReplogLeads at h
  refine awp_seq ?_
  refine awp_region L 0 [] [] [1, 2, 3] [0] (cs := []) (S' := ⟨[(1, .cv (.lit (.int .i64 p1))), (2, .cv (.ro Tag.t_uint8 p2)), (3, .cv (.ptr 0 0))], [(0, .raw [.lit (.int .i64 p0.Epoch), .lit (.int .i64 p0.Vote), .lit (.int .i64 p0.Commit), .ro Tag.t_api_Entry p0.Log])]⟩) (by kernel_rfl) trivial ?_
  refine awp_seq ?_
  obtain ⟨o1, hp1, h⟩ := bind_some h
  refine awp_seq (awp_mono (Q' := fun e S => (e = .normal ∧ ∃ xt20_4 : Bool, S = ⟨[(1, .cv (.lit (.int .i64 p1))), (2, .cv (.ro Tag.t_uint8 p2)), (3, .cv (.ptr 0 0)), (20, .cv (.lit (.bool xt20_4)))], [(0, .raw [.lit (.int .i64 p0.Epoch), .lit (.int .i64 p0.Vote), .lit (.int .i64 p0.Commit), .ro Tag.t_api_Entry p0.Log])]⟩ ∧ xt20_4 = o1)) ?_ ?_)
  · clear h
    replace h := hp1
    obtain ⟨a1, h1, h⟩ := bind_some h
    rcases ite_some h with ⟨c1, h⟩ | ⟨c1, h⟩
    · refine awp_region L 3 [(5, false)] [(3, .cv (.lit (.bool a1)))] [1, 2, 3, 20] [0] (cs := [PCall V P 12 [.cv (.ro Tag.t_sl_api_Entry (([p0.Log] : List (List api_Entry))))] (.cv (.lit (.bool a1))), True, (!a1) = false]) (S' := ⟨[(1, .cv (.lit (.int .i64 p1))), (2, .cv (.ro Tag.t_uint8 p2)), (3, .cv (.ptr 0 0)), (20, .cv (.lit (.bool ((decide ((p2.length : Int) > 70000))))))], [(0, .raw [.lit (.int .i64 p0.Epoch), .lit (.int .i64 p0.Vote), .lit (.int .i64 p0.Commit), .ro Tag.t_api_Entry p0.Log])]⟩) (by kernel_rfl) (And.intro (workflowlaw52_few.ok h1) (And.intro trivial (congrArg Bool.not (c1)))) ?_
      have hr := Option.some.inj h
      subst hr
      exact ⟨rfl, _, rfl, rfl⟩
    · refine awp_region L 3 [(5, true)] [(3, .cv (.lit (.bool a1)))] [1, 2, 3, 20] [0] (cs := [PCall V P 12 [.cv (.ro Tag.t_sl_api_Entry (([p0.Log] : List (List api_Entry))))] (.cv (.lit (.bool a1))), True, (!a1) = true]) (S' := ⟨[(1, .cv (.lit (.int .i64 p1))), (2, .cv (.ro Tag.t_uint8 p2)), (3, .cv (.ptr 0 0)), (20, .cv (.lit (.bool true)))], [(0, .raw [.lit (.int .i64 p0.Epoch), .lit (.int .i64 p0.Vote), .lit (.int .i64 p0.Commit), .ro Tag.t_api_Entry p0.Log])]⟩) (by kernel_rfl) (And.intro (workflowlaw52_few.ok h1) (And.intro trivial (congrArg Bool.not (eq_false_of_ne_true c1)))) ?_
      have hr := Option.some.inj h
      subst hr
      exact ⟨rfl, _, rfl, rfl⟩
  · rintro e S ⟨rfl, xt20_4, rfl, rfl⟩
    rcases ite_some h with ⟨c2, h⟩ | ⟨c2, h⟩
    · refine awp_true (b := xt20_4) (by kernel_rfl) (c2) ?_
      refine awp_seq ?_
      obtain ⟨a2, h2, h⟩ := bind_some h
      refine awp_region L 14 [] [(0, .cv (.lit (.bool a2)))] [6] [] (cs := [PCall V P 13 [] (.cv (.lit (.bool a2))), True]) (S' := ⟨[(6, .cv (.lit (.bool a2)))], []⟩) (by kernel_rfl) (And.intro (workflowlaw52_works.ok h2) trivial) ?_
      refine awp_ret ?_
      have hr := Option.some.inj h
      subst hr
      exact ⟨.inr rfl, .cv (.lit (.bool a2)), by kernel_rfl, by kernel_rfl, trivial, by kernel_rfl⟩
    · refine awp_false (b := xt20_4) (by kernel_rfl) (eq_false_of_ne_true c2) ?_
      refine awp_skip [1, 2, 3] [0] (S' := ⟨[(1, .cv (.lit (.int .i64 p1))), (2, .cv (.ro Tag.t_uint8 p2)), (3, .cv (.ptr 0 0))], [(0, .raw [.lit (.int .i64 p0.Epoch), .lit (.int .i64 p0.Vote), .lit (.int .i64 p0.Commit), .ro Tag.t_api_Entry p0.Log])]⟩) (by kernel_rfl) ?_
      refine awp_seq ?_
      obtain ⟨⟨a3_0, a3_1⟩, h3, h⟩ := bind_some h
      dsimp only at h
      refine awp_region L 17 [] [(3, .tup [.agg [.lit (.int .i64 a3_0.Epoch), .lit (.int .i64 a3_0.Vote), .lit (.int .i64 a3_0.Commit), .ro Tag.t_api_Entry a3_0.Log], .cv (.lit (.int .i64 a3_1))])] [1, 2, 3, 7, 8] [0, 24] (cs := [PCall V P 20 [.agg [.lit (.int .i64 p0.Epoch), .lit (.int .i64 p0.Vote), .lit (.int .i64 p0.Commit), .ro Tag.t_api_Entry p0.Log], .cv (.lit (.int .i64 p1)), .cv (.ro Tag.t_uint8 p2)] (.tup [.agg [.lit (.int .i64 a3_0.Epoch), .lit (.int .i64 a3_0.Vote), .lit (.int .i64 a3_0.Commit), .ro Tag.t_api_Entry a3_0.Log], .cv (.lit (.int .i64 a3_1))]), True]) (S' := ⟨[(1, .cv (.lit (.int .i64 p1))), (2, .cv (.ro Tag.t_uint8 p2)), (3, .cv (.ptr 0 0)), (7, .cv (.ptr 24 0)), (8, .cv (.lit (.int .i64 a3_1)))], [(0, .raw [.lit (.int .i64 p0.Epoch), .lit (.int .i64 p0.Vote), .lit (.int .i64 p0.Commit), .ro Tag.t_api_Entry p0.Log]), (24, .raw [.lit (.int .i64 a3_0.Epoch), .lit (.int .i64 a3_0.Vote), .lit (.int .i64 a3_0.Commit), .ro Tag.t_api_Entry a3_0.Log])]⟩) (by kernel_rfl) (And.intro (replog_Lead.ok h3) trivial) ?_
      refine awp_seq ?_
      obtain ⟨⟨a4_0, a4_1⟩, h4, h⟩ := bind_some h
      dsimp only at h
      refine awp_region L 28 [] [(3, .tup [.agg [.lit (.int .i64 a4_0.Epoch), .lit (.int .i64 a4_0.Vote), .lit (.int .i64 a4_0.Commit), .ro Tag.t_api_Entry a4_0.Log], .cv (.lit (.int .i64 a4_1))])] [7, 8, 9, 10] [24, 35] (cs := [PCall V P 21 [.agg [.lit (.int .i64 p0.Epoch), .lit (.int .i64 p0.Vote), .lit (.int .i64 p0.Commit), .ro Tag.t_api_Entry p0.Log], .cv (.lit (.int .i64 p1)), .cv (.ro Tag.t_uint8 p2)] (.tup [.agg [.lit (.int .i64 a4_0.Epoch), .lit (.int .i64 a4_0.Vote), .lit (.int .i64 a4_0.Commit), .ro Tag.t_api_Entry a4_0.Log], .cv (.lit (.int .i64 a4_1))]), True]) (S' := ⟨[(7, .cv (.ptr 24 0)), (8, .cv (.lit (.int .i64 a3_1))), (9, .cv (.ptr 35 0)), (10, .cv (.lit (.int .i64 a4_1)))], [(24, .raw [.lit (.int .i64 a3_0.Epoch), .lit (.int .i64 a3_0.Vote), .lit (.int .i64 a3_0.Commit), .ro Tag.t_api_Entry a3_0.Log]), (35, .raw [.lit (.int .i64 a4_0.Epoch), .lit (.int .i64 a4_0.Vote), .lit (.int .i64 a4_0.Commit), .ro Tag.t_api_Entry a4_0.Log])]⟩) (by kernel_rfl) (And.intro (workflowref52_Lead.ok h4) trivial) ?_
      refine awp_seq ?_
      rcases ite_some h with ⟨c3, h⟩ | ⟨c3, h⟩
      · obtain ⟨a5, h5, h⟩ := bind_some h
        rcases ite_some h with ⟨c4, h⟩ | ⟨c4, h⟩
        · obtain ⟨a6, h6, h⟩ := bind_some h
          refine awp_region L 39 [(3, true), (8, true)] [(6, .cv (.lit (.bool a5))), (9, .cv (.lit (.bool a6)))] [6] [] (cs := [(decide (a3_1 = a4_1)) = true, PCall V P 16 [.agg [.lit (.int .i64 a3_0.Epoch), .lit (.int .i64 a3_0.Vote), .lit (.int .i64 a3_0.Commit), .ro Tag.t_api_Entry a3_0.Log], .agg [.lit (.int .i64 a4_0.Epoch), .lit (.int .i64 a4_0.Vote), .lit (.int .i64 a4_0.Commit), .ro Tag.t_api_Entry a4_0.Log]] (.cv (.lit (.bool a5))), True, a5 = true, PCall V P 13 [] (.cv (.lit (.bool a6))), True]) (S' := ⟨[(6, .cv (.lit (.bool a6)))], []⟩) (by kernel_rfl) (And.intro (decide_eq_true c3) (And.intro (workflowref52_Same.ok h5) (And.intro trivial (And.intro c4 (And.intro (workflowlaw52_works.ok h6) trivial))))) ?_
          refine awp_ret ?_
          have hr := Option.some.inj h
          subst hr
          exact ⟨.inr rfl, .cv (.lit (.bool a6)), by kernel_rfl, by kernel_rfl, trivial, by kernel_rfl⟩
        · refine awp_region L 39 [(3, true), (8, false)] [(6, .cv (.lit (.bool a5)))] [6] [] (cs := [(decide (a3_1 = a4_1)) = true, PCall V P 16 [.agg [.lit (.int .i64 a3_0.Epoch), .lit (.int .i64 a3_0.Vote), .lit (.int .i64 a3_0.Commit), .ro Tag.t_api_Entry a3_0.Log], .agg [.lit (.int .i64 a4_0.Epoch), .lit (.int .i64 a4_0.Vote), .lit (.int .i64 a4_0.Commit), .ro Tag.t_api_Entry a4_0.Log]] (.cv (.lit (.bool a5))), True, a5 = false]) (S' := ⟨[(6, .cv (.lit (.bool false)))], []⟩) (by kernel_rfl) (And.intro (decide_eq_true c3) (And.intro (workflowref52_Same.ok h5) (And.intro trivial (eq_false_of_ne_true c4)))) ?_
          refine awp_ret ?_
          have hr := Option.some.inj h
          subst hr
          exact ⟨.inr rfl, .cv (.lit (.bool false)), by kernel_rfl, by kernel_rfl, trivial, by kernel_rfl⟩
      · refine awp_region L 39 [(3, false)] [] [6] [] (cs := [(decide (a3_1 = a4_1)) = false]) (S' := ⟨[(6, .cv (.lit (.bool false)))], []⟩) (by kernel_rfl) (decide_eq_false c3) ?_
        refine awp_ret ?_
        have hr := Option.some.inj h
        subst hr
        exact ⟨.inr rfl, .cv (.lit (.bool false)), by kernel_rfl, by kernel_rfl, trivial, by kernel_rfl⟩

theorem workflowlaw52_ReplogLeads.ok {K : Nat} {p0 : api_Replica} {p1 : Int} {p2 : List UInt8} {r : Bool} (h : workflowlaw52_ReplogLeads K p0 p1 p2 = some r) : PCall V P 5 [.agg [.lit (.int .i64 p0.Epoch), .lit (.int .i64 p0.Vote), .lit (.int .i64 p0.Commit), .ro Tag.t_api_Entry p0.Log], .cv (.lit (.int .i64 p1)), .cv (.ro Tag.t_uint8 p2)] (.cv (.lit (.bool r))) :=
  pcall_of (fn := Try.f5) (n := 47) (by kernel_rfl) (by kernel_rfl) (by kernel_rfl) rfl (by kernel_rfl) (by kernel_rfl) fun Γ => workflowlaw52_ReplogLeads.body h

def replog_Common.l7 (K : Nat) (p0 : api_Replica) (p1 : api_Replica) : Nat → Int → Option Int
  | 0, _ => none
  | k + 1, xt5_7h => (if xt5_7h < (p0.Log.length : Int) then (if xt5_7h < (p1.Log.length : Int) then (if (0 : Int) ≤ xt5_7h ∧ (xt5_7h : Int) < (p0.Log.length : Int) then (if (xt5_7h : Int) < (p1.Log.length : Int) then (Option.bind (replog_agree K ((p0.Log.getD (Int.toNat xt5_7h) (⟨(0 : Int), ([] : List UInt8)⟩ : api_Entry))) ((p1.Log.getD (Int.toNat xt5_7h) (⟨(0 : Int), ([] : List UInt8)⟩ : api_Entry)))) (fun a1 => (if a1 = true then replog_Common.l7 K p0 p1 k ((IntKind.i64.wrap (xt5_7h + 1))) else some xt5_7h))) else none) else none) else some xt5_7h) else some xt5_7h)

def replog_Common (K : Nat) (p0 : api_Replica) (p1 : api_Replica) : Option Int := (Option.bind (replog_Common.l7 K p0 p1 K 0 : Option Int) (fun xt5_7 => some xt5_7))

theorem replog_Common.body {Γ : Ent} {K : Nat} {p0 : api_Replica} {p1 : api_Replica} {r : Int} (h : replog_Common K p0 p1 = some r) : AWp V P 34 0 Γ (Try.f24.body.getD .skip) (Eng.Ends P V Try.f24 (.cv (.lit (.int .i64 r)))) ⟨args0 0 [.agg [.lit (.int .i64 p0.Epoch), .lit (.int .i64 p0.Vote), .lit (.int .i64 p0.Commit), .ro Tag.t_api_Entry p0.Log], .agg [.lit (.int .i64 p1.Epoch), .lit (.int .i64 p1.Vote), .lit (.int .i64 p1.Commit), .ro Tag.t_api_Entry p1.Log]], []⟩ := by
  unfold replog_Common at h
  refine awp_seq ?_
  refine awp_region L 0 [] [] [2, 3] [0, 1] (cs := []) (S' := ⟨[(2, .cv (.ptr 0 0)), (3, .cv (.ptr 1 0))], [(0, .raw [.lit (.int .i64 p0.Epoch), .lit (.int .i64 p0.Vote), .lit (.int .i64 p0.Commit), .ro Tag.t_api_Entry p0.Log]), (1, .raw [.lit (.int .i64 p1.Epoch), .lit (.int .i64 p1.Vote), .lit (.int .i64 p1.Commit), .ro Tag.t_api_Entry p1.Log])]⟩) (by kernel_rfl) trivial ?_
  refine awp_seq ?_
  refine awp_region L 4 [] [] [2, 3, 5] [0, 1] (cs := []) (S' := ⟨[(2, .cv (.ptr 0 0)), (3, .cv (.ptr 1 0)), (5, .cv (.lit (.int .i64 0)))], [(0, .raw [.lit (.int .i64 p0.Epoch), .lit (.int .i64 p0.Vote), .lit (.int .i64 p0.Commit), .ro Tag.t_api_Entry p0.Log]), (1, .raw [.lit (.int .i64 p1.Epoch), .lit (.int .i64 p1.Vote), .lit (.int .i64 p1.Commit), .ro Tag.t_api_Entry p1.Log])]⟩) (by kernel_rfl) trivial ?_
  refine awp_seq ?_
  refine awp_block ?_
  refine awp_keep (ts := [2, 3, 5]) (ids := [0, 1]) (S' := ⟨[(2, .cv (.ptr 0 0)), (3, .cv (.ptr 1 0)), (5, .cv (.lit (.int .i64 0)))], [(0, .raw [.lit (.int .i64 p0.Epoch), .lit (.int .i64 p0.Vote), .lit (.int .i64 p0.Commit), .ro Tag.t_api_Entry p0.Log]), (1, .raw [.lit (.int .i64 p1.Epoch), .lit (.int .i64 p1.Vote), .lit (.int .i64 p1.Commit), .ro Tag.t_api_Entry p1.Log])]⟩) (by kernel_rfl) ?_
  obtain ⟨o1, hp1, h⟩ := bind_some h
  refine awp_mono (Q' := fun e S => (e = .exit 0 ∧ ∃ xt5_7 : Int, S = ⟨[(5, .cv (.lit (.int .i64 xt5_7)))], []⟩ ∧ xt5_7 = o1)) (awp_loop (fun k S => ∃ xt5_7h : Int, S = ⟨[(2, .cv (.ptr 0 0)), (3, .cv (.ptr 1 0)), (5, .cv (.lit (.int .i64 xt5_7h)))], [(0, .raw [.lit (.int .i64 p0.Epoch), .lit (.int .i64 p0.Vote), .lit (.int .i64 p0.Commit), .ro Tag.t_api_Entry p0.Log]), (1, .raw [.lit (.int .i64 p1.Epoch), .lit (.int .i64 p1.Vote), .lit (.int .i64 p1.Commit), .ro Tag.t_api_Entry p1.Log])]⟩ ∧ replog_Common.l7 K p0 p1 k xt5_7h = some o1) ?_ ⟨_, rfl, hp1⟩) ?_
  · clear h hp1
    intro k S hS
    obtain ⟨xt5_7h, rfl, h⟩ := hS
    cases k with
    | zero => cases h
    | succ k =>
    unfold replog_Common.l7 at h
    refine awp_seq ?_
    refine awp_seq ?_
    rcases ite_some h with ⟨c1, h⟩ | ⟨c1, h⟩
    · rcases ite_some h with ⟨c2, h⟩ | ⟨c2, h⟩
      · obtain ⟨g1, h⟩ := guard_some h
        obtain ⟨g2, h⟩ := guard_some h
        obtain ⟨a1, h1, h⟩ := bind_some h
        refine awp_draw L mixed 6 [(5, true), (12, true)] [(23, .cv (.lit (.bool a1)))] 25 [2, 3, 5, 30] [0, 1] (cs := [(decide (xt5_7h < (p0.Log.length : Int))) = true, (decide (xt5_7h < (p1.Log.length : Int))) = true, (0 : Int) ≤ xt5_7h, (xt5_7h : Int) < (p0.Log.length : Int), (0 : Int) ≤ xt5_7h, (xt5_7h : Int) < (p1.Log.length : Int), PCall V P 41 [.agg [.lit (.int .i64 (((p0.Log.getD (Int.toNat xt5_7h) (⟨(0 : Int), ([] : List UInt8)⟩ : api_Entry))).Epoch)), .ro Tag.t_uint8 (((p0.Log.getD (Int.toNat xt5_7h) (⟨(0 : Int), ([] : List UInt8)⟩ : api_Entry))).Data)], .agg [.lit (.int .i64 (((p1.Log.getD (Int.toNat xt5_7h) (⟨(0 : Int), ([] : List UInt8)⟩ : api_Entry))).Epoch)), .ro Tag.t_uint8 (((p1.Log.getD (Int.toNat xt5_7h) (⟨(0 : Int), ([] : List UInt8)⟩ : api_Entry))).Data)]] (.cv (.lit (.bool a1))), True]) (S' := ⟨[(2, .cv (.ptr 0 0)), (3, .cv (.ptr 1 0)), (5, .cv (.lit (.int .i64 xt5_7h))), (30, .cv (.lit (.bool a1)))], [(0, .raw [.lit (.int .i64 p0.Epoch), .lit (.int .i64 p0.Vote), .lit (.int .i64 p0.Commit), .ro Tag.t_api_Entry p0.Log]), (1, .raw [.lit (.int .i64 p1.Epoch), .lit (.int .i64 p1.Vote), .lit (.int .i64 p1.Commit), .ro Tag.t_api_Entry p1.Log])]⟩) (by kernel_rfl) (And.intro (decide_eq_true c1) (And.intro (decide_eq_true c2) (And.intro g1.1 (And.intro g1.2 (And.intro g1.1 (And.intro g2 (And.intro (replog_agree.ok h1) trivial))))))) ?_
        rcases ite_some h with ⟨c3, h⟩ | ⟨c3, h⟩
        · refine awp_true (b := a1) (by kernel_rfl) (c3) ?_
          refine awp_skip [2, 3, 5] [0, 1] (S' := ⟨[(2, .cv (.ptr 0 0)), (3, .cv (.ptr 1 0)), (5, .cv (.lit (.int .i64 xt5_7h)))], [(0, .raw [.lit (.int .i64 p0.Epoch), .lit (.int .i64 p0.Vote), .lit (.int .i64 p0.Commit), .ro Tag.t_api_Entry p0.Log]), (1, .raw [.lit (.int .i64 p1.Epoch), .lit (.int .i64 p1.Vote), .lit (.int .i64 p1.Commit), .ro Tag.t_api_Entry p1.Log])]⟩) (by kernel_rfl) ?_
          refine awp_block ?_
          refine awp_region L 32 [] [] [2, 3, 5] [0, 1] (cs := []) (S' := ⟨[(2, .cv (.ptr 0 0)), (3, .cv (.ptr 1 0)), (5, .cv (.lit (.int .i64 ((IntKind.i64.wrap (xt5_7h + 1))))))], [(0, .raw [.lit (.int .i64 p0.Epoch), .lit (.int .i64 p0.Vote), .lit (.int .i64 p0.Commit), .ro Tag.t_api_Entry p0.Log]), (1, .raw [.lit (.int .i64 p1.Epoch), .lit (.int .i64 p1.Vote), .lit (.int .i64 p1.Commit), .ro Tag.t_api_Entry p1.Log])]⟩) (by kernel_rfl) trivial ?_
          exact ⟨k, Nat.lt_succ_self k, _, rfl, h⟩
        · refine awp_false (b := a1) (by kernel_rfl) (eq_false_of_ne_true c3) ?_
          refine awp_exit [5] [] (S' := ⟨[(5, .cv (.lit (.int .i64 xt5_7h)))], []⟩) (by kernel_rfl) ?_
          have hr := Option.some.inj h
          subst hr
          exact ⟨rfl, _, rfl, rfl⟩
      · refine awp_draw L mixed 6 [(5, true), (12, false)] [] 25 [2, 3, 5, 30] [0, 1] (cs := [(decide (xt5_7h < (p0.Log.length : Int))) = true, (decide (xt5_7h < (p1.Log.length : Int))) = false]) (S' := ⟨[(2, .cv (.ptr 0 0)), (3, .cv (.ptr 1 0)), (5, .cv (.lit (.int .i64 xt5_7h))), (30, .cv (.lit (.bool false)))], [(0, .raw [.lit (.int .i64 p0.Epoch), .lit (.int .i64 p0.Vote), .lit (.int .i64 p0.Commit), .ro Tag.t_api_Entry p0.Log]), (1, .raw [.lit (.int .i64 p1.Epoch), .lit (.int .i64 p1.Vote), .lit (.int .i64 p1.Commit), .ro Tag.t_api_Entry p1.Log])]⟩) (by kernel_rfl) (And.intro (decide_eq_true c1) (decide_eq_false c2)) ?_
        refine awp_false (b := false) (by kernel_rfl) (rfl) ?_
        refine awp_exit [5] [] (S' := ⟨[(5, .cv (.lit (.int .i64 xt5_7h)))], []⟩) (by kernel_rfl) ?_
        have hr := Option.some.inj h
        subst hr
        exact ⟨rfl, _, rfl, rfl⟩
    · refine awp_draw L mixed 6 [(5, false)] [] 25 [2, 3, 5, 30] [0, 1] (cs := [(decide (xt5_7h < (p0.Log.length : Int))) = false]) (S' := ⟨[(2, .cv (.ptr 0 0)), (3, .cv (.ptr 1 0)), (5, .cv (.lit (.int .i64 xt5_7h))), (30, .cv (.lit (.bool false)))], [(0, .raw [.lit (.int .i64 p0.Epoch), .lit (.int .i64 p0.Vote), .lit (.int .i64 p0.Commit), .ro Tag.t_api_Entry p0.Log]), (1, .raw [.lit (.int .i64 p1.Epoch), .lit (.int .i64 p1.Vote), .lit (.int .i64 p1.Commit), .ro Tag.t_api_Entry p1.Log])]⟩) (by kernel_rfl) (decide_eq_false c1) ?_
      refine awp_false (b := false) (by kernel_rfl) (rfl) ?_
      refine awp_exit [5] [] (S' := ⟨[(5, .cv (.lit (.int .i64 xt5_7h)))], []⟩) (by kernel_rfl) ?_
      have hr := Option.some.inj h
      subst hr
      exact ⟨rfl, _, rfl, rfl⟩
  · rintro e S ⟨rfl, xt5_7, rfl, rfl⟩
    refine awp_seq ?_
    refine awp_region L 36 [] [] [4] [] (cs := []) (S' := ⟨[(4, .cv (.lit (.int .i64 xt5_7)))], []⟩) (by kernel_rfl) trivial ?_
    refine awp_ret ?_
    have hr := Option.some.inj h
    subst hr
    exact ⟨.inr rfl, .cv (.lit (.int .i64 xt5_7)), by kernel_rfl, by kernel_rfl, trivial, by kernel_rfl⟩

theorem replog_Common.ok {K : Nat} {p0 : api_Replica} {p1 : api_Replica} {r : Int} (h : replog_Common K p0 p1 = some r) : PCall V P 24 [.agg [.lit (.int .i64 p0.Epoch), .lit (.int .i64 p0.Vote), .lit (.int .i64 p0.Commit), .ro Tag.t_api_Entry p0.Log], .agg [.lit (.int .i64 p1.Epoch), .lit (.int .i64 p1.Vote), .lit (.int .i64 p1.Commit), .ro Tag.t_api_Entry p1.Log]] (.cv (.lit (.int .i64 r))) :=
  pcall_of (fn := Try.f24) (n := 34) (by kernel_rfl) (by kernel_rfl) (by kernel_rfl) rfl (by kernel_rfl) (by kernel_rfl) fun Γ => replog_Common.body h

def replog_Committed.l9 (K : Nat) (p0 : api_Replica) : Nat → Int → (List (List UInt8)) → Option ((List (List UInt8)))
  | 0, _, _ => none
  | k + 1, xt17_9h, xh229_9h => (if xt17_9h < (((slc p0.Log 0 ((if (p0.Log.length : Int) < (if (0 : Int) > p0.Commit then 0 else p0.Commit) then (p0.Log.length : Int) else (if (0 : Int) > p0.Commit then 0 else p0.Commit))))).length : Int) then (if (0 : Int) ≤ xt17_9h ∧ (xt17_9h : Int) < (((slc p0.Log 0 ((if (p0.Log.length : Int) < (if (0 : Int) > p0.Commit then 0 else p0.Commit) then (p0.Log.length : Int) else (if (0 : Int) > p0.Commit then 0 else p0.Commit))))).length : Int) then (Option.bind (bytes_Clone K (((((slc p0.Log 0 ((if (p0.Log.length : Int) < (if (0 : Int) > p0.Commit then 0 else p0.Commit) then (p0.Log.length : Int) else (if (0 : Int) > p0.Commit then 0 else p0.Commit))))).getD (Int.toNat xt17_9h) (⟨(0 : Int), ([] : List UInt8)⟩ : api_Entry))).Data)) (fun a1 => (if (xh229_9h.length + (([a1] : List (List UInt8))).length) * 24 ≤ 140737488355328 then replog_Committed.l9 K p0 k ((IntKind.i64.wrap (xt17_9h + 1))) ((xh229_9h ++ ([a1] : List (List UInt8)))) else none))) else none) else some xh229_9h)

def replog_Committed (K : Nat) (p0 : api_Replica) : Option (List (List UInt8)) := (if (0 : Int) ≤ (if (p0.Log.length : Int) < (if (0 : Int) > p0.Commit then 0 else p0.Commit) then (p0.Log.length : Int) else (if (0 : Int) > p0.Commit then 0 else p0.Commit)) ∧ ((if (p0.Log.length : Int) < (if (0 : Int) > p0.Commit then 0 else p0.Commit) then (p0.Log.length : Int) else (if (0 : Int) > p0.Commit then 0 else p0.Commit))) ≤ (p0.Log.length : Int) then (Option.bind (replog_Committed.l9 K p0 K 0 [] : Option ((List (List UInt8)))) (fun xh229_9 => some xh229_9)) else none)

theorem replog_Committed.body {Γ : Ent} {K : Nat} {p0 : api_Replica} {r : List (List UInt8)} (h : replog_Committed K p0 = some r) : AWp V P 29 0 Γ (Try.f26.body.getD .skip) (Eng.Ends P V Try.f26 (.cv (.ro Tag.t_sl_uint8 r))) ⟨args0 0 [.agg [.lit (.int .i64 p0.Epoch), .lit (.int .i64 p0.Vote), .lit (.int .i64 p0.Commit), .ro Tag.t_api_Entry p0.Log]], []⟩ := by
  unfold replog_Committed at h
  refine awp_seq ?_
  refine awp_region L 0 [] [] [1] [0] (cs := []) (S' := ⟨[(1, .cv (.ptr 0 0))], [(0, .raw [.lit (.int .i64 p0.Epoch), .lit (.int .i64 p0.Vote), .lit (.int .i64 p0.Commit), .ro Tag.t_api_Entry p0.Log])]⟩) (by kernel_rfl) trivial ?_
  refine awp_seq ?_
  refine awp_region L 3 [] [] [1, 3] [0] (cs := []) (S' := ⟨[(1, .cv (.ptr 0 0)), (3, .cv (.lit (.slice none 0 0)))], [(0, .raw [.lit (.int .i64 p0.Epoch), .lit (.int .i64 p0.Vote), .lit (.int .i64 p0.Commit), .ro Tag.t_api_Entry p0.Log])]⟩) (by kernel_rfl) trivial ?_
  refine awp_seq ?_
  refine awp_seq ?_
  obtain ⟨g1, h⟩ := guard_some h
  refine awp_region L 5 [] [] [3, 15, 16, 17] [] (cs := [(0 : Int) ≤ 0, (0 : Int) ≤ (if (p0.Log.length : Int) < (if (0 : Int) > p0.Commit then 0 else p0.Commit) then (p0.Log.length : Int) else (if (0 : Int) > p0.Commit then 0 else p0.Commit)), ((if (p0.Log.length : Int) < (if (0 : Int) > p0.Commit then 0 else p0.Commit) then (p0.Log.length : Int) else (if (0 : Int) > p0.Commit then 0 else p0.Commit))) ≤ (p0.Log.length : Int)]) (S' := ⟨[(3, .cv (.lit (.slice none 0 0))), (15, .cv (.ro Tag.t_api_Entry ((slc p0.Log 0 ((if (p0.Log.length : Int) < (if (0 : Int) > p0.Commit then 0 else p0.Commit) then (p0.Log.length : Int) else (if (0 : Int) > p0.Commit then 0 else p0.Commit))))))), (16, .cv (.lit (.int .i64 ((((slc p0.Log 0 ((if (p0.Log.length : Int) < (if (0 : Int) > p0.Commit then 0 else p0.Commit) then (p0.Log.length : Int) else (if (0 : Int) > p0.Commit then 0 else p0.Commit))))).length : Int))))), (17, .cv (.lit (.int .i64 0)))], []⟩) (by kernel_rfl) (And.intro (Int.le_refl _) (And.intro g1.1 g1.2)) ?_
  refine awp_block ?_
  refine awp_nilown 3 229 Tag.t_sl_uint8 (by kernel_rfl) (by kernel_rfl) ?_
  refine awp_keep (ts := [3, 15, 16, 17]) (ids := [229]) (S' := ⟨[(3, .cv (.own Tag.t_sl_uint8 229)), (15, .cv (.ro Tag.t_api_Entry ((slc p0.Log 0 ((if (p0.Log.length : Int) < (if (0 : Int) > p0.Commit then 0 else p0.Commit) then (p0.Log.length : Int) else (if (0 : Int) > p0.Commit then 0 else p0.Commit))))))), (16, .cv (.lit (.int .i64 ((((slc p0.Log 0 ((if (p0.Log.length : Int) < (if (0 : Int) > p0.Commit then 0 else p0.Commit) then (p0.Log.length : Int) else (if (0 : Int) > p0.Commit then 0 else p0.Commit))))).length : Int))))), (17, .cv (.lit (.int .i64 0)))], [(229, .lst Tag.t_sl_uint8 [])]⟩) (by kernel_rfl) ?_
  obtain ⟨o1, hp1, h⟩ := bind_some h
  refine awp_mono (Q' := fun e S => (e = .exit 0 ∧ ∃ xh229_9 : List (List UInt8), S = ⟨[(3, .cv (.own Tag.t_sl_uint8 229))], [(229, .lst Tag.t_sl_uint8 xh229_9)]⟩ ∧ xh229_9 = o1)) (awp_loop (fun k S => ∃ xt17_9h : Int, ∃ xh229_9h : List (List UInt8), S = ⟨[(3, .cv (.own Tag.t_sl_uint8 229)), (15, .cv (.ro Tag.t_api_Entry ((slc p0.Log 0 ((if (p0.Log.length : Int) < (if (0 : Int) > p0.Commit then 0 else p0.Commit) then (p0.Log.length : Int) else (if (0 : Int) > p0.Commit then 0 else p0.Commit))))))), (16, .cv (.lit (.int .i64 ((((slc p0.Log 0 ((if (p0.Log.length : Int) < (if (0 : Int) > p0.Commit then 0 else p0.Commit) then (p0.Log.length : Int) else (if (0 : Int) > p0.Commit then 0 else p0.Commit))))).length : Int))))), (17, .cv (.lit (.int .i64 xt17_9h)))], [(229, .lst Tag.t_sl_uint8 xh229_9h)]⟩ ∧ replog_Committed.l9 K p0 k xt17_9h xh229_9h = some o1) ?_ ⟨_, _, rfl, hp1⟩) ?_
  · clear h hp1
    intro k S hS
    obtain ⟨xt17_9h, xh229_9h, rfl, h⟩ := hS
    cases k with
    | zero => cases h
    | succ k =>
    unfold replog_Committed.l9 at h
    refine awp_seq ?_
    refine awp_region L 18 [] [] [3, 15, 16, 17, 18] [229] (cs := []) (S' := ⟨[(3, .cv (.own Tag.t_sl_uint8 229)), (15, .cv (.ro Tag.t_api_Entry ((slc p0.Log 0 ((if (p0.Log.length : Int) < (if (0 : Int) > p0.Commit then 0 else p0.Commit) then (p0.Log.length : Int) else (if (0 : Int) > p0.Commit then 0 else p0.Commit))))))), (16, .cv (.lit (.int .i64 ((((slc p0.Log 0 ((if (p0.Log.length : Int) < (if (0 : Int) > p0.Commit then 0 else p0.Commit) then (p0.Log.length : Int) else (if (0 : Int) > p0.Commit then 0 else p0.Commit))))).length : Int))))), (17, .cv (.lit (.int .i64 xt17_9h))), (18, .cv (.lit (.bool ((decide (xt17_9h < (((slc p0.Log 0 ((if (p0.Log.length : Int) < (if (0 : Int) > p0.Commit then 0 else p0.Commit) then (p0.Log.length : Int) else (if (0 : Int) > p0.Commit then 0 else p0.Commit))))).length : Int)))))))], [(229, .lst Tag.t_sl_uint8 xh229_9h)]⟩) (by kernel_rfl) trivial ?_
    refine awp_seq ?_
    rcases ite_some h with ⟨c1, h⟩ | ⟨c1, h⟩
    · refine awp_true (b := (decide (xt17_9h < (((slc p0.Log 0 ((if (p0.Log.length : Int) < (if (0 : Int) > p0.Commit then 0 else p0.Commit) then (p0.Log.length : Int) else (if (0 : Int) > p0.Commit then 0 else p0.Commit))))).length : Int)))) (by kernel_rfl) (decide_eq_true c1) ?_
      refine awp_skip [3, 15, 16, 17] [229] (S' := ⟨[(3, .cv (.own Tag.t_sl_uint8 229)), (15, .cv (.ro Tag.t_api_Entry ((slc p0.Log 0 ((if (p0.Log.length : Int) < (if (0 : Int) > p0.Commit then 0 else p0.Commit) then (p0.Log.length : Int) else (if (0 : Int) > p0.Commit then 0 else p0.Commit))))))), (16, .cv (.lit (.int .i64 ((((slc p0.Log 0 ((if (p0.Log.length : Int) < (if (0 : Int) > p0.Commit then 0 else p0.Commit) then (p0.Log.length : Int) else (if (0 : Int) > p0.Commit then 0 else p0.Commit))))).length : Int))))), (17, .cv (.lit (.int .i64 xt17_9h)))], [(229, .lst Tag.t_sl_uint8 xh229_9h)]⟩) (by kernel_rfl) ?_
      refine awp_seq ?_
      refine awp_block ?_
      refine awp_seq ?_
      obtain ⟨g2, h⟩ := guard_some h
      refine awp_region L 20 [] [] [3, 5, 15, 16, 17] [22, 229] (cs := [(0 : Int) ≤ xt17_9h, (xt17_9h : Int) < (((slc p0.Log 0 ((if (p0.Log.length : Int) < (if (0 : Int) > p0.Commit then 0 else p0.Commit) then (p0.Log.length : Int) else (if (0 : Int) > p0.Commit then 0 else p0.Commit))))).length : Int)]) (S' := ⟨[(3, .cv (.own Tag.t_sl_uint8 229)), (5, .cv (.ptr 22 0)), (15, .cv (.ro Tag.t_api_Entry ((slc p0.Log 0 ((if (p0.Log.length : Int) < (if (0 : Int) > p0.Commit then 0 else p0.Commit) then (p0.Log.length : Int) else (if (0 : Int) > p0.Commit then 0 else p0.Commit))))))), (16, .cv (.lit (.int .i64 ((((slc p0.Log 0 ((if (p0.Log.length : Int) < (if (0 : Int) > p0.Commit then 0 else p0.Commit) then (p0.Log.length : Int) else (if (0 : Int) > p0.Commit then 0 else p0.Commit))))).length : Int))))), (17, .cv (.lit (.int .i64 xt17_9h)))], [(22, .raw [.lit (.int .i64 (((((slc p0.Log 0 ((if (p0.Log.length : Int) < (if (0 : Int) > p0.Commit then 0 else p0.Commit) then (p0.Log.length : Int) else (if (0 : Int) > p0.Commit then 0 else p0.Commit))))).getD (Int.toNat xt17_9h) (⟨(0 : Int), ([] : List UInt8)⟩ : api_Entry))).Epoch)), .ro Tag.t_uint8 (((((slc p0.Log 0 ((if (p0.Log.length : Int) < (if (0 : Int) > p0.Commit then 0 else p0.Commit) then (p0.Log.length : Int) else (if (0 : Int) > p0.Commit then 0 else p0.Commit))))).getD (Int.toNat xt17_9h) (⟨(0 : Int), ([] : List UInt8)⟩ : api_Entry))).Data)]), (229, .lst Tag.t_sl_uint8 xh229_9h)]⟩) (by kernel_rfl) (And.intro g2.1 g2.2) ?_
      obtain ⟨a1, h1, h⟩ := bind_some h
      obtain ⟨g3, h⟩ := guard_some h
      refine awp_region L 25 [] [(3, .cv (.ro Tag.t_uint8 a1))] [3, 15, 16, 17] [229] (cs := [PCall V P 45 [.cv (.ro Tag.t_uint8 (((((slc p0.Log 0 ((if (p0.Log.length : Int) < (if (0 : Int) > p0.Commit then 0 else p0.Commit) then (p0.Log.length : Int) else (if (0 : Int) > p0.Commit then 0 else p0.Commit))))).getD (Int.toNat xt17_9h) (⟨(0 : Int), ([] : List UInt8)⟩ : api_Entry))).Data))] (.cv (.ro Tag.t_uint8 a1)), True, (xh229_9h.length + (([a1] : List (List UInt8))).length) * 24 ≤ 140737488355328, True]) (S' := ⟨[(3, .cv (.own Tag.t_sl_uint8 229)), (15, .cv (.ro Tag.t_api_Entry ((slc p0.Log 0 ((if (p0.Log.length : Int) < (if (0 : Int) > p0.Commit then 0 else p0.Commit) then (p0.Log.length : Int) else (if (0 : Int) > p0.Commit then 0 else p0.Commit))))))), (16, .cv (.lit (.int .i64 ((((slc p0.Log 0 ((if (p0.Log.length : Int) < (if (0 : Int) > p0.Commit then 0 else p0.Commit) then (p0.Log.length : Int) else (if (0 : Int) > p0.Commit then 0 else p0.Commit))))).length : Int))))), (17, .cv (.lit (.int .i64 xt17_9h)))], [(229, .lst Tag.t_sl_uint8 ((xh229_9h ++ ([a1] : List (List UInt8)))))]⟩) (by kernel_rfl) (And.intro (bytes_Clone.ok h1) (And.intro trivial (And.intro g3 trivial))) ?_
      refine awp_region L 33 [] [] [3, 15, 16, 17] [229] (cs := []) (S' := ⟨[(3, .cv (.own Tag.t_sl_uint8 229)), (15, .cv (.ro Tag.t_api_Entry ((slc p0.Log 0 ((if (p0.Log.length : Int) < (if (0 : Int) > p0.Commit then 0 else p0.Commit) then (p0.Log.length : Int) else (if (0 : Int) > p0.Commit then 0 else p0.Commit))))))), (16, .cv (.lit (.int .i64 ((((slc p0.Log 0 ((if (p0.Log.length : Int) < (if (0 : Int) > p0.Commit then 0 else p0.Commit) then (p0.Log.length : Int) else (if (0 : Int) > p0.Commit then 0 else p0.Commit))))).length : Int))))), (17, .cv (.lit (.int .i64 ((IntKind.i64.wrap (xt17_9h + 1))))))], [(229, .lst Tag.t_sl_uint8 ((xh229_9h ++ ([a1] : List (List UInt8)))))]⟩) (by kernel_rfl) trivial ?_
      exact ⟨k, Nat.lt_succ_self k, _, _, rfl, h⟩
    · refine awp_false (b := (decide (xt17_9h < (((slc p0.Log 0 ((if (p0.Log.length : Int) < (if (0 : Int) > p0.Commit then 0 else p0.Commit) then (p0.Log.length : Int) else (if (0 : Int) > p0.Commit then 0 else p0.Commit))))).length : Int)))) (by kernel_rfl) (decide_eq_false c1) ?_
      refine awp_exit [3] [229] (S' := ⟨[(3, .cv (.own Tag.t_sl_uint8 229))], [(229, .lst Tag.t_sl_uint8 xh229_9h)]⟩) (by kernel_rfl) ?_
      have hr := Option.some.inj h
      subst hr
      exact ⟨rfl, _, rfl, rfl⟩
  · rintro e S ⟨rfl, xh229_9, rfl, rfl⟩
    refine awp_seq ?_
    refine awp_region L 36 [] [] [2] [229] (cs := []) (S' := ⟨[(2, .cv (.own Tag.t_sl_uint8 229))], [(229, .lst Tag.t_sl_uint8 xh229_9)]⟩) (by kernel_rfl) trivial ?_
    refine awp_ret ?_
    have hr := Option.some.inj h
    subst hr
    exact ⟨.inr rfl, .cv (.own Tag.t_sl_uint8 229), by kernel_rfl, by kernel_rfl, trivial, by kernel_rfl⟩

theorem replog_Committed.ok {K : Nat} {p0 : api_Replica} {r : List (List UInt8)} (h : replog_Committed K p0 = some r) : PCall V P 26 [.agg [.lit (.int .i64 p0.Epoch), .lit (.int .i64 p0.Vote), .lit (.int .i64 p0.Commit), .ro Tag.t_api_Entry p0.Log]] (.cv (.ro Tag.t_sl_uint8 r)) :=
  pcall_of (fn := Try.f26) (n := 29) (by kernel_rfl) (by kernel_rfl) (by kernel_rfl) rfl (by kernel_rfl) (by kernel_rfl) fun Γ => replog_Committed.body h

def workflowref52_Committed.l9 (K : Nat) (p0 : api_Replica) : Nat → Int → (List (List UInt8)) → Option ((List (List UInt8)))
  | 0, _, _ => none
  | k + 1, xt4_9h, xh227_9h => (if xt4_9h < (p0.Log.length : Int) then (if xt4_9h < p0.Commit then (if (0 : Int) ≤ xt4_9h ∧ (xt4_9h : Int) < (p0.Log.length : Int) then (if (xh227_9h.length + (([((p0.Log.getD (Int.toNat xt4_9h) (⟨(0 : Int), ([] : List UInt8)⟩ : api_Entry))).Data] : List (List UInt8))).length) * 24 ≤ 140737488355328 then workflowref52_Committed.l9 K p0 k ((IntKind.i64.wrap (xt4_9h + 1))) ((xh227_9h ++ ([((p0.Log.getD (Int.toNat xt4_9h) (⟨(0 : Int), ([] : List UInt8)⟩ : api_Entry))).Data] : List (List UInt8)))) else none) else none) else some xh227_9h) else some xh227_9h)

def workflowref52_Committed (K : Nat) (p0 : api_Replica) : Option (List (List UInt8)) := (Option.bind (workflowref52_Committed.l9 K p0 K 0 [] : Option ((List (List UInt8)))) (fun xh227_9 => some xh227_9))

theorem workflowref52_Committed.body {Γ : Ent} {K : Nat} {p0 : api_Replica} {r : List (List UInt8)} (h : workflowref52_Committed K p0 = some r) : AWp V P 28 0 Γ (Try.f27.body.getD .skip) (Eng.Ends P V Try.f27 (.cv (.ro Tag.t_sl_uint8 r))) ⟨args0 0 [.agg [.lit (.int .i64 p0.Epoch), .lit (.int .i64 p0.Vote), .lit (.int .i64 p0.Commit), .ro Tag.t_api_Entry p0.Log]], []⟩ := by
  unfold workflowref52_Committed at h
  refine awp_seq ?_
  refine awp_region L 0 [] [] [1] [0] (cs := []) (S' := ⟨[(1, .cv (.ptr 0 0))], [(0, .raw [.lit (.int .i64 p0.Epoch), .lit (.int .i64 p0.Vote), .lit (.int .i64 p0.Commit), .ro Tag.t_api_Entry p0.Log])]⟩) (by kernel_rfl) trivial ?_
  refine awp_seq ?_
  refine awp_region L 3 [] [] [1, 3] [0] (cs := []) (S' := ⟨[(1, .cv (.ptr 0 0)), (3, .cv (.lit (.slice none 0 0)))], [(0, .raw [.lit (.int .i64 p0.Epoch), .lit (.int .i64 p0.Vote), .lit (.int .i64 p0.Commit), .ro Tag.t_api_Entry p0.Log])]⟩) (by kernel_rfl) trivial ?_
  refine awp_seq ?_
  refine awp_seq ?_
  refine awp_region L 5 [] [] [1, 3, 4] [0] (cs := []) (S' := ⟨[(1, .cv (.ptr 0 0)), (3, .cv (.lit (.slice none 0 0))), (4, .cv (.lit (.int .i64 0)))], [(0, .raw [.lit (.int .i64 p0.Epoch), .lit (.int .i64 p0.Vote), .lit (.int .i64 p0.Commit), .ro Tag.t_api_Entry p0.Log])]⟩) (by kernel_rfl) trivial ?_
  refine awp_block ?_
  refine awp_nilown 3 227 Tag.t_sl_uint8 (by kernel_rfl) (by kernel_rfl) ?_
  refine awp_keep (ts := [1, 3, 4]) (ids := [0, 227]) (S' := ⟨[(1, .cv (.ptr 0 0)), (3, .cv (.own Tag.t_sl_uint8 227)), (4, .cv (.lit (.int .i64 0)))], [(0, .raw [.lit (.int .i64 p0.Epoch), .lit (.int .i64 p0.Vote), .lit (.int .i64 p0.Commit), .ro Tag.t_api_Entry p0.Log]), (227, .lst Tag.t_sl_uint8 [])]⟩) (by kernel_rfl) ?_
  obtain ⟨o1, hp1, h⟩ := bind_some h
  refine awp_mono (Q' := fun e S => (e = .exit 0 ∧ ∃ xh227_9 : List (List UInt8), S = ⟨[(3, .cv (.own Tag.t_sl_uint8 227))], [(227, .lst Tag.t_sl_uint8 xh227_9)]⟩ ∧ xh227_9 = o1)) (awp_loop (fun k S => ∃ xt4_9h : Int, ∃ xh227_9h : List (List UInt8), S = ⟨[(1, .cv (.ptr 0 0)), (3, .cv (.own Tag.t_sl_uint8 227)), (4, .cv (.lit (.int .i64 xt4_9h)))], [(0, .raw [.lit (.int .i64 p0.Epoch), .lit (.int .i64 p0.Vote), .lit (.int .i64 p0.Commit), .ro Tag.t_api_Entry p0.Log]), (227, .lst Tag.t_sl_uint8 xh227_9h)]⟩ ∧ workflowref52_Committed.l9 K p0 k xt4_9h xh227_9h = some o1) ?_ ⟨_, _, rfl, hp1⟩) ?_
  · clear h hp1
    intro k S hS
    obtain ⟨xt4_9h, xh227_9h, rfl, h⟩ := hS
    cases k with
    | zero => cases h
    | succ k =>
    unfold workflowref52_Committed.l9 at h
    refine awp_seq ?_
    refine awp_seq ?_
    rcases ite_some h with ⟨c1, h⟩ | ⟨c1, h⟩
    · refine awp_region L 7 [(5, true)] [] [1, 3, 4, 15] [0, 227] (cs := [(decide (xt4_9h < (p0.Log.length : Int))) = true]) (S' := ⟨[(1, .cv (.ptr 0 0)), (3, .cv (.own Tag.t_sl_uint8 227)), (4, .cv (.lit (.int .i64 xt4_9h))), (15, .cv (.lit (.bool ((decide (xt4_9h < p0.Commit))))))], [(0, .raw [.lit (.int .i64 p0.Epoch), .lit (.int .i64 p0.Vote), .lit (.int .i64 p0.Commit), .ro Tag.t_api_Entry p0.Log]), (227, .lst Tag.t_sl_uint8 xh227_9h)]⟩) (by kernel_rfl) (decide_eq_true c1) ?_
      rcases ite_some h with ⟨c2, h⟩ | ⟨c2, h⟩
      · refine awp_true (b := (decide (xt4_9h < p0.Commit))) (by kernel_rfl) (decide_eq_true c2) ?_
        refine awp_skip [1, 3, 4] [0, 227] (S' := ⟨[(1, .cv (.ptr 0 0)), (3, .cv (.own Tag.t_sl_uint8 227)), (4, .cv (.lit (.int .i64 xt4_9h)))], [(0, .raw [.lit (.int .i64 p0.Epoch), .lit (.int .i64 p0.Vote), .lit (.int .i64 p0.Commit), .ro Tag.t_api_Entry p0.Log]), (227, .lst Tag.t_sl_uint8 xh227_9h)]⟩) (by kernel_rfl) ?_
        refine awp_seq ?_
        refine awp_block ?_
        obtain ⟨g1, h⟩ := guard_some h
        obtain ⟨g2, h⟩ := guard_some h
        refine awp_region L 19 [] [] [1, 3, 4] [0, 227] (cs := [(0 : Int) ≤ xt4_9h, (xt4_9h : Int) < (p0.Log.length : Int), (xh227_9h.length + (([((p0.Log.getD (Int.toNat xt4_9h) (⟨(0 : Int), ([] : List UInt8)⟩ : api_Entry))).Data] : List (List UInt8))).length) * 24 ≤ 140737488355328, True]) (S' := ⟨[(1, .cv (.ptr 0 0)), (3, .cv (.own Tag.t_sl_uint8 227)), (4, .cv (.lit (.int .i64 xt4_9h)))], [(0, .raw [.lit (.int .i64 p0.Epoch), .lit (.int .i64 p0.Vote), .lit (.int .i64 p0.Commit), .ro Tag.t_api_Entry p0.Log]), (227, .lst Tag.t_sl_uint8 ((xh227_9h ++ ([((p0.Log.getD (Int.toNat xt4_9h) (⟨(0 : Int), ([] : List UInt8)⟩ : api_Entry))).Data] : List (List UInt8)))))]⟩) (by kernel_rfl) (And.intro g1.1 (And.intro g1.2 (And.intro g2 trivial))) ?_
        refine awp_region L 30 [] [] [1, 3, 4] [0, 227] (cs := []) (S' := ⟨[(1, .cv (.ptr 0 0)), (3, .cv (.own Tag.t_sl_uint8 227)), (4, .cv (.lit (.int .i64 ((IntKind.i64.wrap (xt4_9h + 1))))))], [(0, .raw [.lit (.int .i64 p0.Epoch), .lit (.int .i64 p0.Vote), .lit (.int .i64 p0.Commit), .ro Tag.t_api_Entry p0.Log]), (227, .lst Tag.t_sl_uint8 ((xh227_9h ++ ([((p0.Log.getD (Int.toNat xt4_9h) (⟨(0 : Int), ([] : List UInt8)⟩ : api_Entry))).Data] : List (List UInt8)))))]⟩) (by kernel_rfl) trivial ?_
        exact ⟨k, Nat.lt_succ_self k, _, _, rfl, h⟩
      · refine awp_false (b := (decide (xt4_9h < p0.Commit))) (by kernel_rfl) (decide_eq_false c2) ?_
        refine awp_exit [3] [227] (S' := ⟨[(3, .cv (.own Tag.t_sl_uint8 227))], [(227, .lst Tag.t_sl_uint8 xh227_9h)]⟩) (by kernel_rfl) ?_
        have hr := Option.some.inj h
        subst hr
        exact ⟨rfl, _, rfl, rfl⟩
    · refine awp_region L 7 [(5, false)] [] [1, 3, 4, 15] [0, 227] (cs := [(decide (xt4_9h < (p0.Log.length : Int))) = false]) (S' := ⟨[(1, .cv (.ptr 0 0)), (3, .cv (.own Tag.t_sl_uint8 227)), (4, .cv (.lit (.int .i64 xt4_9h))), (15, .cv (.lit (.bool false)))], [(0, .raw [.lit (.int .i64 p0.Epoch), .lit (.int .i64 p0.Vote), .lit (.int .i64 p0.Commit), .ro Tag.t_api_Entry p0.Log]), (227, .lst Tag.t_sl_uint8 xh227_9h)]⟩) (by kernel_rfl) (decide_eq_false c1) ?_
      refine awp_false (b := false) (by kernel_rfl) (rfl) ?_
      refine awp_exit [3] [227] (S' := ⟨[(3, .cv (.own Tag.t_sl_uint8 227))], [(227, .lst Tag.t_sl_uint8 xh227_9h)]⟩) (by kernel_rfl) ?_
      have hr := Option.some.inj h
      subst hr
      exact ⟨rfl, _, rfl, rfl⟩
  · rintro e S ⟨rfl, xh227_9, rfl, rfl⟩
    refine awp_seq ?_
    refine awp_region L 34 [] [] [2] [227] (cs := []) (S' := ⟨[(2, .cv (.own Tag.t_sl_uint8 227))], [(227, .lst Tag.t_sl_uint8 xh227_9)]⟩) (by kernel_rfl) trivial ?_
    refine awp_ret ?_
    have hr := Option.some.inj h
    subst hr
    exact ⟨.inr rfl, .cv (.own Tag.t_sl_uint8 227), by kernel_rfl, by kernel_rfl, trivial, by kernel_rfl⟩

theorem workflowref52_Committed.ok {K : Nat} {p0 : api_Replica} {r : List (List UInt8)} (h : workflowref52_Committed K p0 = some r) : PCall V P 27 [.agg [.lit (.int .i64 p0.Epoch), .lit (.int .i64 p0.Vote), .lit (.int .i64 p0.Commit), .ro Tag.t_api_Entry p0.Log]] (.cv (.ro Tag.t_sl_uint8 r)) :=
  pcall_of (fn := Try.f27) (n := 28) (by kernel_rfl) (by kernel_rfl) (by kernel_rfl) rfl (by kernel_rfl) (by kernel_rfl) fun Γ => workflowref52_Committed.body h

def workflowref52_SameData.l15 (K : Nat) (p0 : List (List UInt8)) (p1 : List (List UInt8)) : Nat → Int → Option (Out Bool Unit)
  | 0, _ => none
  | k + 1, xt5_15h => (if xt5_15h < (p0.length : Int) then (if (0 : Int) ≤ xt5_15h ∧ (xt5_15h : Int) < (p0.length : Int) then (if (xt5_15h : Int) < (p1.length : Int) then (Option.bind (workflowref52_Agree K ((⟨0, (p0.getD (Int.toNat xt5_15h) ([] : List UInt8))⟩ : api_Entry)) ((⟨0, (p1.getD (Int.toNat xt5_15h) ([] : List UInt8))⟩ : api_Entry))) (fun a1 => (if a1 = true then workflowref52_SameData.l15 K p0 p1 k ((IntKind.i64.wrap (xt5_15h + 1))) else some (Out.done false)))) else none) else none) else some (Out.go ()))

def workflowref52_SameData (K : Nat) (p0 : List (List UInt8)) (p1 : List (List UInt8)) : Option Bool := (if (p0.length : Int) ≠ (p1.length : Int) then some false else (obind (workflowref52_SameData.l15 K p0 p1 K 0 : Option (Out Bool Unit)) (fun r => r) (fun _ => some true)))

theorem workflowref52_SameData.body {Γ : Ent} {K : Nat} {p0 : List (List UInt8)} {p1 : List (List UInt8)} {r : Bool} (h : workflowref52_SameData K p0 p1 = some r) : AWp V P 29 0 Γ (Try.f25.body.getD .skip) (Eng.Ends P V Try.f25 (.cv (.lit (.bool r)))) ⟨args0 0 [.cv (.ro Tag.t_sl_uint8 p0), .cv (.ro Tag.t_sl_uint8 p1)], []⟩ := by
  unfold workflowref52_SameData at h
  refine awp_seq ?_
  refine awp_region L 0 [] [] [0, 1] [] (cs := []) (S' := ⟨[(0, .cv (.ro Tag.t_sl_uint8 p0)), (1, .cv (.ro Tag.t_sl_uint8 p1))], []⟩) (by kernel_rfl) trivial ?_
  refine awp_seq ?_
  refine awp_seq ?_
  refine awp_region L 2 [] [] [0, 1, 10] [] (cs := []) (S' := ⟨[(0, .cv (.ro Tag.t_sl_uint8 p0)), (1, .cv (.ro Tag.t_sl_uint8 p1)), (10, .cv (.lit (.bool ((decide ((p0.length : Int) ≠ (p1.length : Int)))))))], []⟩) (by kernel_rfl) trivial ?_
  rcases ite_some h with ⟨c1, h⟩ | ⟨c1, h⟩
  · refine awp_true (b := (decide ((p0.length : Int) ≠ (p1.length : Int)))) (by kernel_rfl) (decide_eq_true c1) ?_
    refine awp_seq ?_
    refine awp_region L 8 [] [] [4] [] (cs := []) (S' := ⟨[(4, .cv (.lit (.bool false)))], []⟩) (by kernel_rfl) trivial ?_
    refine awp_ret ?_
    have hr := Option.some.inj h
    subst hr
    exact ⟨.inr rfl, .cv (.lit (.bool false)), by kernel_rfl, by kernel_rfl, trivial, by kernel_rfl⟩
  · refine awp_false (b := (decide ((p0.length : Int) ≠ (p1.length : Int)))) (by kernel_rfl) (decide_eq_false c1) ?_
    refine awp_skip [0, 1] [] (S' := ⟨[(0, .cv (.ro Tag.t_sl_uint8 p0)), (1, .cv (.ro Tag.t_sl_uint8 p1))], []⟩) (by kernel_rfl) ?_
    refine awp_seq ?_
    refine awp_seq ?_
    refine awp_region L 10 [] [] [0, 1, 5] [] (cs := []) (S' := ⟨[(0, .cv (.ro Tag.t_sl_uint8 p0)), (1, .cv (.ro Tag.t_sl_uint8 p1)), (5, .cv (.lit (.int .i64 0)))], []⟩) (by kernel_rfl) trivial ?_
    refine awp_block ?_
    refine awp_keep (ts := [0, 1, 5]) (ids := []) (S' := ⟨[(0, .cv (.ro Tag.t_sl_uint8 p0)), (1, .cv (.ro Tag.t_sl_uint8 p1)), (5, .cv (.lit (.int .i64 0)))], []⟩) (by kernel_rfl) ?_
    obtain ⟨o1, hp1, h⟩ := obind_some h
    refine awp_mono (Q' := fun e S => (e = .exit 0 ∧ S = ⟨[], []⟩ ∧ Out.go () = o1) ∨ (e = .ret ∧ ∃ a, Out.done a = o1 ∧ Eng.Ends P V Try.f25 (.cv (.lit (.bool a))) .ret S)) (awp_loop (fun k S => ∃ xt5_15h : Int, S = ⟨[(0, .cv (.ro Tag.t_sl_uint8 p0)), (1, .cv (.ro Tag.t_sl_uint8 p1)), (5, .cv (.lit (.int .i64 xt5_15h)))], []⟩ ∧ workflowref52_SameData.l15 K p0 p1 k xt5_15h = some o1) ?_ ⟨_, rfl, hp1⟩) ?_
    · clear h hp1
      intro k S hS
      obtain ⟨xt5_15h, rfl, h⟩ := hS
      cases k with
      | zero => cases h
      | succ k =>
      unfold workflowref52_SameData.l15 at h
      refine awp_seq ?_
      refine awp_seq ?_
      refine awp_region L 12 [] [] [0, 1, 5, 14] [] (cs := []) (S' := ⟨[(0, .cv (.ro Tag.t_sl_uint8 p0)), (1, .cv (.ro Tag.t_sl_uint8 p1)), (5, .cv (.lit (.int .i64 xt5_15h))), (14, .cv (.lit (.bool ((decide (xt5_15h < (p0.length : Int)))))))], []⟩) (by kernel_rfl) trivial ?_
      rcases ite_some h with ⟨c2, h⟩ | ⟨c2, h⟩
      · refine awp_true (b := (decide (xt5_15h < (p0.length : Int)))) (by kernel_rfl) (decide_eq_true c2) ?_
        refine awp_skip [0, 1, 5] [] (S' := ⟨[(0, .cv (.ro Tag.t_sl_uint8 p0)), (1, .cv (.ro Tag.t_sl_uint8 p1)), (5, .cv (.lit (.int .i64 xt5_15h)))], []⟩) (by kernel_rfl) ?_
        refine awp_seq ?_
        refine awp_block ?_
        refine awp_seq ?_
        obtain ⟨g1, h⟩ := guard_some h
        obtain ⟨g2, h⟩ := guard_some h
        obtain ⟨a1, h1, h⟩ := bind_some h
        refine awp_draw L mixed 17 [] [(10, .cv (.lit (.bool a1)))] 12 [0, 1, 5, 28] [] (cs := [(0 : Int) ≤ xt5_15h, (xt5_15h : Int) < (p0.length : Int), (0 : Int) ≤ xt5_15h, (xt5_15h : Int) < (p1.length : Int), PCall V P 19 [.agg [.lit (.int .i64 0), .ro Tag.t_uint8 ((p0.getD (Int.toNat xt5_15h) ([] : List UInt8)))], .agg [.lit (.int .i64 0), .ro Tag.t_uint8 ((p1.getD (Int.toNat xt5_15h) ([] : List UInt8)))]] (.cv (.lit (.bool a1))), True]) (S' := ⟨[(0, .cv (.ro Tag.t_sl_uint8 p0)), (1, .cv (.ro Tag.t_sl_uint8 p1)), (5, .cv (.lit (.int .i64 xt5_15h))), (28, .cv (.lit (.bool (!a1))))], []⟩) (by kernel_rfl) (And.intro g1.1 (And.intro g1.2 (And.intro g1.1 (And.intro g2 (And.intro (workflowref52_Agree.ok h1) trivial))))) ?_
        rcases ite_some h with ⟨c3, h⟩ | ⟨c3, h⟩
        · refine awp_false (b := (!a1)) (by kernel_rfl) (congrArg Bool.not (c3)) ?_
          refine awp_skip [0, 1, 5] [] (S' := ⟨[(0, .cv (.ro Tag.t_sl_uint8 p0)), (1, .cv (.ro Tag.t_sl_uint8 p1)), (5, .cv (.lit (.int .i64 xt5_15h)))], []⟩) (by kernel_rfl) ?_
          refine awp_region L 32 [] [] [0, 1, 5] [] (cs := []) (S' := ⟨[(0, .cv (.ro Tag.t_sl_uint8 p0)), (1, .cv (.ro Tag.t_sl_uint8 p1)), (5, .cv (.lit (.int .i64 ((IntKind.i64.wrap (xt5_15h + 1))))))], []⟩) (by kernel_rfl) trivial ?_
          exact ⟨k, Nat.lt_succ_self k, _, rfl, h⟩
        · refine awp_true (b := (!a1)) (by kernel_rfl) (congrArg Bool.not (eq_false_of_ne_true c3)) ?_
          refine awp_seq ?_
          refine awp_region L 30 [] [] [4] [] (cs := []) (S' := ⟨[(4, .cv (.lit (.bool false)))], []⟩) (by kernel_rfl) trivial ?_
          refine awp_ret ?_
          have hr := Option.some.inj h
          subst hr
          exact .inr ⟨rfl, _, rfl, ⟨.inr rfl, .cv (.lit (.bool false)), by kernel_rfl, by kernel_rfl, trivial, by kernel_rfl⟩⟩
      · refine awp_false (b := (decide (xt5_15h < (p0.length : Int)))) (by kernel_rfl) (decide_eq_false c2) ?_
        refine awp_exit [] [] (S' := ⟨[], []⟩) (by kernel_rfl) ?_
        have hr := Option.some.inj h
        subst hr
        exact .inl ⟨rfl, rfl, rfl⟩
    · rintro e S (⟨rfl, rfl, rfl⟩ | ⟨rfl, a, rfl, hr⟩)
      · rcases h with ⟨_, e1, h⟩ | ⟨_, e1, h⟩
        · cases e1
        · have e2 := Out.go.inj e1
          subst e2
          refine awp_seq ?_
          refine awp_region L 36 [] [] [4] [] (cs := []) (S' := ⟨[(4, .cv (.lit (.bool true)))], []⟩) (by kernel_rfl) trivial ?_
          refine awp_ret ?_
          have hr := Option.some.inj h
          subst hr
          exact ⟨.inr rfl, .cv (.lit (.bool true)), by kernel_rfl, by kernel_rfl, trivial, by kernel_rfl⟩
      · rcases h with ⟨_, e1, h⟩ | ⟨_, e1, h⟩
        · have e2 := Out.done.inj e1
          subst e2
          subst h
          exact hr
        · cases e1

theorem workflowref52_SameData.ok {K : Nat} {p0 : List (List UInt8)} {p1 : List (List UInt8)} {r : Bool} (h : workflowref52_SameData K p0 p1 = some r) : PCall V P 25 [.cv (.ro Tag.t_sl_uint8 p0), .cv (.ro Tag.t_sl_uint8 p1)] (.cv (.lit (.bool r))) :=
  pcall_of (fn := Try.f25) (n := 29) (by kernel_rfl) (by kernel_rfl) (by kernel_rfl) rfl (by kernel_rfl) (by kernel_rfl) fun Γ => workflowref52_SameData.body h

def slices_EqualFunc_48_f41.l15 (K : Nat) (p0 : List api_Entry) (p1 : List api_Entry) : Nat → Int → Option (Out Bool Unit)
  | 0, _ => none
  | k + 1, xt17_15h => (if xt17_15h < (p0.length : Int) then (if (0 : Int) ≤ xt17_15h ∧ (xt17_15h : Int) < (p0.length : Int) then (if (xt17_15h : Int) < (p1.length : Int) then (Option.bind (replog_agree K ((p0.getD (Int.toNat xt17_15h) (⟨(0 : Int), ([] : List UInt8)⟩ : api_Entry))) ((p1.getD (Int.toNat xt17_15h) (⟨(0 : Int), ([] : List UInt8)⟩ : api_Entry)))) (fun a1 => (if a1 = true then slices_EqualFunc_48_f41.l15 K p0 p1 k ((IntKind.i64.wrap (xt17_15h + 1))) else some (Out.done false)))) else none) else none) else some (Out.go ()))

def slices_EqualFunc_48_f41 (K : Nat) (p0 : List api_Entry) (p1 : List api_Entry) : Option Bool := (if (p0.length : Int) ≠ (p1.length : Int) then some false else (obind (slices_EqualFunc_48_f41.l15 K p0 p1 K 0 : Option (Out Bool Unit)) (fun r => r) (fun _ => some true)))

theorem slices_EqualFunc_48_f41.body {Γ : Ent} {K : Nat} {p0 : List api_Entry} {p1 : List api_Entry} {r : Bool} (h : slices_EqualFunc_48_f41 K p0 p1 = some r) : AWp V P 32 0 Γ (Try.f48.body.getD .skip) (Eng.Ends P V Try.f48 (.cv (.lit (.bool r)))) ⟨args0 0 [.cv (.ro Tag.t_api_Entry p0), .cv (.ro Tag.t_api_Entry p1), .cv (.fn (.func 41) [] [])], []⟩ := by
  unfold slices_EqualFunc_48_f41 at h
  refine awp_seq ?_
  refine awp_region L 0 [] [] [0, 1, 2] [] (cs := []) (S' := ⟨[(0, .cv (.ro Tag.t_api_Entry p0)), (1, .cv (.ro Tag.t_api_Entry p1)), (2, .cv (.fn (.func 41) [] []))], []⟩) (by kernel_rfl) trivial ?_
  refine awp_seq ?_
  refine awp_seq ?_
  refine awp_region L 2 [] [] [0, 1, 2, 14] [] (cs := []) (S' := ⟨[(0, .cv (.ro Tag.t_api_Entry p0)), (1, .cv (.ro Tag.t_api_Entry p1)), (2, .cv (.fn (.func 41) [] [])), (14, .cv (.lit (.bool ((decide ((p0.length : Int) ≠ (p1.length : Int)))))))], []⟩) (by kernel_rfl) trivial ?_
  rcases ite_some h with ⟨c1, h⟩ | ⟨c1, h⟩
  · refine awp_true (b := (decide ((p0.length : Int) ≠ (p1.length : Int)))) (by kernel_rfl) (decide_eq_true c1) ?_
    refine awp_seq ?_
    refine awp_region L 8 [] [] [6] [] (cs := []) (S' := ⟨[(6, .cv (.lit (.bool false)))], []⟩) (by kernel_rfl) trivial ?_
    refine awp_ret ?_
    have hr := Option.some.inj h
    subst hr
    exact ⟨.inr rfl, .cv (.lit (.bool false)), by kernel_rfl, by kernel_rfl, trivial, by kernel_rfl⟩
  · refine awp_false (b := (decide ((p0.length : Int) ≠ (p1.length : Int)))) (by kernel_rfl) (decide_eq_false c1) ?_
    refine awp_skip [0, 1, 2] [] (S' := ⟨[(0, .cv (.ro Tag.t_api_Entry p0)), (1, .cv (.ro Tag.t_api_Entry p1)), (2, .cv (.fn (.func 41) [] []))], []⟩) (by kernel_rfl) ?_
    refine awp_seq ?_
    refine awp_seq ?_
    refine awp_region L 10 [] [] [1, 2, 15, 16, 17] [] (cs := []) (S' := ⟨[(1, .cv (.ro Tag.t_api_Entry p1)), (2, .cv (.fn (.func 41) [] [])), (15, .cv (.ro Tag.t_api_Entry p0)), (16, .cv (.lit (.int .i64 (p0.length : Int)))), (17, .cv (.lit (.int .i64 0)))], []⟩) (by kernel_rfl) trivial ?_
    refine awp_block ?_
    refine awp_keep (ts := [1, 2, 15, 16, 17]) (ids := []) (S' := ⟨[(1, .cv (.ro Tag.t_api_Entry p1)), (2, .cv (.fn (.func 41) [] [])), (15, .cv (.ro Tag.t_api_Entry p0)), (16, .cv (.lit (.int .i64 (p0.length : Int)))), (17, .cv (.lit (.int .i64 0)))], []⟩) (by kernel_rfl) ?_
    obtain ⟨o1, hp1, h⟩ := obind_some h
    refine awp_mono (Q' := fun e S => (e = .exit 0 ∧ S = ⟨[], []⟩ ∧ Out.go () = o1) ∨ (e = .ret ∧ ∃ a, Out.done a = o1 ∧ Eng.Ends P V Try.f48 (.cv (.lit (.bool a))) .ret S)) (awp_loop (fun k S => ∃ xt17_15h : Int, S = ⟨[(1, .cv (.ro Tag.t_api_Entry p1)), (2, .cv (.fn (.func 41) [] [])), (15, .cv (.ro Tag.t_api_Entry p0)), (16, .cv (.lit (.int .i64 (p0.length : Int)))), (17, .cv (.lit (.int .i64 xt17_15h)))], []⟩ ∧ slices_EqualFunc_48_f41.l15 K p0 p1 k xt17_15h = some o1) ?_ ⟨_, rfl, hp1⟩) ?_
    · clear h hp1
      intro k S hS
      obtain ⟨xt17_15h, rfl, h⟩ := hS
      cases k with
      | zero => cases h
      | succ k =>
      unfold slices_EqualFunc_48_f41.l15 at h
      refine awp_seq ?_
      refine awp_region L 14 [] [] [1, 2, 15, 16, 17, 18] [] (cs := []) (S' := ⟨[(1, .cv (.ro Tag.t_api_Entry p1)), (2, .cv (.fn (.func 41) [] [])), (15, .cv (.ro Tag.t_api_Entry p0)), (16, .cv (.lit (.int .i64 (p0.length : Int)))), (17, .cv (.lit (.int .i64 xt17_15h))), (18, .cv (.lit (.bool ((decide (xt17_15h < (p0.length : Int)))))))], []⟩) (by kernel_rfl) trivial ?_
      refine awp_seq ?_
      rcases ite_some h with ⟨c2, h⟩ | ⟨c2, h⟩
      · refine awp_true (b := (decide (xt17_15h < (p0.length : Int)))) (by kernel_rfl) (decide_eq_true c2) ?_
        refine awp_skip [1, 2, 15, 16, 17] [] (S' := ⟨[(1, .cv (.ro Tag.t_api_Entry p1)), (2, .cv (.fn (.func 41) [] [])), (15, .cv (.ro Tag.t_api_Entry p0)), (16, .cv (.lit (.int .i64 (p0.length : Int)))), (17, .cv (.lit (.int .i64 xt17_15h)))], []⟩) (by kernel_rfl) ?_
        refine awp_seq ?_
        refine awp_block ?_
        refine awp_seq ?_
        obtain ⟨g1, h⟩ := guard_some h
        refine awp_region L 16 [] [] [1, 2, 7, 8, 15, 16, 17] [19] (cs := [(0 : Int) ≤ xt17_15h, (xt17_15h : Int) < (p0.length : Int)]) (S' := ⟨[(1, .cv (.ro Tag.t_api_Entry p1)), (2, .cv (.fn (.func 41) [] [])), (7, .cv (.lit (.int .i64 xt17_15h))), (8, .cv (.ptr 19 0)), (15, .cv (.ro Tag.t_api_Entry p0)), (16, .cv (.lit (.int .i64 (p0.length : Int)))), (17, .cv (.lit (.int .i64 xt17_15h)))], [(19, .raw [.lit (.int .i64 (((p0.getD (Int.toNat xt17_15h) (⟨(0 : Int), ([] : List UInt8)⟩ : api_Entry))).Epoch)), .ro Tag.t_uint8 (((p0.getD (Int.toNat xt17_15h) (⟨(0 : Int), ([] : List UInt8)⟩ : api_Entry))).Data)])]⟩) (by kernel_rfl) (And.intro g1.1 g1.2) ?_
        refine awp_seq ?_
        obtain ⟨g2, h⟩ := guard_some h
        refine awp_region L 23 [] [] [1, 2, 8, 9, 15, 16, 17] [19, 27] (cs := [(0 : Int) ≤ xt17_15h, (xt17_15h : Int) < (p1.length : Int)]) (S' := ⟨[(1, .cv (.ro Tag.t_api_Entry p1)), (2, .cv (.fn (.func 41) [] [])), (8, .cv (.ptr 19 0)), (9, .cv (.ptr 27 0)), (15, .cv (.ro Tag.t_api_Entry p0)), (16, .cv (.lit (.int .i64 (p0.length : Int)))), (17, .cv (.lit (.int .i64 xt17_15h)))], [(19, .raw [.lit (.int .i64 (((p0.getD (Int.toNat xt17_15h) (⟨(0 : Int), ([] : List UInt8)⟩ : api_Entry))).Epoch)), .ro Tag.t_uint8 (((p0.getD (Int.toNat xt17_15h) (⟨(0 : Int), ([] : List UInt8)⟩ : api_Entry))).Data)]), (27, .raw [.lit (.int .i64 (((p1.getD (Int.toNat xt17_15h) (⟨(0 : Int), ([] : List UInt8)⟩ : api_Entry))).Epoch)), .ro Tag.t_uint8 (((p1.getD (Int.toNat xt17_15h) (⟨(0 : Int), ([] : List UInt8)⟩ : api_Entry))).Data)])]⟩) (by kernel_rfl) (And.intro g1.1 g2) ?_
        refine awp_seq ?_
        obtain ⟨a1, h1, h⟩ := bind_some h
        refine awp_region L 30 [] [(3, .cv (.lit (.bool a1)))] [1, 2, 15, 16, 17, 30] [] (cs := [PCall V P 41 [.agg [.lit (.int .i64 (((p0.getD (Int.toNat xt17_15h) (⟨(0 : Int), ([] : List UInt8)⟩ : api_Entry))).Epoch)), .ro Tag.t_uint8 (((p0.getD (Int.toNat xt17_15h) (⟨(0 : Int), ([] : List UInt8)⟩ : api_Entry))).Data)], .agg [.lit (.int .i64 (((p1.getD (Int.toNat xt17_15h) (⟨(0 : Int), ([] : List UInt8)⟩ : api_Entry))).Epoch)), .ro Tag.t_uint8 (((p1.getD (Int.toNat xt17_15h) (⟨(0 : Int), ([] : List UInt8)⟩ : api_Entry))).Data)]] (.cv (.lit (.bool a1))), True]) (S' := ⟨[(1, .cv (.ro Tag.t_api_Entry p1)), (2, .cv (.fn (.func 41) [] [])), (15, .cv (.ro Tag.t_api_Entry p0)), (16, .cv (.lit (.int .i64 (p0.length : Int)))), (17, .cv (.lit (.int .i64 xt17_15h))), (30, .cv (.lit (.bool (!a1))))], []⟩) (by kernel_rfl) (And.intro (replog_agree.ok h1) trivial) ?_
        rcases ite_some h with ⟨c3, h⟩ | ⟨c3, h⟩
        · refine awp_false (b := (!a1)) (by kernel_rfl) (congrArg Bool.not (c3)) ?_
          refine awp_skip [1, 2, 15, 16, 17] [] (S' := ⟨[(1, .cv (.ro Tag.t_api_Entry p1)), (2, .cv (.fn (.func 41) [] [])), (15, .cv (.ro Tag.t_api_Entry p0)), (16, .cv (.lit (.int .i64 (p0.length : Int)))), (17, .cv (.lit (.int .i64 xt17_15h)))], []⟩) (by kernel_rfl) ?_
          refine awp_region L 38 [] [] [1, 2, 15, 16, 17] [] (cs := []) (S' := ⟨[(1, .cv (.ro Tag.t_api_Entry p1)), (2, .cv (.fn (.func 41) [] [])), (15, .cv (.ro Tag.t_api_Entry p0)), (16, .cv (.lit (.int .i64 (p0.length : Int)))), (17, .cv (.lit (.int .i64 ((IntKind.i64.wrap (xt17_15h + 1))))))], []⟩) (by kernel_rfl) trivial ?_
          exact ⟨k, Nat.lt_succ_self k, _, rfl, h⟩
        · refine awp_true (b := (!a1)) (by kernel_rfl) (congrArg Bool.not (eq_false_of_ne_true c3)) ?_
          refine awp_seq ?_
          refine awp_region L 36 [] [] [6] [] (cs := []) (S' := ⟨[(6, .cv (.lit (.bool false)))], []⟩) (by kernel_rfl) trivial ?_
          refine awp_ret ?_
          have hr := Option.some.inj h
          subst hr
          exact .inr ⟨rfl, _, rfl, ⟨.inr rfl, .cv (.lit (.bool false)), by kernel_rfl, by kernel_rfl, trivial, by kernel_rfl⟩⟩
      · refine awp_false (b := (decide (xt17_15h < (p0.length : Int)))) (by kernel_rfl) (decide_eq_false c2) ?_
        refine awp_exit [] [] (S' := ⟨[], []⟩) (by kernel_rfl) ?_
        have hr := Option.some.inj h
        subst hr
        exact .inl ⟨rfl, rfl, rfl⟩
    · rintro e S (⟨rfl, rfl, rfl⟩ | ⟨rfl, a, rfl, hr⟩)
      · rcases h with ⟨_, e1, h⟩ | ⟨_, e1, h⟩
        · cases e1
        · have e2 := Out.go.inj e1
          subst e2
          refine awp_seq ?_
          refine awp_region L 41 [] [] [6] [] (cs := []) (S' := ⟨[(6, .cv (.lit (.bool true)))], []⟩) (by kernel_rfl) trivial ?_
          refine awp_ret ?_
          have hr := Option.some.inj h
          subst hr
          exact ⟨.inr rfl, .cv (.lit (.bool true)), by kernel_rfl, by kernel_rfl, trivial, by kernel_rfl⟩
      · rcases h with ⟨_, e1, h⟩ | ⟨_, e1, h⟩
        · have e2 := Out.done.inj e1
          subst e2
          subst h
          exact hr
        · cases e1

theorem slices_EqualFunc_48_f41.ok {K : Nat} {p0 : List api_Entry} {p1 : List api_Entry} {r : Bool} (h : slices_EqualFunc_48_f41 K p0 p1 = some r) : PCall V P 48 [.cv (.ro Tag.t_api_Entry p0), .cv (.ro Tag.t_api_Entry p1), .cv (.fn (.func 41) [] [])] (.cv (.lit (.bool r))) :=
  pcall_of (fn := Try.f48) (n := 32) (by kernel_rfl) (by kernel_rfl) (by kernel_rfl) rfl (by kernel_rfl) (by kernel_rfl) fun Γ => slices_EqualFunc_48_f41.body h

def replog_Same (K : Nat) (p0 : api_Replica) (p1 : api_Replica) : Option Bool := (if p0.Epoch = p1.Epoch then (if p0.Vote = p1.Vote then (if p0.Commit = p1.Commit then (Option.bind (slices_EqualFunc_48_f41 K p0.Log p1.Log) (fun a1 => some a1)) else some false) else some false) else some false)

theorem replog_Same.body {Γ : Ent} {K : Nat} {p0 : api_Replica} {p1 : api_Replica} {r : Bool} (h : replog_Same K p0 p1 = some r) : AWp V P 31 0 Γ (Try.f29.body.getD .skip) (Eng.Ends P V Try.f29 (.cv (.lit (.bool r)))) ⟨args0 0 [.agg [.lit (.int .i64 p0.Epoch), .lit (.int .i64 p0.Vote), .lit (.int .i64 p0.Commit), .ro Tag.t_api_Entry p0.Log], .agg [.lit (.int .i64 p1.Epoch), .lit (.int .i64 p1.Vote), .lit (.int .i64 p1.Commit), .ro Tag.t_api_Entry p1.Log]], []⟩ := by
  unfold replog_Same at h
  refine awp_seq ?_
  refine awp_region L 0 [] [] [2, 3] [0, 1] (cs := []) (S' := ⟨[(2, .cv (.ptr 0 0)), (3, .cv (.ptr 1 0))], [(0, .raw [.lit (.int .i64 p0.Epoch), .lit (.int .i64 p0.Vote), .lit (.int .i64 p0.Commit), .ro Tag.t_api_Entry p0.Log]), (1, .raw [.lit (.int .i64 p1.Epoch), .lit (.int .i64 p1.Vote), .lit (.int .i64 p1.Commit), .ro Tag.t_api_Entry p1.Log])]⟩) (by kernel_rfl) trivial ?_
  refine awp_seq ?_
  rcases ite_some h with ⟨c1, h⟩ | ⟨c1, h⟩
  · rcases ite_some h with ⟨c2, h⟩ | ⟨c2, h⟩
    · rcases ite_some h with ⟨c3, h⟩ | ⟨c3, h⟩
      · obtain ⟨a1, h1, h⟩ := bind_some h
        refine awp_region L 4 [(5, true), (12, true), (19, true)] [(24, .cv (.lit (.bool a1)))] [4] [] (cs := [(decide (p0.Epoch = p1.Epoch)) = true, (decide (p0.Vote = p1.Vote)) = true, (decide (p0.Commit = p1.Commit)) = true, PCall V P 48 [.cv (.ro Tag.t_api_Entry p0.Log), .cv (.ro Tag.t_api_Entry p1.Log), .cv (.fn (.func 41) [] [])] (.cv (.lit (.bool a1))), True]) (S' := ⟨[(4, .cv (.lit (.bool a1)))], []⟩) (by kernel_rfl) (And.intro (decide_eq_true c1) (And.intro (decide_eq_true c2) (And.intro (decide_eq_true c3) (And.intro (slices_EqualFunc_48_f41.ok h1) trivial)))) ?_
        refine awp_ret ?_
        have hr := Option.some.inj h
        subst hr
        exact ⟨.inr rfl, .cv (.lit (.bool a1)), by kernel_rfl, by kernel_rfl, trivial, by kernel_rfl⟩
      · refine awp_region L 4 [(5, true), (12, true), (19, false)] [] [4] [] (cs := [(decide (p0.Epoch = p1.Epoch)) = true, (decide (p0.Vote = p1.Vote)) = true, (decide (p0.Commit = p1.Commit)) = false]) (S' := ⟨[(4, .cv (.lit (.bool false)))], []⟩) (by kernel_rfl) (And.intro (decide_eq_true c1) (And.intro (decide_eq_true c2) (decide_eq_false c3))) ?_
        refine awp_ret ?_
        have hr := Option.some.inj h
        subst hr
        exact ⟨.inr rfl, .cv (.lit (.bool false)), by kernel_rfl, by kernel_rfl, trivial, by kernel_rfl⟩
    · refine awp_region L 4 [(5, true), (12, false)] [] [4] [] (cs := [(decide (p0.Epoch = p1.Epoch)) = true, (decide (p0.Vote = p1.Vote)) = false]) (S' := ⟨[(4, .cv (.lit (.bool false)))], []⟩) (by kernel_rfl) (And.intro (decide_eq_true c1) (decide_eq_false c2)) ?_
      refine awp_ret ?_
      have hr := Option.some.inj h
      subst hr
      exact ⟨.inr rfl, .cv (.lit (.bool false)), by kernel_rfl, by kernel_rfl, trivial, by kernel_rfl⟩
  · refine awp_region L 4 [(5, false)] [] [4] [] (cs := [(decide (p0.Epoch = p1.Epoch)) = false]) (S' := ⟨[(4, .cv (.lit (.bool false)))], []⟩) (by kernel_rfl) (decide_eq_false c1) ?_
    refine awp_ret ?_
    have hr := Option.some.inj h
    subst hr
    exact ⟨.inr rfl, .cv (.lit (.bool false)), by kernel_rfl, by kernel_rfl, trivial, by kernel_rfl⟩

theorem replog_Same.ok {K : Nat} {p0 : api_Replica} {p1 : api_Replica} {r : Bool} (h : replog_Same K p0 p1 = some r) : PCall V P 29 [.agg [.lit (.int .i64 p0.Epoch), .lit (.int .i64 p0.Vote), .lit (.int .i64 p0.Commit), .ro Tag.t_api_Entry p0.Log], .agg [.lit (.int .i64 p1.Epoch), .lit (.int .i64 p1.Vote), .lit (.int .i64 p1.Commit), .ro Tag.t_api_Entry p1.Log]] (.cv (.lit (.bool r))) :=
  pcall_of (fn := Try.f29) (n := 31) (by kernel_rfl) (by kernel_rfl) (by kernel_rfl) rfl (by kernel_rfl) (by kernel_rfl) fun Γ => replog_Same.body h

def workflowlaw52_ReplogReads (K : Nat) (p0 : api_Replica) (p1 : api_Replica) : Option Bool := (Option.bind (workflowlaw52_few K (([p0.Log, p1.Log] : List (List api_Entry)))) (fun a1 => (if a1 = true then (Option.bind (replog_Last K p0) (fun (a2_0, a2_1) => (Option.bind (workflowref52_Last K p0) (fun (a3_0, a3_1) => (if a2_0 = a3_0 then (if a2_1 = a3_1 then (Option.bind (replog_Common K p0 p1) (fun a4 => (Option.bind (workflowref52_Common K p0 p1) (fun a5 => (if a4 = a5 then (Option.bind (replog_Committed K p0) (fun a6 => (Option.bind (workflowref52_Committed K p0) (fun a7 => (Option.bind (workflowref52_SameData K a6 a7) (fun a8 => (if a8 = true then (Option.bind (replog_Right K p0) (fun a9 => (Option.bind (workflowref52_Right K p0) (fun a10 => (if (a9 == a10) = true then (Option.bind (replog_Same K p0 p1) (fun a11 => (Option.bind (workflowref52_Same K p0 p1) (fun a12 => (if (a11 == a12) = true then (Option.bind (workflowlaw52_works K) (fun a13 => some a13)) else some false))))) else some false))))) else some false))))))) else some false))))) else some false) else some false))))) else (Option.bind (workflowlaw52_works K) (fun a14 => some a14)))))

theorem workflowlaw52_ReplogReads.body {Γ : Ent} {K : Nat} {p0 : api_Replica} {p1 : api_Replica} {r : Bool} (h : workflowlaw52_ReplogReads K p0 p1 = some r) : AWp V P 70 0 Γ (Try.f6.body.getD .skip) (Eng.Ends P V Try.f6 (.cv (.lit (.bool r)))) ⟨args0 0 [.agg [.lit (.int .i64 p0.Epoch), .lit (.int .i64 p0.Vote), .lit (.int .i64 p0.Commit), .ro Tag.t_api_Entry p0.Log], .agg [.lit (.int .i64 p1.Epoch), .lit (.int .i64 p1.Vote), .lit (.int .i64 p1.Commit), .ro Tag.t_api_Entry p1.Log]], []⟩ := by
  unfold workflowlaw52_ReplogReads at h
  refine awp_seq ?_
  refine awp_region L 0 [] [] [2, 3] [0, 1] (cs := []) (S' := ⟨[(2, .cv (.ptr 0 0)), (3, .cv (.ptr 1 0))], [(0, .raw [.lit (.int .i64 p0.Epoch), .lit (.int .i64 p0.Vote), .lit (.int .i64 p0.Commit), .ro Tag.t_api_Entry p0.Log]), (1, .raw [.lit (.int .i64 p1.Epoch), .lit (.int .i64 p1.Vote), .lit (.int .i64 p1.Commit), .ro Tag.t_api_Entry p1.Log])]⟩) (by kernel_rfl) trivial ?_
  refine awp_seq ?_
  refine awp_seq ?_
  obtain ⟨a1, h1, h⟩ := bind_some h
  refine awp_region L 4 [] [(5, .cv (.lit (.bool a1)))] [2, 3, 15] [0, 1] (cs := [PCall V P 12 [.cv (.ro Tag.t_sl_api_Entry (([p0.Log, p1.Log] : List (List api_Entry))))] (.cv (.lit (.bool a1))), True]) (S' := ⟨[(2, .cv (.ptr 0 0)), (3, .cv (.ptr 1 0)), (15, .cv (.lit (.bool (!a1))))], [(0, .raw [.lit (.int .i64 p0.Epoch), .lit (.int .i64 p0.Vote), .lit (.int .i64 p0.Commit), .ro Tag.t_api_Entry p0.Log]), (1, .raw [.lit (.int .i64 p1.Epoch), .lit (.int .i64 p1.Vote), .lit (.int .i64 p1.Commit), .ro Tag.t_api_Entry p1.Log])]⟩) (by kernel_rfl) (And.intro (workflowlaw52_few.ok h1) trivial) ?_
  rcases ite_some h with ⟨c1, h⟩ | ⟨c1, h⟩
  · refine awp_false (b := (!a1)) (by kernel_rfl) (congrArg Bool.not (c1)) ?_
    refine awp_skip [2, 3] [0, 1] (S' := ⟨[(2, .cv (.ptr 0 0)), (3, .cv (.ptr 1 0))], [(0, .raw [.lit (.int .i64 p0.Epoch), .lit (.int .i64 p0.Vote), .lit (.int .i64 p0.Commit), .ro Tag.t_api_Entry p0.Log]), (1, .raw [.lit (.int .i64 p1.Epoch), .lit (.int .i64 p1.Vote), .lit (.int .i64 p1.Commit), .ro Tag.t_api_Entry p1.Log])]⟩) (by kernel_rfl) ?_
    refine awp_seq ?_
    obtain ⟨⟨a2_0, a2_1⟩, h2, h⟩ := bind_some h
    dsimp only at h
    refine awp_region L 15 [] [(1, .tup [.cv (.lit (.int .i64 a2_0)), .cv (.lit (.int .i64 a2_1))])] [2, 3, 5, 6] [0, 1] (cs := [PCall V P 22 [.agg [.lit (.int .i64 p0.Epoch), .lit (.int .i64 p0.Vote), .lit (.int .i64 p0.Commit), .ro Tag.t_api_Entry p0.Log]] (.tup [.cv (.lit (.int .i64 a2_0)), .cv (.lit (.int .i64 a2_1))]), True]) (S' := ⟨[(2, .cv (.ptr 0 0)), (3, .cv (.ptr 1 0)), (5, .cv (.lit (.int .i64 a2_0))), (6, .cv (.lit (.int .i64 a2_1)))], [(0, .raw [.lit (.int .i64 p0.Epoch), .lit (.int .i64 p0.Vote), .lit (.int .i64 p0.Commit), .ro Tag.t_api_Entry p0.Log]), (1, .raw [.lit (.int .i64 p1.Epoch), .lit (.int .i64 p1.Vote), .lit (.int .i64 p1.Commit), .ro Tag.t_api_Entry p1.Log])]⟩) (by kernel_rfl) (And.intro (replog_Last.ok h2) trivial) ?_
    refine awp_seq ?_
    obtain ⟨⟨a3_0, a3_1⟩, h3, h⟩ := bind_some h
    dsimp only at h
    refine awp_region L 23 [] [(1, .tup [.cv (.lit (.int .i64 a3_0)), .cv (.lit (.int .i64 a3_1))])] [2, 3, 5, 6, 7, 8] [0, 1] (cs := [PCall V P 23 [.agg [.lit (.int .i64 p0.Epoch), .lit (.int .i64 p0.Vote), .lit (.int .i64 p0.Commit), .ro Tag.t_api_Entry p0.Log]] (.tup [.cv (.lit (.int .i64 a3_0)), .cv (.lit (.int .i64 a3_1))]), True]) (S' := ⟨[(2, .cv (.ptr 0 0)), (3, .cv (.ptr 1 0)), (5, .cv (.lit (.int .i64 a2_0))), (6, .cv (.lit (.int .i64 a2_1))), (7, .cv (.lit (.int .i64 a3_0))), (8, .cv (.lit (.int .i64 a3_1)))], [(0, .raw [.lit (.int .i64 p0.Epoch), .lit (.int .i64 p0.Vote), .lit (.int .i64 p0.Commit), .ro Tag.t_api_Entry p0.Log]), (1, .raw [.lit (.int .i64 p1.Epoch), .lit (.int .i64 p1.Vote), .lit (.int .i64 p1.Commit), .ro Tag.t_api_Entry p1.Log])]⟩) (by kernel_rfl) (And.intro (workflowref52_Last.ok h3) trivial) ?_
    refine awp_seq ?_
    rcases ite_some h with ⟨c2, h⟩ | ⟨c2, h⟩
    · rcases ite_some h with ⟨c3, h⟩ | ⟨c3, h⟩
      · obtain ⟨a4, h4, h⟩ := bind_some h
        obtain ⟨a5, h5, h⟩ := bind_some h
        rcases ite_some h with ⟨c4, h⟩ | ⟨c4, h⟩
        · obtain ⟨a6, h6, h⟩ := bind_some h
          obtain ⟨a7, h7, h⟩ := bind_some h
          obtain ⟨a8, h8, h⟩ := bind_some h
          rcases ite_some h with ⟨c5, h⟩ | ⟨c5, h⟩
          · obtain ⟨a9, h9, h⟩ := bind_some h
            obtain ⟨a10, h10, h⟩ := bind_some h
            rcases ite_some h with ⟨c6, h⟩ | ⟨c6, h⟩
            · obtain ⟨a11, h11, h⟩ := bind_some h
              obtain ⟨a12, h12, h⟩ := bind_some h
              rcases ite_some h with ⟨c7, h⟩ | ⟨c7, h⟩
              · obtain ⟨a13, h13, h⟩ := bind_some h
                refine awp_draw L mixed 31 [(3, true), (8, true), (17, true), (24, true), (31, true), (40, true)] [(11, .cv (.lit (.int .i64 a4))), (14, .cv (.lit (.int .i64 a5))), (19, .cv (.ro Tag.t_sl_uint8 a6)), (21, .cv (.ro Tag.t_sl_uint8 a7)), (22, .cv (.lit (.bool a8))), (26, .cv (.lit (.bool a9))), (28, .cv (.lit (.bool a10))), (34, .cv (.lit (.bool a11))), (37, .cv (.lit (.bool a12))), (41, .cv (.lit (.bool a13)))] 44 [4] [] (cs := [(decide (a2_0 = a3_0)) = true, (decide (a2_1 = a3_1)) = true, PCall V P 24 [.agg [.lit (.int .i64 p0.Epoch), .lit (.int .i64 p0.Vote), .lit (.int .i64 p0.Commit), .ro Tag.t_api_Entry p0.Log], .agg [.lit (.int .i64 p1.Epoch), .lit (.int .i64 p1.Vote), .lit (.int .i64 p1.Commit), .ro Tag.t_api_Entry p1.Log]] (.cv (.lit (.int .i64 a4))), True, PCall V P 18 [.agg [.lit (.int .i64 p0.Epoch), .lit (.int .i64 p0.Vote), .lit (.int .i64 p0.Commit), .ro Tag.t_api_Entry p0.Log], .agg [.lit (.int .i64 p1.Epoch), .lit (.int .i64 p1.Vote), .lit (.int .i64 p1.Commit), .ro Tag.t_api_Entry p1.Log]] (.cv (.lit (.int .i64 a5))), True, (decide (a4 = a5)) = true, PCall V P 26 [.agg [.lit (.int .i64 p0.Epoch), .lit (.int .i64 p0.Vote), .lit (.int .i64 p0.Commit), .ro Tag.t_api_Entry p0.Log]] (.cv (.ro Tag.t_sl_uint8 a6)), True, PCall V P 27 [.agg [.lit (.int .i64 p0.Epoch), .lit (.int .i64 p0.Vote), .lit (.int .i64 p0.Commit), .ro Tag.t_api_Entry p0.Log]] (.cv (.ro Tag.t_sl_uint8 a7)), True, PCall V P 25 [.cv (.ro Tag.t_sl_uint8 a6), .cv (.ro Tag.t_sl_uint8 a7)] (.cv (.lit (.bool a8))), True, a8 = true, PCall V P 28 [.agg [.lit (.int .i64 p0.Epoch), .lit (.int .i64 p0.Vote), .lit (.int .i64 p0.Commit), .ro Tag.t_api_Entry p0.Log]] (.cv (.lit (.bool a9))), True, PCall V P 17 [.agg [.lit (.int .i64 p0.Epoch), .lit (.int .i64 p0.Vote), .lit (.int .i64 p0.Commit), .ro Tag.t_api_Entry p0.Log]] (.cv (.lit (.bool a10))), True, (a9 == a10) = true, PCall V P 29 [.agg [.lit (.int .i64 p0.Epoch), .lit (.int .i64 p0.Vote), .lit (.int .i64 p0.Commit), .ro Tag.t_api_Entry p0.Log], .agg [.lit (.int .i64 p1.Epoch), .lit (.int .i64 p1.Vote), .lit (.int .i64 p1.Commit), .ro Tag.t_api_Entry p1.Log]] (.cv (.lit (.bool a11))), True, PCall V P 16 [.agg [.lit (.int .i64 p0.Epoch), .lit (.int .i64 p0.Vote), .lit (.int .i64 p0.Commit), .ro Tag.t_api_Entry p0.Log], .agg [.lit (.int .i64 p1.Epoch), .lit (.int .i64 p1.Vote), .lit (.int .i64 p1.Commit), .ro Tag.t_api_Entry p1.Log]] (.cv (.lit (.bool a12))), True, (a11 == a12) = true, PCall V P 13 [] (.cv (.lit (.bool a13))), True]) (S' := ⟨[(4, .cv (.lit (.bool a13)))], []⟩) (by kernel_rfl) (And.intro (decide_eq_true c2) (And.intro (decide_eq_true c3) (And.intro (replog_Common.ok h4) (And.intro trivial (And.intro (workflowref52_Common.ok h5) (And.intro trivial (And.intro (decide_eq_true c4) (And.intro (replog_Committed.ok h6) (And.intro trivial (And.intro (workflowref52_Committed.ok h7) (And.intro trivial (And.intro (workflowref52_SameData.ok h8) (And.intro trivial (And.intro c5 (And.intro (replog_Right.ok h9) (And.intro trivial (And.intro (workflowref52_Right.ok h10) (And.intro trivial (And.intro c6 (And.intro (replog_Same.ok h11) (And.intro trivial (And.intro (workflowref52_Same.ok h12) (And.intro trivial (And.intro c7 (And.intro (workflowlaw52_works.ok h13) trivial))))))))))))))))))))))))) ?_
                refine awp_ret ?_
                have hr := Option.some.inj h
                subst hr
                exact ⟨.inr rfl, .cv (.lit (.bool a13)), by kernel_rfl, by kernel_rfl, trivial, by kernel_rfl⟩
              · refine awp_draw L mixed 31 [(3, true), (8, true), (17, true), (24, true), (31, true), (40, false)] [(11, .cv (.lit (.int .i64 a4))), (14, .cv (.lit (.int .i64 a5))), (19, .cv (.ro Tag.t_sl_uint8 a6)), (21, .cv (.ro Tag.t_sl_uint8 a7)), (22, .cv (.lit (.bool a8))), (26, .cv (.lit (.bool a9))), (28, .cv (.lit (.bool a10))), (34, .cv (.lit (.bool a11))), (37, .cv (.lit (.bool a12)))] 44 [4] [] (cs := [(decide (a2_0 = a3_0)) = true, (decide (a2_1 = a3_1)) = true, PCall V P 24 [.agg [.lit (.int .i64 p0.Epoch), .lit (.int .i64 p0.Vote), .lit (.int .i64 p0.Commit), .ro Tag.t_api_Entry p0.Log], .agg [.lit (.int .i64 p1.Epoch), .lit (.int .i64 p1.Vote), .lit (.int .i64 p1.Commit), .ro Tag.t_api_Entry p1.Log]] (.cv (.lit (.int .i64 a4))), True, PCall V P 18 [.agg [.lit (.int .i64 p0.Epoch), .lit (.int .i64 p0.Vote), .lit (.int .i64 p0.Commit), .ro Tag.t_api_Entry p0.Log], .agg [.lit (.int .i64 p1.Epoch), .lit (.int .i64 p1.Vote), .lit (.int .i64 p1.Commit), .ro Tag.t_api_Entry p1.Log]] (.cv (.lit (.int .i64 a5))), True, (decide (a4 = a5)) = true, PCall V P 26 [.agg [.lit (.int .i64 p0.Epoch), .lit (.int .i64 p0.Vote), .lit (.int .i64 p0.Commit), .ro Tag.t_api_Entry p0.Log]] (.cv (.ro Tag.t_sl_uint8 a6)), True, PCall V P 27 [.agg [.lit (.int .i64 p0.Epoch), .lit (.int .i64 p0.Vote), .lit (.int .i64 p0.Commit), .ro Tag.t_api_Entry p0.Log]] (.cv (.ro Tag.t_sl_uint8 a7)), True, PCall V P 25 [.cv (.ro Tag.t_sl_uint8 a6), .cv (.ro Tag.t_sl_uint8 a7)] (.cv (.lit (.bool a8))), True, a8 = true, PCall V P 28 [.agg [.lit (.int .i64 p0.Epoch), .lit (.int .i64 p0.Vote), .lit (.int .i64 p0.Commit), .ro Tag.t_api_Entry p0.Log]] (.cv (.lit (.bool a9))), True, PCall V P 17 [.agg [.lit (.int .i64 p0.Epoch), .lit (.int .i64 p0.Vote), .lit (.int .i64 p0.Commit), .ro Tag.t_api_Entry p0.Log]] (.cv (.lit (.bool a10))), True, (a9 == a10) = true, PCall V P 29 [.agg [.lit (.int .i64 p0.Epoch), .lit (.int .i64 p0.Vote), .lit (.int .i64 p0.Commit), .ro Tag.t_api_Entry p0.Log], .agg [.lit (.int .i64 p1.Epoch), .lit (.int .i64 p1.Vote), .lit (.int .i64 p1.Commit), .ro Tag.t_api_Entry p1.Log]] (.cv (.lit (.bool a11))), True, PCall V P 16 [.agg [.lit (.int .i64 p0.Epoch), .lit (.int .i64 p0.Vote), .lit (.int .i64 p0.Commit), .ro Tag.t_api_Entry p0.Log], .agg [.lit (.int .i64 p1.Epoch), .lit (.int .i64 p1.Vote), .lit (.int .i64 p1.Commit), .ro Tag.t_api_Entry p1.Log]] (.cv (.lit (.bool a12))), True, (a11 == a12) = false]) (S' := ⟨[(4, .cv (.lit (.bool false)))], []⟩) (by kernel_rfl) (And.intro (decide_eq_true c2) (And.intro (decide_eq_true c3) (And.intro (replog_Common.ok h4) (And.intro trivial (And.intro (workflowref52_Common.ok h5) (And.intro trivial (And.intro (decide_eq_true c4) (And.intro (replog_Committed.ok h6) (And.intro trivial (And.intro (workflowref52_Committed.ok h7) (And.intro trivial (And.intro (workflowref52_SameData.ok h8) (And.intro trivial (And.intro c5 (And.intro (replog_Right.ok h9) (And.intro trivial (And.intro (workflowref52_Right.ok h10) (And.intro trivial (And.intro c6 (And.intro (replog_Same.ok h11) (And.intro trivial (And.intro (workflowref52_Same.ok h12) (And.intro trivial (eq_false_of_ne_true c7)))))))))))))))))))))))) ?_
                refine awp_ret ?_
                have hr := Option.some.inj h
                subst hr
                exact ⟨.inr rfl, .cv (.lit (.bool false)), by kernel_rfl, by kernel_rfl, trivial, by kernel_rfl⟩
            · refine awp_draw L mixed 31 [(3, true), (8, true), (17, true), (24, true), (31, false)] [(11, .cv (.lit (.int .i64 a4))), (14, .cv (.lit (.int .i64 a5))), (19, .cv (.ro Tag.t_sl_uint8 a6)), (21, .cv (.ro Tag.t_sl_uint8 a7)), (22, .cv (.lit (.bool a8))), (26, .cv (.lit (.bool a9))), (28, .cv (.lit (.bool a10)))] 44 [4] [] (cs := [(decide (a2_0 = a3_0)) = true, (decide (a2_1 = a3_1)) = true, PCall V P 24 [.agg [.lit (.int .i64 p0.Epoch), .lit (.int .i64 p0.Vote), .lit (.int .i64 p0.Commit), .ro Tag.t_api_Entry p0.Log], .agg [.lit (.int .i64 p1.Epoch), .lit (.int .i64 p1.Vote), .lit (.int .i64 p1.Commit), .ro Tag.t_api_Entry p1.Log]] (.cv (.lit (.int .i64 a4))), True, PCall V P 18 [.agg [.lit (.int .i64 p0.Epoch), .lit (.int .i64 p0.Vote), .lit (.int .i64 p0.Commit), .ro Tag.t_api_Entry p0.Log], .agg [.lit (.int .i64 p1.Epoch), .lit (.int .i64 p1.Vote), .lit (.int .i64 p1.Commit), .ro Tag.t_api_Entry p1.Log]] (.cv (.lit (.int .i64 a5))), True, (decide (a4 = a5)) = true, PCall V P 26 [.agg [.lit (.int .i64 p0.Epoch), .lit (.int .i64 p0.Vote), .lit (.int .i64 p0.Commit), .ro Tag.t_api_Entry p0.Log]] (.cv (.ro Tag.t_sl_uint8 a6)), True, PCall V P 27 [.agg [.lit (.int .i64 p0.Epoch), .lit (.int .i64 p0.Vote), .lit (.int .i64 p0.Commit), .ro Tag.t_api_Entry p0.Log]] (.cv (.ro Tag.t_sl_uint8 a7)), True, PCall V P 25 [.cv (.ro Tag.t_sl_uint8 a6), .cv (.ro Tag.t_sl_uint8 a7)] (.cv (.lit (.bool a8))), True, a8 = true, PCall V P 28 [.agg [.lit (.int .i64 p0.Epoch), .lit (.int .i64 p0.Vote), .lit (.int .i64 p0.Commit), .ro Tag.t_api_Entry p0.Log]] (.cv (.lit (.bool a9))), True, PCall V P 17 [.agg [.lit (.int .i64 p0.Epoch), .lit (.int .i64 p0.Vote), .lit (.int .i64 p0.Commit), .ro Tag.t_api_Entry p0.Log]] (.cv (.lit (.bool a10))), True, (a9 == a10) = false]) (S' := ⟨[(4, .cv (.lit (.bool false)))], []⟩) (by kernel_rfl) (And.intro (decide_eq_true c2) (And.intro (decide_eq_true c3) (And.intro (replog_Common.ok h4) (And.intro trivial (And.intro (workflowref52_Common.ok h5) (And.intro trivial (And.intro (decide_eq_true c4) (And.intro (replog_Committed.ok h6) (And.intro trivial (And.intro (workflowref52_Committed.ok h7) (And.intro trivial (And.intro (workflowref52_SameData.ok h8) (And.intro trivial (And.intro c5 (And.intro (replog_Right.ok h9) (And.intro trivial (And.intro (workflowref52_Right.ok h10) (And.intro trivial (eq_false_of_ne_true c6))))))))))))))))))) ?_
              refine awp_ret ?_
              have hr := Option.some.inj h
              subst hr
              exact ⟨.inr rfl, .cv (.lit (.bool false)), by kernel_rfl, by kernel_rfl, trivial, by kernel_rfl⟩
          · refine awp_draw L mixed 31 [(3, true), (8, true), (17, true), (24, false)] [(11, .cv (.lit (.int .i64 a4))), (14, .cv (.lit (.int .i64 a5))), (19, .cv (.ro Tag.t_sl_uint8 a6)), (21, .cv (.ro Tag.t_sl_uint8 a7)), (22, .cv (.lit (.bool a8)))] 44 [4] [] (cs := [(decide (a2_0 = a3_0)) = true, (decide (a2_1 = a3_1)) = true, PCall V P 24 [.agg [.lit (.int .i64 p0.Epoch), .lit (.int .i64 p0.Vote), .lit (.int .i64 p0.Commit), .ro Tag.t_api_Entry p0.Log], .agg [.lit (.int .i64 p1.Epoch), .lit (.int .i64 p1.Vote), .lit (.int .i64 p1.Commit), .ro Tag.t_api_Entry p1.Log]] (.cv (.lit (.int .i64 a4))), True, PCall V P 18 [.agg [.lit (.int .i64 p0.Epoch), .lit (.int .i64 p0.Vote), .lit (.int .i64 p0.Commit), .ro Tag.t_api_Entry p0.Log], .agg [.lit (.int .i64 p1.Epoch), .lit (.int .i64 p1.Vote), .lit (.int .i64 p1.Commit), .ro Tag.t_api_Entry p1.Log]] (.cv (.lit (.int .i64 a5))), True, (decide (a4 = a5)) = true, PCall V P 26 [.agg [.lit (.int .i64 p0.Epoch), .lit (.int .i64 p0.Vote), .lit (.int .i64 p0.Commit), .ro Tag.t_api_Entry p0.Log]] (.cv (.ro Tag.t_sl_uint8 a6)), True, PCall V P 27 [.agg [.lit (.int .i64 p0.Epoch), .lit (.int .i64 p0.Vote), .lit (.int .i64 p0.Commit), .ro Tag.t_api_Entry p0.Log]] (.cv (.ro Tag.t_sl_uint8 a7)), True, PCall V P 25 [.cv (.ro Tag.t_sl_uint8 a6), .cv (.ro Tag.t_sl_uint8 a7)] (.cv (.lit (.bool a8))), True, a8 = false]) (S' := ⟨[(4, .cv (.lit (.bool false)))], []⟩) (by kernel_rfl) (And.intro (decide_eq_true c2) (And.intro (decide_eq_true c3) (And.intro (replog_Common.ok h4) (And.intro trivial (And.intro (workflowref52_Common.ok h5) (And.intro trivial (And.intro (decide_eq_true c4) (And.intro (replog_Committed.ok h6) (And.intro trivial (And.intro (workflowref52_Committed.ok h7) (And.intro trivial (And.intro (workflowref52_SameData.ok h8) (And.intro trivial (eq_false_of_ne_true c5)))))))))))))) ?_
            refine awp_ret ?_
            have hr := Option.some.inj h
            subst hr
            exact ⟨.inr rfl, .cv (.lit (.bool false)), by kernel_rfl, by kernel_rfl, trivial, by kernel_rfl⟩
        · refine awp_draw L mixed 31 [(3, true), (8, true), (17, false)] [(11, .cv (.lit (.int .i64 a4))), (14, .cv (.lit (.int .i64 a5)))] 44 [4] [] (cs := [(decide (a2_0 = a3_0)) = true, (decide (a2_1 = a3_1)) = true, PCall V P 24 [.agg [.lit (.int .i64 p0.Epoch), .lit (.int .i64 p0.Vote), .lit (.int .i64 p0.Commit), .ro Tag.t_api_Entry p0.Log], .agg [.lit (.int .i64 p1.Epoch), .lit (.int .i64 p1.Vote), .lit (.int .i64 p1.Commit), .ro Tag.t_api_Entry p1.Log]] (.cv (.lit (.int .i64 a4))), True, PCall V P 18 [.agg [.lit (.int .i64 p0.Epoch), .lit (.int .i64 p0.Vote), .lit (.int .i64 p0.Commit), .ro Tag.t_api_Entry p0.Log], .agg [.lit (.int .i64 p1.Epoch), .lit (.int .i64 p1.Vote), .lit (.int .i64 p1.Commit), .ro Tag.t_api_Entry p1.Log]] (.cv (.lit (.int .i64 a5))), True, (decide (a4 = a5)) = false]) (S' := ⟨[(4, .cv (.lit (.bool false)))], []⟩) (by kernel_rfl) (And.intro (decide_eq_true c2) (And.intro (decide_eq_true c3) (And.intro (replog_Common.ok h4) (And.intro trivial (And.intro (workflowref52_Common.ok h5) (And.intro trivial (decide_eq_false c4))))))) ?_
          refine awp_ret ?_
          have hr := Option.some.inj h
          subst hr
          exact ⟨.inr rfl, .cv (.lit (.bool false)), by kernel_rfl, by kernel_rfl, trivial, by kernel_rfl⟩
      · refine awp_draw L mixed 31 [(3, true), (8, false)] [] 44 [4] [] (cs := [(decide (a2_0 = a3_0)) = true, (decide (a2_1 = a3_1)) = false]) (S' := ⟨[(4, .cv (.lit (.bool false)))], []⟩) (by kernel_rfl) (And.intro (decide_eq_true c2) (decide_eq_false c3)) ?_
        refine awp_ret ?_
        have hr := Option.some.inj h
        subst hr
        exact ⟨.inr rfl, .cv (.lit (.bool false)), by kernel_rfl, by kernel_rfl, trivial, by kernel_rfl⟩
    · refine awp_draw L mixed 31 [(3, false)] [] 44 [4] [] (cs := [(decide (a2_0 = a3_0)) = false]) (S' := ⟨[(4, .cv (.lit (.bool false)))], []⟩) (by kernel_rfl) (decide_eq_false c2) ?_
      refine awp_ret ?_
      have hr := Option.some.inj h
      subst hr
      exact ⟨.inr rfl, .cv (.lit (.bool false)), by kernel_rfl, by kernel_rfl, trivial, by kernel_rfl⟩
  · refine awp_true (b := (!a1)) (by kernel_rfl) (congrArg Bool.not (eq_false_of_ne_true c1)) ?_
    refine awp_seq ?_
    obtain ⟨a14, h14, h⟩ := bind_some h
    refine awp_region L 12 [] [(0, .cv (.lit (.bool a14)))] [4] [] (cs := [PCall V P 13 [] (.cv (.lit (.bool a14))), True]) (S' := ⟨[(4, .cv (.lit (.bool a14)))], []⟩) (by kernel_rfl) (And.intro (workflowlaw52_works.ok h14) trivial) ?_
    refine awp_ret ?_
    have hr := Option.some.inj h
    subst hr
    exact ⟨.inr rfl, .cv (.lit (.bool a14)), by kernel_rfl, by kernel_rfl, trivial, by kernel_rfl⟩

theorem workflowlaw52_ReplogReads.ok {K : Nat} {p0 : api_Replica} {p1 : api_Replica} {r : Bool} (h : workflowlaw52_ReplogReads K p0 p1 = some r) : PCall V P 6 [.agg [.lit (.int .i64 p0.Epoch), .lit (.int .i64 p0.Vote), .lit (.int .i64 p0.Commit), .ro Tag.t_api_Entry p0.Log], .agg [.lit (.int .i64 p1.Epoch), .lit (.int .i64 p1.Vote), .lit (.int .i64 p1.Commit), .ro Tag.t_api_Entry p1.Log]] (.cv (.lit (.bool r))) :=
  pcall_of (fn := Try.f6) (n := 70) (by kernel_rfl) (by kernel_rfl) (by kernel_rfl) rfl (by kernel_rfl) (by kernel_rfl) fun Γ => workflowlaw52_ReplogReads.body h

end Go.Proofs.Ytkcaccppmenfmaa
