/- What functions of the program compute, as Lean functions, and that they compute it. -/
import Derived.Test.YtmafcdkdcfaajaaGreatFn3
set_option linter.unusedVariables false
set_option maxHeartbeats 0
namespace Go.Proofs.YtmafcdkdcfaajaaGreat
open Eng
def workflowlaw55_both (K : Nat) (p0 : workflowref55_Group) (p1 : workflowlaw55_Step) : Option (group_Group × workflowref55_Group × Bool) := (Option.bind (((if p1.Kind = 0 then (Option.bind (workflowlaw55_of K p0) (fun a1 => (Option.bind (group_Elect K a1 p1.I p1.Reach) (fun (a2_0, a2_1) => (Option.bind (workflowref55_Elect K p0 p1.I p1.Reach) (fun (a3_0, a3_1) => some (a2_1, a3_1, 0, 0, false, false, a2_0.Replicas, a2_0.Up, a2_0.Leader, a2_0.Epoch, a3_0.Replicas, a3_0.Up, a3_0.Leader, a3_0.Epoch))))))) else (if p1.Kind = 1 then (Option.bind (workflowlaw55_of K p0) (fun a4 => (Option.bind (group_Propose K a4 p1.I p1.Epoch p1.Data p1.Reach) (fun (a5_0, a5_1, a5_2, a5_3) => (Option.bind (workflowref55_Propose K p0 p1.I p1.Epoch p1.Data p1.Reach) (fun (a6_0, a6_1, a6_2, a6_3) => some (a5_3, a6_3, a5_1, a6_1, a5_2, a6_2, a5_0.Replicas, a5_0.Up, a5_0.Leader, a5_0.Epoch, a6_0.Replicas, a6_0.Up, a6_0.Leader, a6_0.Epoch))))))) else (if p1.Kind = 2 then (Option.bind (workflowlaw55_of K p0) (fun a7 => (Option.bind (group_Sync K a7 p1.I p1.Epoch p1.Reach) (fun (a8_0, a8_1) => (Option.bind (workflowref55_Sync K (⟨p0.Replicas, p0.Up, p0.Leader, p0.Epoch⟩ : workflowref55_Group) p1.I p1.Epoch p1.Reach) (fun (a9_0, a9_1) => some (a8_1, a9_1, 0, 0, false, false, a8_0.Replicas, a8_0.Up, a8_0.Leader, a8_0.Epoch, a9_0.Replicas, a9_0.Up, a9_0.Leader, a9_0.Epoch))))))) else (if p1.Kind = 3 then (Option.bind (workflowlaw55_of K p0) (fun a10 => (Option.bind (group_Stop K a10 p1.I) (fun (a11_0, a11_1) => (Option.bind (workflowref55_Stop K (⟨p0.Replicas, p0.Up, p0.Leader, p0.Epoch⟩ : workflowref55_Group) p1.I) (fun (a12_0, a12_1) => some (a11_1, a12_1, 0, 0, false, false, a11_0.Replicas, a11_0.Up, a11_0.Leader, a11_0.Epoch, a12_0.Replicas, a12_0.Up, a12_0.Leader, a12_0.Epoch))))))) else (Option.bind (workflowlaw55_of K p0) (fun a13 => (Option.bind (group_Start K a13 p1.I) (fun (a14_0, a14_1) => (Option.bind (workflowref55_Start K (⟨p0.Replicas, p0.Up, p0.Leader, p0.Epoch⟩ : workflowref55_Group) p1.I) (fun (a15_0, a15_1) => some (a14_1, a15_1, 0, 0, false, false, a14_0.Replicas, a14_0.Up, a14_0.Leader, a14_0.Epoch, a15_0.Replicas, a15_0.Up, a15_0.Leader, a15_0.Epoch)))))))))))) : Option (Int × Int × Int × Int × Bool × Bool × (List api_Replica) × (List Bool) × Int × Int × (List api_Replica) × (List Bool) × Int × Int)) (fun (xt9_11, xt10_11, xt11_11, xt12_11, xt13_11, xt14_11, x22204_0, x22204_1, x22204_2, x22204_3, x22205_0, x22205_1, x22205_2, x22205_3) => (Option.bind (((if xt9_11 = xt10_11 then (if xt11_11 = xt12_11 then (if (xt13_11 == xt14_11) = true then (Option.bind (workflowlaw55_back K (⟨x22204_0, x22204_1, x22204_2, x22204_3⟩ : group_Group)) (fun a16 => (Option.bind (workflowref55_Same K a16 (⟨x22205_0, x22205_1, x22205_2, x22205_3⟩ : workflowref55_Group)) (fun a17 => some a17)))) else some false) else some false) else some false)) : Option Bool) (fun xt15_42 => (Option.bind ((if xt9_11 ≠ 0 then (if p1.Kind = 0 then some (!(decide (xt9_11 = 27))) else some true) else some false) : Option Bool) (fun xt159_45 => (if xt159_45 = true then (Option.bind (workflowlaw55_of K p0) (fun a18 => some (a18, p0, xt15_42))) else some ((⟨x22204_0, x22204_1, x22204_2, x22204_3⟩ : group_Group), (⟨x22205_0, x22205_1, x22205_2, x22205_3⟩ : workflowref55_Group), xt15_42))))))))
theorem workflowlaw55_both.body {Γ : Ent} {K : Nat} {p0 : workflowref55_Group} {p1 : workflowlaw55_Step} {r : group_Group × workflowref55_Group × Bool} (h : workflowlaw55_both K p0 p1 = some r) : AWp V P 167 100 Γ (Tryz.f9.body.getD .skip) (EndsE P V Tryz.f9 (.tup [.agg [.ro .t_api_Replica r.1.Replicas, .ro .t_bool r.1.Up, .I r.1.Leader, .I r.1.Epoch], .agg [.ro .t_api_Replica r.2.1.Replicas, .ro .t_bool r.2.1.Up, .I r.2.1.Leader, .I r.2.1.Epoch], .B r.2.2]) []) ⟨args0 0 [.agg (d_workflowref55_Group p0), .agg [.I p1.Kind, .I p1.I, .I p1.Epoch, .ro .t_uint8 p1.Data, .ro .t_int p1.Reach]], []⟩ := by
 unfold workflowlaw55_both at h
 refine sr0 L 200 [] [] [] (S' := ⟨[(2, .P 200), (3, .P 201), (4, .P 202), (5, .P 203)], [(200, .raw (d_workflowref55_Group p0)), (201, .raw [.I p1.Kind, .I p1.I, .I p1.Epoch, .ro .t_uint8 p1.Data, .ro .t_int p1.Reach]), (202, .raw [.N, .N, .I 0, .I 0]), (203, .raw [.N, .N, .I 0, .I 0])]⟩) ?_
 refine sr0 L 206 [] [] [] (S' := ⟨[(2, .P 200), (3, .P 201), (4, .P 202), (5, .P 203), (7, .P 206)], [(200, .raw (d_workflowref55_Group p0)), (201, .raw [.I p1.Kind, .I p1.I, .I p1.Epoch, .ro .t_uint8 p1.Data, .ro .t_int p1.Reach]), (202, .raw [.N, .N, .I 0, .I 0]), (203, .raw [.N, .N, .I 0, .I 0]), (206, .raw [.N, .N, .I 0, .I 0])]⟩) ?_
 refine sr0 L 208 [] [] [] (S' := ⟨[(2, .P 200), (3, .P 201), (4, .P 202), (5, .P 203), (7, .P 206), (8, .P 208)], [(200, .raw (d_workflowref55_Group p0)), (201, .raw [.I p1.Kind, .I p1.I, .I p1.Epoch, .ro .t_uint8 p1.Data, .ro .t_int p1.Reach]), (202, .raw [.N, .N, .I 0, .I 0]), (203, .raw [.N, .N, .I 0, .I 0]), (206, .raw [.N, .N, .I 0, .I 0]), (208, .raw [.N, .N, .I 0, .I 0])]⟩) ?_
 refine sr0 L 210 [] [] [] (S' := ⟨[(2, .P 200), (3, .P 201), (4, .P 202), (5, .P 203), (7, .P 206), (8, .P 208)], [(200, .raw (d_workflowref55_Group p0)), (201, .raw [.I p1.Kind, .I p1.I, .I p1.Epoch, .ro .t_uint8 p1.Data, .ro .t_int p1.Reach]), (202, .raw [.N, .N, .I 0, .I 0]), (203, .raw [.N, .N, .I 0, .I 0]), (206, .raw [.N, .N, .I 0, .I 0]), (208, .raw [.N, .N, .I 0, .I 0])]⟩) ?_
 refine sr0 L 213 [] [] [] (S' := ⟨[(2, .P 200), (3, .P 201), (4, .P 202), (5, .P 203), (7, .P 206), (8, .P 208), (11, .I 0), (12, .I 0), (13, .B false), (14, .B false)], [(200, .raw (d_workflowref55_Group p0)), (201, .raw [.I p1.Kind, .I p1.I, .I p1.Epoch, .ro .t_uint8 p1.Data, .ro .t_int p1.Reach]), (202, .raw [.N, .N, .I 0, .I 0]), (203, .raw [.N, .N, .I 0, .I 0]), (206, .raw [.N, .N, .I 0, .I 0]), (208, .raw [.N, .N, .I 0, .I 0])]⟩) ?_
 obtain ⟨o1, hp1, h⟩ := bind_some h
 refine awp_seq (awp_mono (Q' := fun e S => (e = .normal ∧ ∃ xt9_11 : Int, ∃ xt10_11 : Int, ∃ xt11_11 : Int, ∃ xt12_11 : Int, ∃ xt13_11 : Bool, ∃ xt14_11 : Bool, ∃ x22204_0 : List api_Replica, ∃ x22204_1 : List Bool, ∃ x22204_2 : Int, ∃ x22204_3 : Int, ∃ x22205_0 : List api_Replica, ∃ x22205_1 : List Bool, ∃ x22205_2 : Int, ∃ x22205_3 : Int, S = ⟨[(2, .P 22200), (3, .P 22201), (4, .P 22202), (5, .P 22203), (7, .P 22204), (8, .P 22205), (9, .I xt9_11), (10, .I xt10_11), (11, .I xt11_11), (12, .I xt12_11), (13, .B xt13_11), (14, .B xt14_11)], [(22200, .raw (d_workflowref55_Group p0)), (22201, .raw [.I p1.Kind, .I p1.I, .I p1.Epoch, .ro .t_uint8 p1.Data, .ro .t_int p1.Reach]), (22202, .raw [.N, .N, .I 0, .I 0]), (22203, .raw [.N, .N, .I 0, .I 0]), (22204, .raw [.ro .t_api_Replica x22204_0, .ro .t_bool x22204_1, .I x22204_2, .I x22204_3]), (22205, .raw [.ro .t_api_Replica x22205_0, .ro .t_bool x22205_1, .I x22205_2, .I x22205_3])]⟩ ∧ (xt9_11, xt10_11, xt11_11, xt12_11, xt13_11, xt14_11, x22204_0, x22204_1, x22204_2, x22204_3, x22205_0, x22205_1, x22205_2, x22205_3) = o1)) ?_ ?_)
 ·clear h
  replace h := hp1
  refine sr0 L 218 [] [] [] (S' := ⟨[(2, .P 200), (3, .P 201), (4, .P 202), (5, .P 203), (7, .P 206), (8, .P 208), (11, .I 0), (12, .I 0), (13, .B false), (14, .B false), (17, .I p1.Kind)], [(200, .raw (d_workflowref55_Group p0)), (201, .raw [.I p1.Kind, .I p1.I, .I p1.Epoch, .ro .t_uint8 p1.Data, .ro .t_int p1.Reach]), (202, .raw [.N, .N, .I 0, .I 0]), (203, .raw [.N, .N, .I 0, .I 0]), (206, .raw [.N, .N, .I 0, .I 0]), (208, .raw [.N, .N, .I 0, .I 0])]⟩) ?_
  refine awp_block ?_
  refine sr0 L 221 [] [] [] (S' := ⟨[(2, .P 200), (3, .P 201), (4, .P 202), (5, .P 203), (7, .P 206), (8, .P 208), (11, .I 0), (12, .I 0), (13, .B false), (14, .B false), (17, .I p1.Kind), (33, .B (decide (p1.Kind = 0)))], [(200, .raw (d_workflowref55_Group p0)), (201, .raw [.I p1.Kind, .I p1.I, .I p1.Epoch, .ro .t_uint8 p1.Data, .ro .t_int p1.Reach]), (202, .raw [.N, .N, .I 0, .I 0]), (203, .raw [.N, .N, .I 0, .I 0]), (206, .raw [.N, .N, .I 0, .I 0]), (208, .raw [.N, .N, .I 0, .I 0])]⟩) ?_
  rcases ite_some h with ⟨c1, h⟩ | ⟨c1, h⟩
  ·refine tt (b := (decide (p1.Kind = 0))) (decide_eq_true c1) ?_
   refine awp_seq ?_
   obtain ⟨a1, h1, h⟩ := bind_some h
   obtain ⟨⟨a2_0, a2_1⟩, h2, h⟩ := bind_some h
   dsimp only at h
   refine ad L mixed 224 [] [(1, .agg (d_group_Group a1)), (6, .tup [.agg (d_group_Group a2_0), .I a2_1])] [] [206] 12 (cs := [PCall V P 18 [.agg (d_workflowref55_Group p0)] (.agg (d_group_Group a1)), True, PCall V P 17 [.agg (d_group_Group a1), .I p1.I, .cv (.ro .t_int p1.Reach)] (.tup [.agg (d_group_Group a2_0), .I a2_1]), True]) (S' := ⟨[(2, .P 200), (3, .P 201), (4, .P 202), (5, .P 203), (7, .P 206), (8, .P 208), (9, .I a2_1), (11, .I 0), (12, .I 0), (13, .B false), (14, .B false)], [(200, .raw (d_workflowref55_Group p0)), (201, .raw (d_workflowlaw55_Step p1)), (202, .raw [.N, .N, .I 0, .I 0]), (203, .raw [.N, .N, .I 0, .I 0]), (206, .raw (d_group_Group a2_0)), (208, .raw [.N, .N, .I 0, .I 0])]⟩) (And.intro (workflowlaw55_of.ok h1) (And.intro trivial (And.intro (group_Elect.ok h2) trivial))) ?_
   obtain ⟨⟨a3_0, a3_1⟩, h3, h⟩ := bind_some h
   dsimp only at h
   refine awp_post (ar L 237 [] [(5, .tup [.agg (d_workflowref55_Group a3_0), .I a3_1])] [] (cs := [PCall V P 19 [.agg (d_workflowref55_Group p0), .I p1.I, .cv (.ro .t_int p1.Reach)] (.tup [.agg (d_workflowref55_Group a3_0), .I a3_1]), True]) (S' := ⟨[(2, .P 200), (3, .P 201), (4, .P 202), (5, .P 203), (7, .P 206), (8, .P 208), (9, .I a2_1), (10, .I a3_1), (11, .I 0), (12, .I 0), (13, .B false), (14, .B false)], [(200, .raw (d_workflowref55_Group p0)), (201, .raw (d_workflowlaw55_Step p1)), (202, .raw [.N, .N, .I 0, .I 0]), (203, .raw [.N, .N, .I 0, .I 0]), (206, .raw (d_group_Group a2_0)), (208, .raw (d_workflowref55_Group a3_0))]⟩) (And.intro (workflowref55_Elect.ok h3) trivial) ⟨rfl, rfl⟩) (Turns.trans (Turns.kp (S' := ⟨[(2, .P 200), (3, .P 201), (4, .P 202), (5, .P 203), (7, .P 206), (8, .P 208), (9, .I a2_1), (10, .I a3_1), (11, .I 0), (12, .I 0), (13, .B false), (14, .B false)], [(200, .raw (d_workflowref55_Group p0)), (201, .raw (d_workflowlaw55_Step p1)), (202, .raw [.N, .N, .I 0, .I 0]), (203, .raw [.N, .N, .I 0, .I 0]), (206, .raw (d_group_Group a2_0)), (208, .raw (d_workflowref55_Group a3_0))]⟩)) (Turns.trans (Turns.rn [(200, 22200), (201, 22201), (202, 22202), (203, 22203), (206, 22204), (208, 22205)] (S' := ⟨[(2, .P 22200), (3, .P 22201), (4, .P 22202), (5, .P 22203), (7, .P 22204), (8, .P 22205), (9, .I a2_1), (10, .I a3_1), (11, .I 0), (12, .I 0), (13, .B false), (14, .B false)], [(22200, .raw (d_workflowref55_Group p0)), (22201, .raw (d_workflowlaw55_Step p1)), (22202, .raw [.N, .N, .I 0, .I 0]), (22203, .raw [.N, .N, .I 0, .I 0]), (22204, .raw (d_group_Group a2_0)), (22205, .raw (d_workflowref55_Group a3_0))]⟩)) (Turns.kp (S' := ⟨[(2, .P 22200), (3, .P 22201), (4, .P 22202), (5, .P 22203), (7, .P 22204), (8, .P 22205), (9, .I a2_1), (10, .I a3_1), (11, .I 0), (12, .I 0), (13, .B false), (14, .B false)], [(22200, .raw (d_workflowref55_Group p0)), (22201, .raw (d_workflowlaw55_Step p1)), (22202, .raw [.N, .N, .I 0, .I 0]), (22203, .raw [.N, .N, .I 0, .I 0]), (22204, .raw (d_group_Group a2_0)), (22205, .raw (d_workflowref55_Group a3_0))]⟩)))) ?_
   obtain rfl := Option.some.inj h
   exact ⟨rfl, _, _, _, _, _, _, _, _, _, _, _, _, _, _, rfl, rfl⟩
  refine ff (b := (decide (p1.Kind = 0))) (decide_eq_false c1) ?_
  refine sr0 L 249 [] [] [] (S' := ⟨[(2, .P 200), (3, .P 201), (4, .P 202), (5, .P 203), (7, .P 206), (8, .P 208), (11, .I 0), (12, .I 0), (13, .B false), (14, .B false), (17, .I p1.Kind), (54, .B (decide (p1.Kind = 1)))], [(200, .raw (d_workflowref55_Group p0)), (201, .raw [.I p1.Kind, .I p1.I, .I p1.Epoch, .ro .t_uint8 p1.Data, .ro .t_int p1.Reach]), (202, .raw [.N, .N, .I 0, .I 0]), (203, .raw [.N, .N, .I 0, .I 0]), (206, .raw [.N, .N, .I 0, .I 0]), (208, .raw [.N, .N, .I 0, .I 0])]⟩) ?_
  rcases ite_some h with ⟨c2, h⟩ | ⟨c2, h⟩
  ·refine tt (b := (decide (p1.Kind = 1))) (decide_eq_true c2) ?_
   refine awp_seq ?_
   obtain ⟨a4, h4, h⟩ := bind_some h
   obtain ⟨⟨a5_0, a5_1, a5_2, a5_3⟩, h5, h⟩ := bind_some h
   dsimp only at h
   refine ad L mixed 252 [] [(1, .agg (d_group_Group a4)), (10, .tup [.agg (d_group_Group a5_0), .I a5_1, .B a5_2, .I a5_3])] [] [206] 20 (cs := [PCall V P 18 [.agg (d_workflowref55_Group p0)] (.agg (d_group_Group a4)), True, PCall V P 12 [.agg (d_group_Group a4), .I p1.I, .I p1.Epoch, .cv (.ro .t_uint8 p1.Data), .cv (.ro .t_int p1.Reach)] (.tup [.agg (d_group_Group a5_0), .I a5_1, .B a5_2, .I a5_3]), True]) (S' := ⟨[(2, .P 200), (3, .P 201), (4, .P 202), (5, .P 203), (7, .P 206), (8, .P 208), (9, .I a5_3), (11, .I a5_1), (13, .B a5_2)], [(200, .raw (d_workflowref55_Group p0)), (201, .raw (d_workflowlaw55_Step p1)), (202, .raw [.N, .N, .I 0, .I 0]), (203, .raw [.N, .N, .I 0, .I 0]), (206, .raw (d_group_Group a5_0)), (208, .raw [.N, .N, .I 0, .I 0])]⟩) (And.intro (workflowlaw55_of.ok h4) (And.intro trivial (And.intro (group_Propose.ok h5) trivial))) ?_
   obtain ⟨⟨a6_0, a6_1, a6_2, a6_3⟩, h6, h⟩ := bind_some h
   dsimp only at h
   refine awp_post (ar L 273 [] [(9, .tup [.agg (d_workflowref55_Group a6_0), .I a6_1, .B a6_2, .I a6_3])] [] (cs := [PCall V P 20 [.agg (d_workflowref55_Group p0), .I p1.I, .I p1.Epoch, .cv (.ro .t_uint8 p1.Data), .cv (.ro .t_int p1.Reach)] (.tup [.agg (d_workflowref55_Group a6_0), .I a6_1, .B a6_2, .I a6_3]), True]) (S' := ⟨[(2, .P 200), (3, .P 201), (4, .P 202), (5, .P 203), (7, .P 206), (8, .P 208), (9, .I a5_3), (10, .I a6_3), (11, .I a5_1), (12, .I a6_1), (13, .B a5_2), (14, .B a6_2)], [(200, .raw (d_workflowref55_Group p0)), (201, .raw (d_workflowlaw55_Step p1)), (202, .raw [.N, .N, .I 0, .I 0]), (203, .raw [.N, .N, .I 0, .I 0]), (206, .raw (d_group_Group a5_0)), (208, .raw (d_workflowref55_Group a6_0))]⟩) (And.intro (workflowref55_Propose.ok h6) trivial) ⟨rfl, rfl⟩) (Turns.trans (Turns.kp (S' := ⟨[(2, .P 200), (3, .P 201), (4, .P 202), (5, .P 203), (7, .P 206), (8, .P 208), (9, .I a5_3), (10, .I a6_3), (11, .I a5_1), (12, .I a6_1), (13, .B a5_2), (14, .B a6_2)], [(200, .raw (d_workflowref55_Group p0)), (201, .raw (d_workflowlaw55_Step p1)), (202, .raw [.N, .N, .I 0, .I 0]), (203, .raw [.N, .N, .I 0, .I 0]), (206, .raw (d_group_Group a5_0)), (208, .raw (d_workflowref55_Group a6_0))]⟩)) (Turns.trans (Turns.rn [(200, 22200), (201, 22201), (202, 22202), (203, 22203), (206, 22204), (208, 22205)] (S' := ⟨[(2, .P 22200), (3, .P 22201), (4, .P 22202), (5, .P 22203), (7, .P 22204), (8, .P 22205), (9, .I a5_3), (10, .I a6_3), (11, .I a5_1), (12, .I a6_1), (13, .B a5_2), (14, .B a6_2)], [(22200, .raw (d_workflowref55_Group p0)), (22201, .raw (d_workflowlaw55_Step p1)), (22202, .raw [.N, .N, .I 0, .I 0]), (22203, .raw [.N, .N, .I 0, .I 0]), (22204, .raw (d_group_Group a5_0)), (22205, .raw (d_workflowref55_Group a6_0))]⟩)) (Turns.kp (S' := ⟨[(2, .P 22200), (3, .P 22201), (4, .P 22202), (5, .P 22203), (7, .P 22204), (8, .P 22205), (9, .I a5_3), (10, .I a6_3), (11, .I a5_1), (12, .I a6_1), (13, .B a5_2), (14, .B a6_2)], [(22200, .raw (d_workflowref55_Group p0)), (22201, .raw (d_workflowlaw55_Step p1)), (22202, .raw [.N, .N, .I 0, .I 0]), (22203, .raw [.N, .N, .I 0, .I 0]), (22204, .raw (d_group_Group a5_0)), (22205, .raw (d_workflowref55_Group a6_0))]⟩)))) ?_
   obtain rfl := Option.some.inj h
   exact ⟨rfl, _, _, _, _, _, _, _, _, _, _, _, _, _, _, rfl, rfl⟩
  refine ff (b := (decide (p1.Kind = 1))) (decide_eq_false c2) ?_
  refine sr0 L 293 [] [] [] (S' := ⟨[(2, .P 200), (3, .P 201), (4, .P 202), (5, .P 203), (7, .P 206), (8, .P 208), (11, .I 0), (12, .I 0), (13, .B false), (14, .B false), (17, .I p1.Kind), (87, .B (decide (p1.Kind = 2)))], [(200, .raw (d_workflowref55_Group p0)), (201, .raw [.I p1.Kind, .I p1.I, .I p1.Epoch, .ro .t_uint8 p1.Data, .ro .t_int p1.Reach]), (202, .raw [.N, .N, .I 0, .I 0]), (203, .raw [.N, .N, .I 0, .I 0]), (206, .raw [.N, .N, .I 0, .I 0]), (208, .raw [.N, .N, .I 0, .I 0])]⟩) ?_
  rcases ite_some h with ⟨c3, h⟩ | ⟨c3, h⟩
  ·refine tt (b := (decide (p1.Kind = 2))) (decide_eq_true c3) ?_
   refine awp_seq ?_
   obtain ⟨a7, h7, h⟩ := bind_some h
   obtain ⟨⟨a8_0, a8_1⟩, h8, h⟩ := bind_some h
   dsimp only at h
   refine ad L mixed 296 [] [(1, .agg (d_group_Group a7)), (8, .tup [.agg [.ro .t_api_Replica a8_0.Replicas, .ro .t_bool a8_0.Up, .I a8_0.Leader, .I a8_0.Epoch], .I a8_1])] [] [206] 14 (cs := [PCall V P 18 [.agg (d_workflowref55_Group p0)] (.agg (d_group_Group a7)), True, PCall V P 21 [.agg [.ro .t_api_Replica a7.Replicas, .ro .t_bool a7.Up, .I a7.Leader, .I a7.Epoch], .I p1.I, .I p1.Epoch, .cv (.ro .t_int p1.Reach)] (.tup [.agg [.ro .t_api_Replica a8_0.Replicas, .ro .t_bool a8_0.Up, .I a8_0.Leader, .I a8_0.Epoch], .I a8_1]), True]) (S' := ⟨[(2, .P 200), (3, .P 201), (4, .P 202), (5, .P 203), (7, .P 206), (8, .P 208), (9, .I a8_1), (11, .I 0), (12, .I 0), (13, .B false), (14, .B false)], [(200, .raw (d_workflowref55_Group p0)), (201, .raw [.I p1.Kind, .I p1.I, .I p1.Epoch, .ro .t_uint8 p1.Data, .ro .t_int p1.Reach]), (202, .raw [.N, .N, .I 0, .I 0]), (203, .raw [.N, .N, .I 0, .I 0]), (206, .raw [.ro .t_api_Replica a8_0.Replicas, .ro .t_bool a8_0.Up, .I a8_0.Leader, .I a8_0.Epoch]), (208, .raw [.N, .N, .I 0, .I 0])]⟩) (And.intro (workflowlaw55_of.ok h7) (And.intro trivial (And.intro (group_Sync.ok h8) trivial))) ?_
   obtain ⟨⟨a9_0, a9_1⟩, h9, h⟩ := bind_some h
   dsimp only at h
   refine awp_post (ar L 311 [] [(7, .tup [.agg [.ro .t_api_Replica a9_0.Replicas, .ro .t_bool a9_0.Up, .I a9_0.Leader, .I a9_0.Epoch], .I a9_1])] [] (cs := [PCall V P 22 [.agg (d_workflowref55_Group p0), .I p1.I, .I p1.Epoch, .cv (.ro .t_int p1.Reach)] (.tup [.agg [.ro .t_api_Replica a9_0.Replicas, .ro .t_bool a9_0.Up, .I a9_0.Leader, .I a9_0.Epoch], .I a9_1]), True]) (S' := ⟨[(2, .P 200), (3, .P 201), (4, .P 202), (5, .P 203), (7, .P 206), (8, .P 208), (9, .I a8_1), (10, .I a9_1), (11, .I 0), (12, .I 0), (13, .B false), (14, .B false)], [(200, .raw (d_workflowref55_Group p0)), (201, .raw [.I p1.Kind, .I p1.I, .I p1.Epoch, .ro .t_uint8 p1.Data, .ro .t_int p1.Reach]), (202, .raw [.N, .N, .I 0, .I 0]), (203, .raw [.N, .N, .I 0, .I 0]), (206, .raw [.ro .t_api_Replica a8_0.Replicas, .ro .t_bool a8_0.Up, .I a8_0.Leader, .I a8_0.Epoch]), (208, .raw [.ro .t_api_Replica a9_0.Replicas, .ro .t_bool a9_0.Up, .I a9_0.Leader, .I a9_0.Epoch])]⟩) (And.intro (workflowref55_Sync.ok h9) trivial) ⟨rfl, rfl⟩) (Turns.trans (Turns.kp (S' := ⟨[(2, .P 200), (3, .P 201), (4, .P 202), (5, .P 203), (7, .P 206), (8, .P 208), (9, .I a8_1), (10, .I a9_1), (11, .I 0), (12, .I 0), (13, .B false), (14, .B false)], [(200, .raw (d_workflowref55_Group p0)), (201, .raw [.I p1.Kind, .I p1.I, .I p1.Epoch, .ro .t_uint8 p1.Data, .ro .t_int p1.Reach]), (202, .raw [.N, .N, .I 0, .I 0]), (203, .raw [.N, .N, .I 0, .I 0]), (206, .raw [.ro .t_api_Replica a8_0.Replicas, .ro .t_bool a8_0.Up, .I a8_0.Leader, .I a8_0.Epoch]), (208, .raw [.ro .t_api_Replica a9_0.Replicas, .ro .t_bool a9_0.Up, .I a9_0.Leader, .I a9_0.Epoch])]⟩)) (Turns.trans (Turns.rn [(200, 22200), (201, 22201), (202, 22202), (203, 22203), (206, 22204), (208, 22205)] (S' := ⟨[(2, .P 22200), (3, .P 22201), (4, .P 22202), (5, .P 22203), (7, .P 22204), (8, .P 22205), (9, .I a8_1), (10, .I a9_1), (11, .I 0), (12, .I 0), (13, .B false), (14, .B false)], [(22200, .raw (d_workflowref55_Group p0)), (22201, .raw [.I p1.Kind, .I p1.I, .I p1.Epoch, .ro .t_uint8 p1.Data, .ro .t_int p1.Reach]), (22202, .raw [.N, .N, .I 0, .I 0]), (22203, .raw [.N, .N, .I 0, .I 0]), (22204, .raw [.ro .t_api_Replica a8_0.Replicas, .ro .t_bool a8_0.Up, .I a8_0.Leader, .I a8_0.Epoch]), (22205, .raw [.ro .t_api_Replica a9_0.Replicas, .ro .t_bool a9_0.Up, .I a9_0.Leader, .I a9_0.Epoch])]⟩)) (Turns.kp (S' := ⟨[(2, .P 22200), (3, .P 22201), (4, .P 22202), (5, .P 22203), (7, .P 22204), (8, .P 22205), (9, .I a8_1), (10, .I a9_1), (11, .I 0), (12, .I 0), (13, .B false), (14, .B false)], [(22200, .raw (d_workflowref55_Group p0)), (22201, .raw [.I p1.Kind, .I p1.I, .I p1.Epoch, .ro .t_uint8 p1.Data, .ro .t_int p1.Reach]), (22202, .raw [.N, .N, .I 0, .I 0]), (22203, .raw [.N, .N, .I 0, .I 0]), (22204, .raw [.ro .t_api_Replica a8_0.Replicas, .ro .t_bool a8_0.Up, .I a8_0.Leader, .I a8_0.Epoch]), (22205, .raw [.ro .t_api_Replica a9_0.Replicas, .ro .t_bool a9_0.Up, .I a9_0.Leader, .I a9_0.Epoch])]⟩)))) ?_
   obtain rfl := Option.some.inj h
   exact ⟨rfl, _, _, _, _, _, _, _, _, _, _, _, _, _, _, rfl, rfl⟩
  refine ff (b := (decide (p1.Kind = 2))) (decide_eq_false c3) ?_
  refine sr0 L 325 [] [] [] (S' := ⟨[(2, .P 200), (3, .P 201), (4, .P 202), (5, .P 203), (7, .P 206), (8, .P 208), (11, .I 0), (12, .I 0), (13, .B false), (14, .B false), (112, .B (decide (p1.Kind = 3)))], [(200, .raw (d_workflowref55_Group p0)), (201, .raw [.I p1.Kind, .I p1.I, .I p1.Epoch, .ro .t_uint8 p1.Data, .ro .t_int p1.Reach]), (202, .raw [.N, .N, .I 0, .I 0]), (203, .raw [.N, .N, .I 0, .I 0]), (206, .raw [.N, .N, .I 0, .I 0]), (208, .raw [.N, .N, .I 0, .I 0])]⟩) ?_
  rcases ite_some h with ⟨c4, h⟩ | ⟨c4, h⟩
  ·refine tt (b := (decide (p1.Kind = 3))) (decide_eq_true c4) ?_
   refine awp_seq ?_
   obtain ⟨a10, h10, h⟩ := bind_some h
   obtain ⟨⟨a11_0, a11_1⟩, h11, h⟩ := bind_some h
   dsimp only at h
   refine ad L mixed 328 [] [(1, .agg [.ro .t_api_Replica a10.Replicas, .ro .t_bool a10.Up, .I a10.Leader, .I a10.Epoch]), (4, .tup [.agg [.ro .t_api_Replica a11_0.Replicas, .ro .t_bool a11_0.Up, .I a11_0.Leader, .I a11_0.Epoch], .I a11_1])] [] [206] 10 (cs := [PCall V P 18 [.agg (d_workflowref55_Group p0)] (.agg [.ro .t_api_Replica a10.Replicas, .ro .t_bool a10.Up, .I a10.Leader, .I a10.Epoch]), True, PCall V P 23 [.agg [.ro .t_api_Replica a10.Replicas, .ro .t_bool a10.Up, .I a10.Leader, .I a10.Epoch], .I p1.I] (.tup [.agg [.ro .t_api_Replica a11_0.Replicas, .ro .t_bool a11_0.Up, .I a11_0.Leader, .I a11_0.Epoch], .I a11_1]), True]) (S' := ⟨[(2, .P 200), (3, .P 201), (4, .P 202), (5, .P 203), (7, .P 206), (8, .P 208), (9, .I a11_1), (11, .I 0), (12, .I 0), (13, .B false), (14, .B false)], [(200, .raw (d_workflowref55_Group p0)), (201, .raw [.I p1.Kind, .I p1.I, .I p1.Epoch, .ro .t_uint8 p1.Data, .ro .t_int p1.Reach]), (202, .raw [.N, .N, .I 0, .I 0]), (203, .raw [.N, .N, .I 0, .I 0]), (206, .raw [.ro .t_api_Replica a11_0.Replicas, .ro .t_bool a11_0.Up, .I a11_0.Leader, .I a11_0.Epoch]), (208, .raw [.N, .N, .I 0, .I 0])]⟩) (And.intro (workflowlaw55_of.ok h10) (And.intro trivial (And.intro (group_Stop.ok h11) trivial))) ?_
   obtain ⟨⟨a12_0, a12_1⟩, h12, h⟩ := bind_some h
   dsimp only at h
   refine awp_post (ar L 339 [] [(3, .tup [.agg [.ro .t_api_Replica a12_0.Replicas, .ro .t_bool a12_0.Up, .I a12_0.Leader, .I a12_0.Epoch], .I a12_1])] [] (cs := [PCall V P 24 [.agg (d_workflowref55_Group p0), .I p1.I] (.tup [.agg [.ro .t_api_Replica a12_0.Replicas, .ro .t_bool a12_0.Up, .I a12_0.Leader, .I a12_0.Epoch], .I a12_1]), True]) (S' := ⟨[(2, .P 200), (3, .P 201), (4, .P 202), (5, .P 203), (7, .P 206), (8, .P 208), (9, .I a11_1), (10, .I a12_1), (11, .I 0), (12, .I 0), (13, .B false), (14, .B false)], [(200, .raw (d_workflowref55_Group p0)), (201, .raw [.I p1.Kind, .I p1.I, .I p1.Epoch, .ro .t_uint8 p1.Data, .ro .t_int p1.Reach]), (202, .raw [.N, .N, .I 0, .I 0]), (203, .raw [.N, .N, .I 0, .I 0]), (206, .raw [.ro .t_api_Replica a11_0.Replicas, .ro .t_bool a11_0.Up, .I a11_0.Leader, .I a11_0.Epoch]), (208, .raw [.ro .t_api_Replica a12_0.Replicas, .ro .t_bool a12_0.Up, .I a12_0.Leader, .I a12_0.Epoch])]⟩) (And.intro (workflowref55_Stop.ok h12) trivial) ⟨rfl, rfl⟩) (Turns.trans (Turns.kp (S' := ⟨[(2, .P 200), (3, .P 201), (4, .P 202), (5, .P 203), (7, .P 206), (8, .P 208), (9, .I a11_1), (10, .I a12_1), (11, .I 0), (12, .I 0), (13, .B false), (14, .B false)], [(200, .raw (d_workflowref55_Group p0)), (201, .raw [.I p1.Kind, .I p1.I, .I p1.Epoch, .ro .t_uint8 p1.Data, .ro .t_int p1.Reach]), (202, .raw [.N, .N, .I 0, .I 0]), (203, .raw [.N, .N, .I 0, .I 0]), (206, .raw [.ro .t_api_Replica a11_0.Replicas, .ro .t_bool a11_0.Up, .I a11_0.Leader, .I a11_0.Epoch]), (208, .raw [.ro .t_api_Replica a12_0.Replicas, .ro .t_bool a12_0.Up, .I a12_0.Leader, .I a12_0.Epoch])]⟩)) (Turns.trans (Turns.rn [(200, 22200), (201, 22201), (202, 22202), (203, 22203), (206, 22204), (208, 22205)] (S' := ⟨[(2, .P 22200), (3, .P 22201), (4, .P 22202), (5, .P 22203), (7, .P 22204), (8, .P 22205), (9, .I a11_1), (10, .I a12_1), (11, .I 0), (12, .I 0), (13, .B false), (14, .B false)], [(22200, .raw (d_workflowref55_Group p0)), (22201, .raw [.I p1.Kind, .I p1.I, .I p1.Epoch, .ro .t_uint8 p1.Data, .ro .t_int p1.Reach]), (22202, .raw [.N, .N, .I 0, .I 0]), (22203, .raw [.N, .N, .I 0, .I 0]), (22204, .raw [.ro .t_api_Replica a11_0.Replicas, .ro .t_bool a11_0.Up, .I a11_0.Leader, .I a11_0.Epoch]), (22205, .raw [.ro .t_api_Replica a12_0.Replicas, .ro .t_bool a12_0.Up, .I a12_0.Leader, .I a12_0.Epoch])]⟩)) (Turns.kp (S' := ⟨[(2, .P 22200), (3, .P 22201), (4, .P 22202), (5, .P 22203), (7, .P 22204), (8, .P 22205), (9, .I a11_1), (10, .I a12_1), (11, .I 0), (12, .I 0), (13, .B false), (14, .B false)], [(22200, .raw (d_workflowref55_Group p0)), (22201, .raw [.I p1.Kind, .I p1.I, .I p1.Epoch, .ro .t_uint8 p1.Data, .ro .t_int p1.Reach]), (22202, .raw [.N, .N, .I 0, .I 0]), (22203, .raw [.N, .N, .I 0, .I 0]), (22204, .raw [.ro .t_api_Replica a11_0.Replicas, .ro .t_bool a11_0.Up, .I a11_0.Leader, .I a11_0.Epoch]), (22205, .raw [.ro .t_api_Replica a12_0.Replicas, .ro .t_bool a12_0.Up, .I a12_0.Leader, .I a12_0.Epoch])]⟩)))) ?_
   obtain rfl := Option.some.inj h
   exact ⟨rfl, _, _, _, _, _, _, _, _, _, _, _, _, _, _, rfl, rfl⟩
  refine ff (b := (decide (p1.Kind = 3))) (decide_eq_false c4) ?_
  refine awp_seq ?_
  obtain ⟨a13, h13, h⟩ := bind_some h
  obtain ⟨⟨a14_0, a14_1⟩, h14, h⟩ := bind_some h
  dsimp only at h
  refine ad L mixed 349 [] [(1, .agg [.ro .t_api_Replica a13.Replicas, .ro .t_bool a13.Up, .I a13.Leader, .I a13.Epoch]), (4, .tup [.agg [.ro .t_api_Replica a14_0.Replicas, .ro .t_bool a14_0.Up, .I a14_0.Leader, .I a14_0.Epoch], .I a14_1])] [] [206] 10 (cs := [PCall V P 18 [.agg (d_workflowref55_Group p0)] (.agg [.ro .t_api_Replica a13.Replicas, .ro .t_bool a13.Up, .I a13.Leader, .I a13.Epoch]), True, PCall V P 25 [.agg [.ro .t_api_Replica a13.Replicas, .ro .t_bool a13.Up, .I a13.Leader, .I a13.Epoch], .I p1.I] (.tup [.agg [.ro .t_api_Replica a14_0.Replicas, .ro .t_bool a14_0.Up, .I a14_0.Leader, .I a14_0.Epoch], .I a14_1]), True]) (S' := ⟨[(2, .P 200), (3, .P 201), (4, .P 202), (5, .P 203), (7, .P 206), (8, .P 208), (9, .I a14_1), (11, .I 0), (12, .I 0), (13, .B false), (14, .B false)], [(200, .raw (d_workflowref55_Group p0)), (201, .raw [.I p1.Kind, .I p1.I, .I p1.Epoch, .ro .t_uint8 p1.Data, .ro .t_int p1.Reach]), (202, .raw [.N, .N, .I 0, .I 0]), (203, .raw [.N, .N, .I 0, .I 0]), (206, .raw [.ro .t_api_Replica a14_0.Replicas, .ro .t_bool a14_0.Up, .I a14_0.Leader, .I a14_0.Epoch]), (208, .raw [.N, .N, .I 0, .I 0])]⟩) (And.intro (workflowlaw55_of.ok h13) (And.intro trivial (And.intro (group_Start.ok h14) trivial))) ?_
  obtain ⟨⟨a15_0, a15_1⟩, h15, h⟩ := bind_some h
  dsimp only at h
  refine awp_post (ar L 360 [] [(3, .tup [.agg [.ro .t_api_Replica a15_0.Replicas, .ro .t_bool a15_0.Up, .I a15_0.Leader, .I a15_0.Epoch], .I a15_1])] [] (cs := [PCall V P 26 [.agg (d_workflowref55_Group p0), .I p1.I] (.tup [.agg [.ro .t_api_Replica a15_0.Replicas, .ro .t_bool a15_0.Up, .I a15_0.Leader, .I a15_0.Epoch], .I a15_1]), True]) (S' := ⟨[(2, .P 200), (3, .P 201), (4, .P 202), (5, .P 203), (7, .P 206), (8, .P 208), (9, .I a14_1), (10, .I a15_1), (11, .I 0), (12, .I 0), (13, .B false), (14, .B false)], [(200, .raw (d_workflowref55_Group p0)), (201, .raw [.I p1.Kind, .I p1.I, .I p1.Epoch, .ro .t_uint8 p1.Data, .ro .t_int p1.Reach]), (202, .raw [.N, .N, .I 0, .I 0]), (203, .raw [.N, .N, .I 0, .I 0]), (206, .raw [.ro .t_api_Replica a14_0.Replicas, .ro .t_bool a14_0.Up, .I a14_0.Leader, .I a14_0.Epoch]), (208, .raw [.ro .t_api_Replica a15_0.Replicas, .ro .t_bool a15_0.Up, .I a15_0.Leader, .I a15_0.Epoch])]⟩) (And.intro (workflowref55_Start.ok h15) trivial) ⟨rfl, rfl⟩) (Turns.trans (Turns.kp (S' := ⟨[(2, .P 200), (3, .P 201), (4, .P 202), (5, .P 203), (7, .P 206), (8, .P 208), (9, .I a14_1), (10, .I a15_1), (11, .I 0), (12, .I 0), (13, .B false), (14, .B false)], [(200, .raw (d_workflowref55_Group p0)), (201, .raw [.I p1.Kind, .I p1.I, .I p1.Epoch, .ro .t_uint8 p1.Data, .ro .t_int p1.Reach]), (202, .raw [.N, .N, .I 0, .I 0]), (203, .raw [.N, .N, .I 0, .I 0]), (206, .raw [.ro .t_api_Replica a14_0.Replicas, .ro .t_bool a14_0.Up, .I a14_0.Leader, .I a14_0.Epoch]), (208, .raw [.ro .t_api_Replica a15_0.Replicas, .ro .t_bool a15_0.Up, .I a15_0.Leader, .I a15_0.Epoch])]⟩)) (Turns.trans (Turns.rn [(200, 22200), (201, 22201), (202, 22202), (203, 22203), (206, 22204), (208, 22205)] (S' := ⟨[(2, .P 22200), (3, .P 22201), (4, .P 22202), (5, .P 22203), (7, .P 22204), (8, .P 22205), (9, .I a14_1), (10, .I a15_1), (11, .I 0), (12, .I 0), (13, .B false), (14, .B false)], [(22200, .raw (d_workflowref55_Group p0)), (22201, .raw [.I p1.Kind, .I p1.I, .I p1.Epoch, .ro .t_uint8 p1.Data, .ro .t_int p1.Reach]), (22202, .raw [.N, .N, .I 0, .I 0]), (22203, .raw [.N, .N, .I 0, .I 0]), (22204, .raw [.ro .t_api_Replica a14_0.Replicas, .ro .t_bool a14_0.Up, .I a14_0.Leader, .I a14_0.Epoch]), (22205, .raw [.ro .t_api_Replica a15_0.Replicas, .ro .t_bool a15_0.Up, .I a15_0.Leader, .I a15_0.Epoch])]⟩)) (Turns.kp (S' := ⟨[(2, .P 22200), (3, .P 22201), (4, .P 22202), (5, .P 22203), (7, .P 22204), (8, .P 22205), (9, .I a14_1), (10, .I a15_1), (11, .I 0), (12, .I 0), (13, .B false), (14, .B false)], [(22200, .raw (d_workflowref55_Group p0)), (22201, .raw [.I p1.Kind, .I p1.I, .I p1.Epoch, .ro .t_uint8 p1.Data, .ro .t_int p1.Reach]), (22202, .raw [.N, .N, .I 0, .I 0]), (22203, .raw [.N, .N, .I 0, .I 0]), (22204, .raw [.ro .t_api_Replica a14_0.Replicas, .ro .t_bool a14_0.Up, .I a14_0.Leader, .I a14_0.Epoch]), (22205, .raw [.ro .t_api_Replica a15_0.Replicas, .ro .t_bool a15_0.Up, .I a15_0.Leader, .I a15_0.Epoch])]⟩)))) ?_
  obtain rfl := Option.some.inj h
  exact ⟨rfl, _, _, _, _, _, _, _, _, _, _, _, _, _, _, rfl, rfl⟩
 ·rintro e S ⟨rfl, xt9_11, xt10_11, xt11_11, xt12_11, xt13_11, xt14_11, x22204_0, x22204_1, x22204_2, x22204_3, x22205_0, x22205_1, x22205_2, x22205_3, rfl, rfl⟩
  dsimp only at h
  obtain ⟨o2, hp2, h⟩ := bind_some h
  refine awp_seq (awp_mono (Q' := fun e S => (e = .normal ∧ ∃ xt15_42 : Bool, S = ⟨[(2, .P 28400), (3, .P 28401), (4, .P 28402), (5, .P 28403), (7, .P 28404), (8, .P 28405), (9, .I xt9_11), (15, .B xt15_42)], [(28400, .raw (d_workflowref55_Group p0)), (28401, .raw [.I p1.Kind, .I p1.I, .I p1.Epoch, .ro .t_uint8 p1.Data, .ro .t_int p1.Reach]), (28402, .raw [.N, .N, .I 0, .I 0]), (28403, .raw [.N, .N, .I 0, .I 0]), (28404, .raw [.ro .t_api_Replica x22204_0, .ro .t_bool x22204_1, .I x22204_2, .I x22204_3]), (28405, .raw [.ro .t_api_Replica x22205_0, .ro .t_bool x22205_1, .I x22205_2, .I x22205_3])]⟩ ∧ xt15_42 = o2)) ?_ ?_)
  ·clear h
   replace h := hp2
   rcases ite_some h with ⟨c5, h⟩ | ⟨c5, h⟩
   ·rcases ite_some h with ⟨c6, h⟩ | ⟨c6, h⟩
    ·rcases ite_some h with ⟨c7, h⟩ | ⟨c7, h⟩
     ·obtain ⟨a16, h16, h⟩ := bind_some h
      obtain ⟨a17, h17, h⟩ := bind_some h
      refine awp_post (ad L mixed 370 [(3, true), (8, true), (13, true)] [(15, .agg [.ro .t_api_Replica a16.Replicas, .ro .t_bool a16.Up, .I a16.Leader, .I a16.Epoch]), (17, .B a17)] [] [] 20 (cs := [(decide (xt9_11 = xt10_11)) = true, (decide (xt11_11 = xt12_11)) = true, (xt13_11 == xt14_11) = true, PCall V P 11 [.agg [.ro .t_api_Replica x22204_0, .ro .t_bool x22204_1, .I x22204_2, .I x22204_3]] (.agg [.ro .t_api_Replica a16.Replicas, .ro .t_bool a16.Up, .I a16.Leader, .I a16.Epoch]), True, PCall V P 27 [.agg [.ro .t_api_Replica a16.Replicas, .ro .t_bool a16.Up, .I a16.Leader, .I a16.Epoch], .agg [.ro .t_api_Replica x22205_0, .ro .t_bool x22205_1, .I x22205_2, .I x22205_3]] (.B a17), True]) (S' := ⟨[(2, .P 22200), (3, .P 22201), (4, .P 22202), (5, .P 22203), (7, .P 22204), (8, .P 22205), (9, .I xt9_11), (15, .B a17)], [(22200, .raw (d_workflowref55_Group p0)), (22201, .raw [.I p1.Kind, .I p1.I, .I p1.Epoch, .ro .t_uint8 p1.Data, .ro .t_int p1.Reach]), (22202, .raw [.N, .N, .I 0, .I 0]), (22203, .raw [.N, .N, .I 0, .I 0]), (22204, .raw [.ro .t_api_Replica x22204_0, .ro .t_bool x22204_1, .I x22204_2, .I x22204_3]), (22205, .raw [.ro .t_api_Replica x22205_0, .ro .t_bool x22205_1, .I x22205_2, .I x22205_3])]⟩) (And.intro (decide_eq_true c5) (And.intro (decide_eq_true c6) (And.intro c7 (And.intro (workflowlaw55_back.ok h16) (And.intro trivial (And.intro (workflowref55_Same.ok h17) trivial)))))) ⟨rfl, rfl⟩) (Turns.trans (Turns.kp (S' := ⟨[(2, .P 22200), (3, .P 22201), (4, .P 22202), (5, .P 22203), (7, .P 22204), (8, .P 22205), (9, .I xt9_11), (15, .B a17)], [(22200, .raw (d_workflowref55_Group p0)), (22201, .raw [.I p1.Kind, .I p1.I, .I p1.Epoch, .ro .t_uint8 p1.Data, .ro .t_int p1.Reach]), (22202, .raw [.N, .N, .I 0, .I 0]), (22203, .raw [.N, .N, .I 0, .I 0]), (22204, .raw [.ro .t_api_Replica x22204_0, .ro .t_bool x22204_1, .I x22204_2, .I x22204_3]), (22205, .raw [.ro .t_api_Replica x22205_0, .ro .t_bool x22205_1, .I x22205_2, .I x22205_3])]⟩)) (Turns.trans (Turns.rn [(22200, 28400), (22201, 28401), (22202, 28402), (22203, 28403), (22204, 28404), (22205, 28405)] (S' := ⟨[(2, .P 28400), (3, .P 28401), (4, .P 28402), (5, .P 28403), (7, .P 28404), (8, .P 28405), (9, .I xt9_11), (15, .B a17)], [(28400, .raw (d_workflowref55_Group p0)), (28401, .raw [.I p1.Kind, .I p1.I, .I p1.Epoch, .ro .t_uint8 p1.Data, .ro .t_int p1.Reach]), (28402, .raw [.N, .N, .I 0, .I 0]), (28403, .raw [.N, .N, .I 0, .I 0]), (28404, .raw [.ro .t_api_Replica x22204_0, .ro .t_bool x22204_1, .I x22204_2, .I x22204_3]), (28405, .raw [.ro .t_api_Replica x22205_0, .ro .t_bool x22205_1, .I x22205_2, .I x22205_3])]⟩)) (Turns.kp (S' := ⟨[(2, .P 28400), (3, .P 28401), (4, .P 28402), (5, .P 28403), (7, .P 28404), (8, .P 28405), (9, .I xt9_11), (15, .B a17)], [(28400, .raw (d_workflowref55_Group p0)), (28401, .raw [.I p1.Kind, .I p1.I, .I p1.Epoch, .ro .t_uint8 p1.Data, .ro .t_int p1.Reach]), (28402, .raw [.N, .N, .I 0, .I 0]), (28403, .raw [.N, .N, .I 0, .I 0]), (28404, .raw [.ro .t_api_Replica x22204_0, .ro .t_bool x22204_1, .I x22204_2, .I x22204_3]), (28405, .raw [.ro .t_api_Replica x22205_0, .ro .t_bool x22205_1, .I x22205_2, .I x22205_3])]⟩)))) ?_
      obtain rfl := Option.some.inj h
      exact ⟨rfl, _, rfl, rfl⟩
     refine awp_post (ad L mixed 370 [(3, true), (8, true), (13, false)] [] [] [] 20 (cs := [(decide (xt9_11 = xt10_11)) = true, (decide (xt11_11 = xt12_11)) = true, (xt13_11 == xt14_11) = false]) (S' := ⟨[(2, .P 22200), (3, .P 22201), (4, .P 22202), (5, .P 22203), (7, .P 22204), (8, .P 22205), (9, .I xt9_11), (15, .B false)], [(22200, .raw (d_workflowref55_Group p0)), (22201, .raw [.I p1.Kind, .I p1.I, .I p1.Epoch, .ro .t_uint8 p1.Data, .ro .t_int p1.Reach]), (22202, .raw [.N, .N, .I 0, .I 0]), (22203, .raw [.N, .N, .I 0, .I 0]), (22204, .raw [.ro .t_api_Replica x22204_0, .ro .t_bool x22204_1, .I x22204_2, .I x22204_3]), (22205, .raw [.ro .t_api_Replica x22205_0, .ro .t_bool x22205_1, .I x22205_2, .I x22205_3])]⟩) (And.intro (decide_eq_true c5) (And.intro (decide_eq_true c6) (eq_false_of_ne_true c7))) ⟨rfl, rfl⟩) (Turns.trans (Turns.kp (S' := ⟨[(2, .P 22200), (3, .P 22201), (4, .P 22202), (5, .P 22203), (7, .P 22204), (8, .P 22205), (9, .I xt9_11), (15, .B false)], [(22200, .raw (d_workflowref55_Group p0)), (22201, .raw [.I p1.Kind, .I p1.I, .I p1.Epoch, .ro .t_uint8 p1.Data, .ro .t_int p1.Reach]), (22202, .raw [.N, .N, .I 0, .I 0]), (22203, .raw [.N, .N, .I 0, .I 0]), (22204, .raw [.ro .t_api_Replica x22204_0, .ro .t_bool x22204_1, .I x22204_2, .I x22204_3]), (22205, .raw [.ro .t_api_Replica x22205_0, .ro .t_bool x22205_1, .I x22205_2, .I x22205_3])]⟩)) (Turns.trans (Turns.rn [(22200, 28400), (22201, 28401), (22202, 28402), (22203, 28403), (22204, 28404), (22205, 28405)] (S' := ⟨[(2, .P 28400), (3, .P 28401), (4, .P 28402), (5, .P 28403), (7, .P 28404), (8, .P 28405), (9, .I xt9_11), (15, .B false)], [(28400, .raw (d_workflowref55_Group p0)), (28401, .raw [.I p1.Kind, .I p1.I, .I p1.Epoch, .ro .t_uint8 p1.Data, .ro .t_int p1.Reach]), (28402, .raw [.N, .N, .I 0, .I 0]), (28403, .raw [.N, .N, .I 0, .I 0]), (28404, .raw [.ro .t_api_Replica x22204_0, .ro .t_bool x22204_1, .I x22204_2, .I x22204_3]), (28405, .raw [.ro .t_api_Replica x22205_0, .ro .t_bool x22205_1, .I x22205_2, .I x22205_3])]⟩)) (Turns.kp (S' := ⟨[(2, .P 28400), (3, .P 28401), (4, .P 28402), (5, .P 28403), (7, .P 28404), (8, .P 28405), (9, .I xt9_11), (15, .B false)], [(28400, .raw (d_workflowref55_Group p0)), (28401, .raw [.I p1.Kind, .I p1.I, .I p1.Epoch, .ro .t_uint8 p1.Data, .ro .t_int p1.Reach]), (28402, .raw [.N, .N, .I 0, .I 0]), (28403, .raw [.N, .N, .I 0, .I 0]), (28404, .raw [.ro .t_api_Replica x22204_0, .ro .t_bool x22204_1, .I x22204_2, .I x22204_3]), (28405, .raw [.ro .t_api_Replica x22205_0, .ro .t_bool x22205_1, .I x22205_2, .I x22205_3])]⟩)))) ?_
     obtain rfl := Option.some.inj h
     exact ⟨rfl, _, rfl, rfl⟩
    refine awp_post (ad L mixed 370 [(3, true), (8, false)] [] [] [] 20 (cs := [(decide (xt9_11 = xt10_11)) = true, (decide (xt11_11 = xt12_11)) = false]) (S' := ⟨[(2, .P 22200), (3, .P 22201), (4, .P 22202), (5, .P 22203), (7, .P 22204), (8, .P 22205), (9, .I xt9_11), (15, .B false)], [(22200, .raw (d_workflowref55_Group p0)), (22201, .raw [.I p1.Kind, .I p1.I, .I p1.Epoch, .ro .t_uint8 p1.Data, .ro .t_int p1.Reach]), (22202, .raw [.N, .N, .I 0, .I 0]), (22203, .raw [.N, .N, .I 0, .I 0]), (22204, .raw [.ro .t_api_Replica x22204_0, .ro .t_bool x22204_1, .I x22204_2, .I x22204_3]), (22205, .raw [.ro .t_api_Replica x22205_0, .ro .t_bool x22205_1, .I x22205_2, .I x22205_3])]⟩) (And.intro (decide_eq_true c5) (decide_eq_false c6)) ⟨rfl, rfl⟩) (Turns.trans (Turns.kp (S' := ⟨[(2, .P 22200), (3, .P 22201), (4, .P 22202), (5, .P 22203), (7, .P 22204), (8, .P 22205), (9, .I xt9_11), (15, .B false)], [(22200, .raw (d_workflowref55_Group p0)), (22201, .raw [.I p1.Kind, .I p1.I, .I p1.Epoch, .ro .t_uint8 p1.Data, .ro .t_int p1.Reach]), (22202, .raw [.N, .N, .I 0, .I 0]), (22203, .raw [.N, .N, .I 0, .I 0]), (22204, .raw [.ro .t_api_Replica x22204_0, .ro .t_bool x22204_1, .I x22204_2, .I x22204_3]), (22205, .raw [.ro .t_api_Replica x22205_0, .ro .t_bool x22205_1, .I x22205_2, .I x22205_3])]⟩)) (Turns.trans (Turns.rn [(22200, 28400), (22201, 28401), (22202, 28402), (22203, 28403), (22204, 28404), (22205, 28405)] (S' := ⟨[(2, .P 28400), (3, .P 28401), (4, .P 28402), (5, .P 28403), (7, .P 28404), (8, .P 28405), (9, .I xt9_11), (15, .B false)], [(28400, .raw (d_workflowref55_Group p0)), (28401, .raw [.I p1.Kind, .I p1.I, .I p1.Epoch, .ro .t_uint8 p1.Data, .ro .t_int p1.Reach]), (28402, .raw [.N, .N, .I 0, .I 0]), (28403, .raw [.N, .N, .I 0, .I 0]), (28404, .raw [.ro .t_api_Replica x22204_0, .ro .t_bool x22204_1, .I x22204_2, .I x22204_3]), (28405, .raw [.ro .t_api_Replica x22205_0, .ro .t_bool x22205_1, .I x22205_2, .I x22205_3])]⟩)) (Turns.kp (S' := ⟨[(2, .P 28400), (3, .P 28401), (4, .P 28402), (5, .P 28403), (7, .P 28404), (8, .P 28405), (9, .I xt9_11), (15, .B false)], [(28400, .raw (d_workflowref55_Group p0)), (28401, .raw [.I p1.Kind, .I p1.I, .I p1.Epoch, .ro .t_uint8 p1.Data, .ro .t_int p1.Reach]), (28402, .raw [.N, .N, .I 0, .I 0]), (28403, .raw [.N, .N, .I 0, .I 0]), (28404, .raw [.ro .t_api_Replica x22204_0, .ro .t_bool x22204_1, .I x22204_2, .I x22204_3]), (28405, .raw [.ro .t_api_Replica x22205_0, .ro .t_bool x22205_1, .I x22205_2, .I x22205_3])]⟩)))) ?_
    obtain rfl := Option.some.inj h
    exact ⟨rfl, _, rfl, rfl⟩
   refine awp_post (ad L mixed 370 [(3, false)] [] [] [] 20 (cs := [(decide (xt9_11 = xt10_11)) = false]) (S' := ⟨[(2, .P 22200), (3, .P 22201), (4, .P 22202), (5, .P 22203), (7, .P 22204), (8, .P 22205), (9, .I xt9_11), (15, .B false)], [(22200, .raw (d_workflowref55_Group p0)), (22201, .raw [.I p1.Kind, .I p1.I, .I p1.Epoch, .ro .t_uint8 p1.Data, .ro .t_int p1.Reach]), (22202, .raw [.N, .N, .I 0, .I 0]), (22203, .raw [.N, .N, .I 0, .I 0]), (22204, .raw [.ro .t_api_Replica x22204_0, .ro .t_bool x22204_1, .I x22204_2, .I x22204_3]), (22205, .raw [.ro .t_api_Replica x22205_0, .ro .t_bool x22205_1, .I x22205_2, .I x22205_3])]⟩) (decide_eq_false c5) ⟨rfl, rfl⟩) (Turns.trans (Turns.kp (S' := ⟨[(2, .P 22200), (3, .P 22201), (4, .P 22202), (5, .P 22203), (7, .P 22204), (8, .P 22205), (9, .I xt9_11), (15, .B false)], [(22200, .raw (d_workflowref55_Group p0)), (22201, .raw [.I p1.Kind, .I p1.I, .I p1.Epoch, .ro .t_uint8 p1.Data, .ro .t_int p1.Reach]), (22202, .raw [.N, .N, .I 0, .I 0]), (22203, .raw [.N, .N, .I 0, .I 0]), (22204, .raw [.ro .t_api_Replica x22204_0, .ro .t_bool x22204_1, .I x22204_2, .I x22204_3]), (22205, .raw [.ro .t_api_Replica x22205_0, .ro .t_bool x22205_1, .I x22205_2, .I x22205_3])]⟩)) (Turns.trans (Turns.rn [(22200, 28400), (22201, 28401), (22202, 28402), (22203, 28403), (22204, 28404), (22205, 28405)] (S' := ⟨[(2, .P 28400), (3, .P 28401), (4, .P 28402), (5, .P 28403), (7, .P 28404), (8, .P 28405), (9, .I xt9_11), (15, .B false)], [(28400, .raw (d_workflowref55_Group p0)), (28401, .raw [.I p1.Kind, .I p1.I, .I p1.Epoch, .ro .t_uint8 p1.Data, .ro .t_int p1.Reach]), (28402, .raw [.N, .N, .I 0, .I 0]), (28403, .raw [.N, .N, .I 0, .I 0]), (28404, .raw [.ro .t_api_Replica x22204_0, .ro .t_bool x22204_1, .I x22204_2, .I x22204_3]), (28405, .raw [.ro .t_api_Replica x22205_0, .ro .t_bool x22205_1, .I x22205_2, .I x22205_3])]⟩)) (Turns.kp (S' := ⟨[(2, .P 28400), (3, .P 28401), (4, .P 28402), (5, .P 28403), (7, .P 28404), (8, .P 28405), (9, .I xt9_11), (15, .B false)], [(28400, .raw (d_workflowref55_Group p0)), (28401, .raw [.I p1.Kind, .I p1.I, .I p1.Epoch, .ro .t_uint8 p1.Data, .ro .t_int p1.Reach]), (28402, .raw [.N, .N, .I 0, .I 0]), (28403, .raw [.N, .N, .I 0, .I 0]), (28404, .raw [.ro .t_api_Replica x22204_0, .ro .t_bool x22204_1, .I x22204_2, .I x22204_3]), (28405, .raw [.ro .t_api_Replica x22205_0, .ro .t_bool x22205_1, .I x22205_2, .I x22205_3])]⟩)))) ?_
   obtain rfl := Option.some.inj h
   exact ⟨rfl, _, rfl, rfl⟩
  ·rintro e S ⟨rfl, xt15_42, rfl, rfl⟩
   refine awp_seq ?_
   obtain ⟨o3, hp3, h⟩ := bind_some h
   refine awp_seq (awp_mono (Q' := fun e S => (e = .normal ∧ ∃ xt159_45 : Bool, S = ⟨[(2, .P 29000), (4, .P 29001), (5, .P 29002), (7, .P 29003), (8, .P 29004), (15, .B xt15_42), (159, .B xt159_45)], [(29000, .raw (d_workflowref55_Group p0)), (29001, .raw [.N, .N, .I 0, .I 0]), (29002, .raw [.N, .N, .I 0, .I 0]), (29003, .raw [.ro .t_api_Replica x22204_0, .ro .t_bool x22204_1, .I x22204_2, .I x22204_3]), (29004, .raw [.ro .t_api_Replica x22205_0, .ro .t_bool x22205_1, .I x22205_2, .I x22205_3])]⟩ ∧ xt159_45 = o3)) ?_ ?_)
   ·clear h
    replace h := hp3
    rcases ite_some h with ⟨c8, h⟩ | ⟨c8, h⟩
    ·rcases ite_some h with ⟨c9, h⟩ | ⟨c9, h⟩
     ·refine awp_post (ar L 391 [(2, true), (6, true)] [] [] (cs := [(decide (xt9_11 ≠ 0)) = true, (decide (p1.Kind = 0)) = true]) (S' := ⟨[(2, .P 28400), (4, .P 28402), (5, .P 28403), (7, .P 28404), (8, .P 28405), (15, .B xt15_42), (159, .B (!(decide (xt9_11 = 27))))], [(28400, .raw (d_workflowref55_Group p0)), (28402, .raw [.N, .N, .I 0, .I 0]), (28403, .raw [.N, .N, .I 0, .I 0]), (28404, .raw [.ro .t_api_Replica x22204_0, .ro .t_bool x22204_1, .I x22204_2, .I x22204_3]), (28405, .raw [.ro .t_api_Replica x22205_0, .ro .t_bool x22205_1, .I x22205_2, .I x22205_3])]⟩) (And.intro (decide_eq_true c8) (decide_eq_true c9)) ⟨rfl, rfl⟩) (Turns.trans (Turns.kp (S' := ⟨[(2, .P 28400), (4, .P 28402), (5, .P 28403), (7, .P 28404), (8, .P 28405), (15, .B xt15_42), (159, .B (!(decide (xt9_11 = 27))))], [(28400, .raw (d_workflowref55_Group p0)), (28402, .raw [.N, .N, .I 0, .I 0]), (28403, .raw [.N, .N, .I 0, .I 0]), (28404, .raw [.ro .t_api_Replica x22204_0, .ro .t_bool x22204_1, .I x22204_2, .I x22204_3]), (28405, .raw [.ro .t_api_Replica x22205_0, .ro .t_bool x22205_1, .I x22205_2, .I x22205_3])]⟩)) (Turns.trans (Turns.rn [(28400, 29000), (28402, 29001), (28403, 29002), (28404, 29003), (28405, 29004)] (S' := ⟨[(2, .P 29000), (4, .P 29001), (5, .P 29002), (7, .P 29003), (8, .P 29004), (15, .B xt15_42), (159, .B (!(decide (xt9_11 = 27))))], [(29000, .raw (d_workflowref55_Group p0)), (29001, .raw [.N, .N, .I 0, .I 0]), (29002, .raw [.N, .N, .I 0, .I 0]), (29003, .raw [.ro .t_api_Replica x22204_0, .ro .t_bool x22204_1, .I x22204_2, .I x22204_3]), (29004, .raw [.ro .t_api_Replica x22205_0, .ro .t_bool x22205_1, .I x22205_2, .I x22205_3])]⟩)) (Turns.kp (S' := ⟨[(2, .P 29000), (4, .P 29001), (5, .P 29002), (7, .P 29003), (8, .P 29004), (15, .B xt15_42), (159, .B (!(decide (xt9_11 = 27))))], [(29000, .raw (d_workflowref55_Group p0)), (29001, .raw [.N, .N, .I 0, .I 0]), (29002, .raw [.N, .N, .I 0, .I 0]), (29003, .raw [.ro .t_api_Replica x22204_0, .ro .t_bool x22204_1, .I x22204_2, .I x22204_3]), (29004, .raw [.ro .t_api_Replica x22205_0, .ro .t_bool x22205_1, .I x22205_2, .I x22205_3])]⟩)))) ?_
      obtain rfl := Option.some.inj h
      exact ⟨rfl, _, rfl, rfl⟩
     refine awp_post (ar L 391 [(2, true), (6, false)] [] [] (cs := [(decide (xt9_11 ≠ 0)) = true, (decide (p1.Kind = 0)) = false]) (S' := ⟨[(2, .P 28400), (4, .P 28402), (5, .P 28403), (7, .P 28404), (8, .P 28405), (15, .B xt15_42), (159, .B true)], [(28400, .raw (d_workflowref55_Group p0)), (28402, .raw [.N, .N, .I 0, .I 0]), (28403, .raw [.N, .N, .I 0, .I 0]), (28404, .raw [.ro .t_api_Replica x22204_0, .ro .t_bool x22204_1, .I x22204_2, .I x22204_3]), (28405, .raw [.ro .t_api_Replica x22205_0, .ro .t_bool x22205_1, .I x22205_2, .I x22205_3])]⟩) (And.intro (decide_eq_true c8) (decide_eq_false c9)) ⟨rfl, rfl⟩) (Turns.trans (Turns.kp (S' := ⟨[(2, .P 28400), (4, .P 28402), (5, .P 28403), (7, .P 28404), (8, .P 28405), (15, .B xt15_42), (159, .B true)], [(28400, .raw (d_workflowref55_Group p0)), (28402, .raw [.N, .N, .I 0, .I 0]), (28403, .raw [.N, .N, .I 0, .I 0]), (28404, .raw [.ro .t_api_Replica x22204_0, .ro .t_bool x22204_1, .I x22204_2, .I x22204_3]), (28405, .raw [.ro .t_api_Replica x22205_0, .ro .t_bool x22205_1, .I x22205_2, .I x22205_3])]⟩)) (Turns.trans (Turns.rn [(28400, 29000), (28402, 29001), (28403, 29002), (28404, 29003), (28405, 29004)] (S' := ⟨[(2, .P 29000), (4, .P 29001), (5, .P 29002), (7, .P 29003), (8, .P 29004), (15, .B xt15_42), (159, .B true)], [(29000, .raw (d_workflowref55_Group p0)), (29001, .raw [.N, .N, .I 0, .I 0]), (29002, .raw [.N, .N, .I 0, .I 0]), (29003, .raw [.ro .t_api_Replica x22204_0, .ro .t_bool x22204_1, .I x22204_2, .I x22204_3]), (29004, .raw [.ro .t_api_Replica x22205_0, .ro .t_bool x22205_1, .I x22205_2, .I x22205_3])]⟩)) (Turns.kp (S' := ⟨[(2, .P 29000), (4, .P 29001), (5, .P 29002), (7, .P 29003), (8, .P 29004), (15, .B xt15_42), (159, .B true)], [(29000, .raw (d_workflowref55_Group p0)), (29001, .raw [.N, .N, .I 0, .I 0]), (29002, .raw [.N, .N, .I 0, .I 0]), (29003, .raw [.ro .t_api_Replica x22204_0, .ro .t_bool x22204_1, .I x22204_2, .I x22204_3]), (29004, .raw [.ro .t_api_Replica x22205_0, .ro .t_bool x22205_1, .I x22205_2, .I x22205_3])]⟩)))) ?_
     obtain rfl := Option.some.inj h
     exact ⟨rfl, _, rfl, rfl⟩
    refine awp_post (ar L 391 [(2, false)] [] [] (cs := [(decide (xt9_11 ≠ 0)) = false]) (S' := ⟨[(2, .P 28400), (4, .P 28402), (5, .P 28403), (7, .P 28404), (8, .P 28405), (15, .B xt15_42), (159, .B false)], [(28400, .raw (d_workflowref55_Group p0)), (28402, .raw [.N, .N, .I 0, .I 0]), (28403, .raw [.N, .N, .I 0, .I 0]), (28404, .raw [.ro .t_api_Replica x22204_0, .ro .t_bool x22204_1, .I x22204_2, .I x22204_3]), (28405, .raw [.ro .t_api_Replica x22205_0, .ro .t_bool x22205_1, .I x22205_2, .I x22205_3])]⟩) (decide_eq_false c8) ⟨rfl, rfl⟩) (Turns.trans (Turns.kp (S' := ⟨[(2, .P 28400), (4, .P 28402), (5, .P 28403), (7, .P 28404), (8, .P 28405), (15, .B xt15_42), (159, .B false)], [(28400, .raw (d_workflowref55_Group p0)), (28402, .raw [.N, .N, .I 0, .I 0]), (28403, .raw [.N, .N, .I 0, .I 0]), (28404, .raw [.ro .t_api_Replica x22204_0, .ro .t_bool x22204_1, .I x22204_2, .I x22204_3]), (28405, .raw [.ro .t_api_Replica x22205_0, .ro .t_bool x22205_1, .I x22205_2, .I x22205_3])]⟩)) (Turns.trans (Turns.rn [(28400, 29000), (28402, 29001), (28403, 29002), (28404, 29003), (28405, 29004)] (S' := ⟨[(2, .P 29000), (4, .P 29001), (5, .P 29002), (7, .P 29003), (8, .P 29004), (15, .B xt15_42), (159, .B false)], [(29000, .raw (d_workflowref55_Group p0)), (29001, .raw [.N, .N, .I 0, .I 0]), (29002, .raw [.N, .N, .I 0, .I 0]), (29003, .raw [.ro .t_api_Replica x22204_0, .ro .t_bool x22204_1, .I x22204_2, .I x22204_3]), (29004, .raw [.ro .t_api_Replica x22205_0, .ro .t_bool x22205_1, .I x22205_2, .I x22205_3])]⟩)) (Turns.kp (S' := ⟨[(2, .P 29000), (4, .P 29001), (5, .P 29002), (7, .P 29003), (8, .P 29004), (15, .B xt15_42), (159, .B false)], [(29000, .raw (d_workflowref55_Group p0)), (29001, .raw [.N, .N, .I 0, .I 0]), (29002, .raw [.N, .N, .I 0, .I 0]), (29003, .raw [.ro .t_api_Replica x22204_0, .ro .t_bool x22204_1, .I x22204_2, .I x22204_3]), (29004, .raw [.ro .t_api_Replica x22205_0, .ro .t_bool x22205_1, .I x22205_2, .I x22205_3])]⟩)))) ?_
    obtain rfl := Option.some.inj h
    exact ⟨rfl, _, rfl, rfl⟩
   ·rintro e S ⟨rfl, xt159_45, rfl, rfl⟩
    rcases ite_some h with ⟨c10, h⟩ | ⟨c10, h⟩
    ·refine tt (b := xt159_45) (c10) ?_
     refine awp_seq ?_
     obtain ⟨a18, h18, h⟩ := bind_some h
     refine ad L mixed 404 [] [(1, .agg [.ro .t_api_Replica a18.Replicas, .ro .t_bool a18.Up, .I a18.Leader, .I a18.Epoch])] [] [29001, 29002] 7 (cs := [PCall V P 18 [.agg (d_workflowref55_Group p0)] (.agg [.ro .t_api_Replica a18.Replicas, .ro .t_bool a18.Up, .I a18.Leader, .I a18.Epoch]), True]) (S' := ⟨[(4, .P 29001), (5, .P 29002), (6, .B xt15_42)], [(29001, .raw [.ro .t_api_Replica a18.Replicas, .ro .t_bool a18.Up, .I a18.Leader, .I a18.Epoch]), (29002, .raw (d_workflowref55_Group p0))]⟩) (And.intro (workflowlaw55_of.ok h18) trivial) ?_
     refine awp_turn (Turns.rn [(29001, 100), (29002, 101)] (S' := ⟨[(4, .P 100), (5, .P 101), (6, .B xt15_42)], [(100, .raw [.ro .t_api_Replica a18.Replicas, .ro .t_bool a18.Up, .I a18.Leader, .I a18.Epoch]), (101, .raw (d_workflowref55_Group p0))]⟩)) ?_
     refine awp_ret ?_
     obtain rfl := Option.some.inj h
     exact er (.tup [.agg [.ro .t_api_Replica a18.Replicas, .ro .t_bool a18.Up, .I a18.Leader, .I a18.Epoch], .agg (d_workflowref55_Group p0), .B xt15_42])
    refine ff (b := xt159_45) (eq_false_of_ne_true c10) ?_
    refine awp_skip' ?_
    refine sd L mixed 412 [] [] [] [29001, 29002] 6 (cs := []) (S' := ⟨[(4, .P 29001), (5, .P 29002), (6, .B xt15_42)], [(29001, .raw [.ro .t_api_Replica x22204_0, .ro .t_bool x22204_1, .I x22204_2, .I x22204_3]), (29002, .raw [.ro .t_api_Replica x22205_0, .ro .t_bool x22205_1, .I x22205_2, .I x22205_3])]⟩) trivial ?_
    refine awp_turn (Turns.rn [(29001, 100), (29002, 101)] (S' := ⟨[(4, .P 100), (5, .P 101), (6, .B xt15_42)], [(100, .raw [.ro .t_api_Replica x22204_0, .ro .t_bool x22204_1, .I x22204_2, .I x22204_3]), (101, .raw [.ro .t_api_Replica x22205_0, .ro .t_bool x22205_1, .I x22205_2, .I x22205_3])]⟩)) ?_
    refine awp_ret ?_
    obtain rfl := Option.some.inj h
    exact er (.tup [.agg [.ro .t_api_Replica x22204_0, .ro .t_bool x22204_1, .I x22204_2, .I x22204_3], .agg [.ro .t_api_Replica x22205_0, .ro .t_bool x22205_1, .I x22205_2, .I x22205_3], .B xt15_42])
theorem workflowlaw55_both.ok {K : Nat} {p0 : workflowref55_Group} {p1 : workflowlaw55_Step} {r : group_Group × workflowref55_Group × Bool} (h : workflowlaw55_both K p0 p1 = some r) : PCall V P 9 [.agg (d_workflowref55_Group p0), .agg [.I p1.Kind, .I p1.I, .I p1.Epoch, .ro .t_uint8 p1.Data, .ro .t_int p1.Reach]] (.tup [.agg [.ro .t_api_Replica r.1.Replicas, .ro .t_bool r.1.Up, .I r.1.Leader, .I r.1.Epoch], .agg [.ro .t_api_Replica r.2.1.Replicas, .ro .t_bool r.2.1.Up, .I r.2.1.Leader, .I r.2.1.Epoch], .B r.2.2]) := ECall.pcall (eo (fn := Tryz.f9) (n := 167) (m := 100) fun Γ => workflowlaw55_both.body h) (by kernel_rfl)
def group_New.l17 (K : Nat) (p0 : Int) : Nat → Int → (List api_Replica) → (List Bool) → Option ((List api_Replica) × (List Bool))
 | 0, _, _, _ => none
 | k + 1, xt14_17h, x23502, x23503 => (if xt14_17h < p0 then (if (x23502.length + ([(⟨0, (-1), 0, ([] : List api_Entry)⟩ : api_Replica)] : List api_Replica).length) * 48 ≤ 140737488355328 then (if (x23503.length + ([true] : List Bool).length) * 1 ≤ 140737488355328 then group_New.l17 K p0 k (IntKind.i64.wrap (xt14_17h + 1)) (x23502 ++ ([(⟨0, (-1), 0, ([] : List api_Entry)⟩ : api_Replica)] : List api_Replica)) (x23503 ++ ([true] : List Bool)) else none) else none) else some (x23502, x23503))
def group_New (K : Nat) (p0 : Int) : Option (group_Group × Int) := (if p0 < 1 then some ((⟨([] : List api_Replica), ([] : List Bool), 0, 0⟩ : group_Group), 2) else (if p0 > 9 then some ((⟨([] : List api_Replica), ([] : List Bool), 0, 0⟩ : group_Group), 2) else (Option.bind (group_New.l17 K p0 K 0 ([] : List api_Replica) ([] : List Bool) : Option ((List api_Replica) × (List Bool))) (fun (x23402, x23403) => some ((⟨x23402, x23403, (-1), 0⟩ : group_Group), 0)))))
theorem group_New.body {Γ : Ent} {K : Nat} {p0 : Int} {r : group_Group × Int} (h : group_New K p0 = some r) : AWp V P 29 100 Γ (Tryz.f10.body.getD .skip) (EndsE P V Tryz.f10 (.tup [.agg [.ro .t_api_Replica r.1.Replicas, .ro .t_bool r.1.Up, .I r.1.Leader, .I r.1.Epoch], .I r.2]) []) ⟨args0 0 [.I p0], []⟩ := by
 unfold group_New at h
 refine sr0 L 200 [] [] [] (S' := ⟨[(0, .I p0), (2, .P 200)], [(200, .raw [.N, .N, .I 0, .I 0])]⟩) ?_
 refine awp_seq ?_
 refine awp_seq ?_
 rcases ite_some h with ⟨c1, h⟩ | ⟨c1, h⟩
 ·refine ar L 203 [(2, true)] [] [] (cs := [(decide (p0 < 1)) = true]) (S' := ⟨[(0, .I p0), (2, .P 200), (10, .B true)], [(200, .raw [.N, .N, .I 0, .I 0])]⟩) (decide_eq_true c1) ?_
  refine tt (b := true) (rfl) ?_
  refine sr0 L 210 [] [] [] (S' := ⟨[(2, .P 200), (3, .I 2)], [(200, .raw [.N, .N, .I 0, .I 0])]⟩) ?_
  refine awp_turn (Turns.rn [(200, 100)] (S' := ⟨[(2, .P 100), (3, .I 2)], [(100, .raw [.N, .N, .I 0, .I 0])]⟩)) ?_
  refine awp_ret ?_
  obtain rfl := Option.some.inj h
  exact er (.tup [.agg [.N, .N, .I 0, .I 0], .I 2])
 refine ar L 203 [(2, false)] [] [] (cs := [(decide (p0 < 1)) = false]) (S' := ⟨[(0, .I p0), (2, .P 200), (10, .B (decide (p0 > 9)))], [(200, .raw [.N, .N, .I 0, .I 0])]⟩) (decide_eq_false c1) ?_
 rcases ite_some h with ⟨c2, h⟩ | ⟨c2, h⟩
 ·refine tt (b := (decide (p0 > 9))) (decide_eq_true c2) ?_
  refine sr0 L 210 [] [] [] (S' := ⟨[(2, .P 200), (3, .I 2)], [(200, .raw [.N, .N, .I 0, .I 0])]⟩) ?_
  refine awp_turn (Turns.rn [(200, 100)] (S' := ⟨[(2, .P 100), (3, .I 2)], [(100, .raw [.N, .N, .I 0, .I 0])]⟩)) ?_
  refine awp_ret ?_
  obtain rfl := Option.some.inj h
  exact er (.tup [.agg [.N, .N, .I 0, .I 0], .I 2])
 refine ff (b := (decide (p0 > 9))) (decide_eq_false c2) ?_
 refine awp_skip' ?_
 refine sr0 L 214 [] [] [] (S' := ⟨[(0, .I p0), (2, .P 200), (4, .P 215)], [(200, .raw [.N, .N, .I 0, .I 0]), (215, .raw [.N, .N, .I (-1), .I 0])]⟩) ?_
 refine awp_seq ?_
 refine sr0 L 218 [] [] [] (S' := ⟨[(2, .P 200), (4, .P 215), (13, .I p0), (14, .I 0)], [(200, .raw [.N, .N, .I 0, .I 0]), (215, .raw [.N, .N, .I (-1), .I 0])]⟩) ?_
 refine awp_block ?_
 refine awp_turn (Turns.trans (Turns.kp (S' := ⟨[(2, .P 200), (4, .P 215), (13, .I p0), (14, .I 0)], [(200, .raw [.N, .N, .I 0, .I 0]), (215, .raw [.N, .N, .I (-1), .I 0])]⟩)) (Turns.trans (Turns.nilownc 215 0 9500 Tag.t_api_Replica [.N, .N, .I (-1), .I 0] (by kernel_rfl) (by kernel_rfl) (by kernel_rfl) (by kernel_rfl) (S' := ⟨[(2, .P 200), (4, .P 215), (13, .I p0), (14, .I 0)], [(9500, .lst .t_api_Replica ([] : List api_Replica)), (215, .raw [.own .t_api_Replica 9500, .N, .I (-1), .I 0]), (200, .raw [.N, .N, .I 0, .I 0])]⟩) (by kernel_rfl)) (Turns.trans (Turns.kp (S' := ⟨[(2, .P 200), (4, .P 215), (13, .I p0), (14, .I 0)], [(200, .raw [.N, .N, .I 0, .I 0]), (215, .raw [.own .t_api_Replica 9500, .N, .I (-1), .I 0]), (9500, .lst .t_api_Replica ([] : List api_Replica))]⟩)) (Turns.trans (Turns.nilownc 215 1 9501 Tag.t_bool [.own .t_api_Replica 9500, .N, .I (-1), .I 0] (by kernel_rfl) (by kernel_rfl) (by kernel_rfl) (by kernel_rfl) (S' := ⟨[(2, .P 200), (4, .P 215), (13, .I p0), (14, .I 0)], [(9501, .lst .t_bool ([] : List Bool)), (215, .raw [.own .t_api_Replica 9500, .own .t_bool 9501, .I (-1), .I 0]), (200, .raw [.N, .N, .I 0, .I 0]), (9500, .lst .t_api_Replica ([] : List api_Replica))]⟩) (by kernel_rfl)) (Turns.trans (Turns.kp (S' := ⟨[(2, .P 200), (4, .P 215), (13, .I p0), (14, .I 0)], [(200, .raw [.N, .N, .I 0, .I 0]), (215, .raw [.own .t_api_Replica 9500, .own .t_bool 9501, .I (-1), .I 0]), (9500, .lst .t_api_Replica ([] : List api_Replica)), (9501, .lst .t_bool ([] : List Bool))]⟩)) (Turns.rn [(200, 23500), (215, 23501), (9500, 23502), (9501, 23503)] (S' := ⟨[(2, .P 23500), (4, .P 23501), (13, .I p0), (14, .I 0)], [(23500, .raw [.N, .N, .I 0, .I 0]), (23501, .raw [.own .t_api_Replica 23502, .own .t_bool 23503, .I (-1), .I 0]), (23502, .lst .t_api_Replica ([] : List api_Replica)), (23503, .lst .t_bool ([] : List Bool))]⟩))))))) ?_
 refine kp (S' := ⟨[(2, .P 23500), (4, .P 23501), (13, .I p0), (14, .I 0)], [(23500, .raw [.N, .N, .I 0, .I 0]), (23501, .raw [.own .t_api_Replica 23502, .own .t_bool 23503, .I (-1), .I 0]), (23502, .lst .t_api_Replica ([] : List api_Replica)), (23503, .lst .t_bool ([] : List Bool))]⟩) ?_
 obtain ⟨o1, hp1, h⟩ := bind_some h
 refine awp_conseq (Q' := fun e S => (e = .exit 0 ∧ ∃ x23402 : List api_Replica, ∃ x23403 : List Bool, S = ⟨[(2, .P 23400), (4, .P 23401)], [(23400, .raw [.N, .N, .I 0, .I 0]), (23401, .raw [.own .t_api_Replica 23402, .own .t_bool 23403, .I (-1), .I 0]), (23402, .lst .t_api_Replica x23402), (23403, .lst .t_bool x23403)]⟩ ∧ (x23402, x23403) = o1)) (awp_loop (fun k S => ∃ xt14_17h : Int, ∃ x23502 : List api_Replica, ∃ x23503 : List Bool, S = ⟨[(2, .P 23500), (4, .P 23501), (13, .I p0), (14, .I xt14_17h)], [(23500, .raw [.N, .N, .I 0, .I 0]), (23501, .raw [.own .t_api_Replica 23502, .own .t_bool 23503, .I (-1), .I 0]), (23502, .lst .t_api_Replica x23502), (23503, .lst .t_bool x23503)]⟩ ∧ group_New.l17 K p0 k xt14_17h x23502 x23503 = some o1) ?_ ⟨_, _, _, rfl, hp1⟩) ?_
 ·clear h hp1
  intro k S hS
  obtain ⟨xt14_17h, x23502, x23503, rfl, h⟩ := hS
  cases k with
  | zero => cases h
  | succ k =>
  unfold group_New.l17 at h
  refine sr0 L 221 [] [] [] (S' := ⟨[(2, .P 23500), (4, .P 23501), (13, .I p0), (14, .I xt14_17h), (15, .B (decide (xt14_17h < p0)))], [(23500, .raw [.N, .N, .I 0, .I 0]), (23501, .raw [.own .t_api_Replica 23502, .own .t_bool 23503, .I (-1), .I 0]), (23502, .lst .t_api_Replica x23502), (23503, .lst .t_bool x23503)]⟩) ?_
  refine awp_seq ?_
  rcases ite_some h with ⟨c3, h⟩ | ⟨c3, h⟩
  ·refine tt (b := (decide (xt14_17h < p0))) (decide_eq_true c3) ?_
   refine awp_skip' ?_
   refine awp_seq ?_
   refine awp_block ?_
   refine awp_seq ?_
   obtain ⟨g1, h⟩ := guard_some h
   refine ar L 223 [] [] [] (cs := [(x23502.length + ([(⟨0, (-1), 0, ([] : List api_Entry)⟩ : api_Replica)] : List api_Replica).length) * 48 ≤ 140737488355328, True]) (S' := ⟨[(2, .P 23500), (4, .P 23501), (13, .I p0), (14, .I xt14_17h)], [(23500, .raw [.N, .N, .I 0, .I 0]), (23501, .raw [.own .t_api_Replica 23502, .own .t_bool 23503, .I (-1), .I 0]), (23502, .lst .t_api_Replica (x23502 ++ ([(⟨0, (-1), 0, ([] : List api_Entry)⟩ : api_Replica)] : List api_Replica))), (23503, .lst .t_bool x23503)]⟩) (And.intro g1 trivial) ?_
   obtain ⟨g2, h⟩ := guard_some h
   refine ar L 231 [] [] [] (cs := [(x23503.length + ([true] : List Bool).length) * 1 ≤ 140737488355328, True]) (S' := ⟨[(2, .P 23500), (4, .P 23501), (13, .I p0), (14, .I xt14_17h)], [(23500, .raw [.N, .N, .I 0, .I 0]), (23501, .raw [.own .t_api_Replica 23502, .own .t_bool 23503, .I (-1), .I 0]), (23502, .lst .t_api_Replica (x23502 ++ ([(⟨0, (-1), 0, ([] : List api_Entry)⟩ : api_Replica)] : List api_Replica))), (23503, .lst .t_bool (x23503 ++ ([true] : List Bool)))]⟩) (And.intro g2 trivial) ?_
   refine ar0 L 238 [] [] [] (S' := ⟨[(2, .P 23500), (4, .P 23501), (13, .I p0), (14, .I (IntKind.i64.wrap (xt14_17h + 1)))], [(23500, .raw [.N, .N, .I 0, .I 0]), (23501, .raw [.own .t_api_Replica 23502, .own .t_bool 23503, .I (-1), .I 0]), (23502, .lst .t_api_Replica (x23502 ++ ([(⟨0, (-1), 0, ([] : List api_Entry)⟩ : api_Replica)] : List api_Replica))), (23503, .lst .t_bool (x23503 ++ ([true] : List Bool)))]⟩) ?_
   exact ⟨k, Nat.lt_succ_self k, _, _, _, rfl, h⟩
  refine ff (b := (decide (xt14_17h < p0))) (decide_eq_false c3) ?_
  refine awp_turn (Turns.trans (Turns.kp (S' := ⟨[(2, .P 23500), (4, .P 23501)], [(23500, .raw [.N, .N, .I 0, .I 0]), (23501, .raw [.own .t_api_Replica 23502, .own .t_bool 23503, .I (-1), .I 0]), (23502, .lst .t_api_Replica x23502), (23503, .lst .t_bool x23503)]⟩)) (Turns.rn [(23500, 23400), (23501, 23401), (23502, 23402), (23503, 23403)] (S' := ⟨[(2, .P 23400), (4, .P 23401)], [(23400, .raw [.N, .N, .I 0, .I 0]), (23401, .raw [.own .t_api_Replica 23402, .own .t_bool 23403, .I (-1), .I 0]), (23402, .lst .t_api_Replica x23502), (23403, .lst .t_bool x23503)]⟩))) ?_
  refine ex (S' := ⟨[(2, .P 23400), (4, .P 23401)], [(23400, .raw [.N, .N, .I 0, .I 0]), (23401, .raw [.own .t_api_Replica 23402, .own .t_bool 23403, .I (-1), .I 0]), (23402, .lst .t_api_Replica x23502), (23403, .lst .t_bool x23503)]⟩) ?_
  obtain rfl := Option.some.inj h
  exact ⟨rfl, _, _, rfl, rfl⟩
 ·rintro e S ⟨rfl, x23402, x23403, rfl, rfl⟩
  dsimp only at h
  refine ⟨_, Turns.refl, ?_⟩
  refine sr0 L 241 [] [] [] (S' := ⟨[(2, .P 23400), (3, .I 0)], [(23400, .raw [.own .t_api_Replica 23402, .own .t_bool 23403, .I (-1), .I 0]), (23402, .lst .t_api_Replica x23402), (23403, .lst .t_bool x23403)]⟩) ?_
  refine awp_turn (Turns.trans (Turns.frz 23402 (blk0 := .lst .t_api_Replica x23402) (by kernel_rfl) (by kernel_rfl) (S' := ⟨[(2, .P 23400), (3, .I 0)], [(23400, .raw [.ro .t_api_Replica x23402, .own .t_bool 23403, .I (-1), .I 0]), (23403, .lst .t_bool x23403)]⟩) (by kernel_rfl)) (Turns.trans (Turns.frz 23403 (blk0 := .lst .t_bool x23403) (by kernel_rfl) (by kernel_rfl) (S' := ⟨[(2, .P 23400), (3, .I 0)], [(23400, .raw [.ro .t_api_Replica x23402, .ro .t_bool x23403, .I (-1), .I 0])]⟩) (by kernel_rfl)) (Turns.rn [(23400, 100)] (S' := ⟨[(2, .P 100), (3, .I 0)], [(100, .raw [.ro .t_api_Replica x23402, .ro .t_bool x23403, .I (-1), .I 0])]⟩)))) ?_
  refine awp_ret ?_
  obtain rfl := Option.some.inj h
  exact er (.tup [.agg [.ro .t_api_Replica x23402, .ro .t_bool x23403, .I (-1), .I 0], .I 0])
theorem group_New.ok {K : Nat} {p0 : Int} {r : group_Group × Int} (h : group_New K p0 = some r) : PCall V P 10 [.I p0] (.tup [.agg [.ro .t_api_Replica r.1.Replicas, .ro .t_bool r.1.Up, .I r.1.Leader, .I r.1.Epoch], .I r.2]) := ECall.pcall (eo (fn := Tryz.f10) (n := 29) (m := 100) fun Γ => group_New.body h) (by kernel_rfl)
def replog_Committed.l9 (K : Nat) (p0 : api_Replica) : Nat → Int → (List (List UInt8)) → Option (List (List UInt8))
 | 0, _, _ => none
 | k + 1, xt17_9h, x21900 => (if xt17_9h < ((slc p0.Log 0 (if (p0.Log.length : Int) < (if (0 : Int) > p0.Commit then 0 else p0.Commit) then (p0.Log.length : Int) else (if (0 : Int) > p0.Commit then 0 else p0.Commit))).length : Int) then (if (0 : Int) ≤ xt17_9h ∧ (xt17_9h : Int) < ((slc p0.Log 0 (if (p0.Log.length : Int) < (if (0 : Int) > p0.Commit then 0 else p0.Commit) then (p0.Log.length : Int) else (if (0 : Int) > p0.Commit then 0 else p0.Commit))).length : Int) then (Option.bind (bytes_Clone_59 K (((slc p0.Log 0 (if (p0.Log.length : Int) < (if (0 : Int) > p0.Commit then 0 else p0.Commit) then (p0.Log.length : Int) else (if (0 : Int) > p0.Commit then 0 else p0.Commit))).getD (Int.toNat xt17_9h) z_api_Entry).Data)) (fun a1 => (if (x21900.length + ([a1] : List (List UInt8)).length) * 24 ≤ 140737488355328 then replog_Committed.l9 K p0 k (IntKind.i64.wrap (xt17_9h + 1)) (x21900 ++ ([a1] : List (List UInt8))) else none))) else none) else some x21900)
def replog_Committed (K : Nat) (p0 : api_Replica) : Option (List (List UInt8)) := (if (0 : Int) ≤ (if (p0.Log.length : Int) < (if (0 : Int) > p0.Commit then 0 else p0.Commit) then (p0.Log.length : Int) else (if (0 : Int) > p0.Commit then 0 else p0.Commit)) ∧ (if (p0.Log.length : Int) < (if (0 : Int) > p0.Commit then 0 else p0.Commit) then (p0.Log.length : Int) else (if (0 : Int) > p0.Commit then 0 else p0.Commit)) ≤ (p0.Log.length : Int) then (Option.bind (replog_Committed.l9 K p0 K 0 ([] : List (List UInt8)) : Option (List (List UInt8))) (fun x21800 => some x21800)) else none)
theorem replog_Committed.body {Γ : Ent} {K : Nat} {p0 : api_Replica} {r : List (List UInt8)} (h : replog_Committed K p0 = some r) : AWp V P 29 100 Γ (Tryz.f34.body.getD .skip) (EndsE P V Tryz.f34 (.cv (.ro .t_sl_uint8 r)) []) ⟨args0 0 [.agg (d_api_Replica p0)], []⟩ := by
 unfold replog_Committed at h
 refine sr0 L 200 [] [] [] (S' := ⟨[(1, .P 200)], [(200, .raw (d_api_Replica p0))]⟩) ?_
 refine sr0 L 203 [] [] [] (S' := ⟨[(1, .P 200), (3, .N)], [(200, .raw (d_api_Replica p0))]⟩) ?_
 refine awp_seq ?_
 refine awp_seq ?_
 obtain ⟨g1, h⟩ := guard_some h
 refine ar L 205 [] [] [] (cs := [(0 : Int) ≤ 0, (0 : Int) ≤ (if (p0.Log.length : Int) < (if (0 : Int) > p0.Commit then 0 else p0.Commit) then (p0.Log.length : Int) else (if (0 : Int) > p0.Commit then 0 else p0.Commit)), (if (p0.Log.length : Int) < (if (0 : Int) > p0.Commit then 0 else p0.Commit) then (p0.Log.length : Int) else (if (0 : Int) > p0.Commit then 0 else p0.Commit)) ≤ (p0.Log.length : Int)]) (S' := ⟨[(3, .N), (15, .cv (.ro .t_api_Entry (slc p0.Log 0 (if (p0.Log.length : Int) < (if (0 : Int) > p0.Commit then 0 else p0.Commit) then (p0.Log.length : Int) else (if (0 : Int) > p0.Commit then 0 else p0.Commit))))), (16, .I ((slc p0.Log 0 (if (p0.Log.length : Int) < (if (0 : Int) > p0.Commit then 0 else p0.Commit) then (p0.Log.length : Int) else (if (0 : Int) > p0.Commit then 0 else p0.Commit))).length : Int)), (17, .I 0)], []⟩) (And.intro (Int.le_refl _) (And.intro g1.1 g1.2)) ?_
 refine awp_block ?_
 refine awp_turn (Turns.trans (Turns.kp (S' := ⟨[(3, .N), (15, .cv (.ro .t_api_Entry (slc p0.Log 0 (if (p0.Log.length : Int) < (if (0 : Int) > p0.Commit then 0 else p0.Commit) then (p0.Log.length : Int) else (if (0 : Int) > p0.Commit then 0 else p0.Commit))))), (16, .I ((slc p0.Log 0 (if (p0.Log.length : Int) < (if (0 : Int) > p0.Commit then 0 else p0.Commit) then (p0.Log.length : Int) else (if (0 : Int) > p0.Commit then 0 else p0.Commit))).length : Int)), (17, .I 0)], []⟩)) (Turns.trans (Turns.nilown 3 9500 Tag.t_sl_uint8 (by kernel_rfl) (by kernel_rfl) (S' := ⟨[(3, .cv (.own .t_sl_uint8 9500)), (15, .cv (.ro .t_api_Entry (slc p0.Log 0 (if (p0.Log.length : Int) < (if (0 : Int) > p0.Commit then 0 else p0.Commit) then (p0.Log.length : Int) else (if (0 : Int) > p0.Commit then 0 else p0.Commit))))), (16, .I ((slc p0.Log 0 (if (p0.Log.length : Int) < (if (0 : Int) > p0.Commit then 0 else p0.Commit) then (p0.Log.length : Int) else (if (0 : Int) > p0.Commit then 0 else p0.Commit))).length : Int)), (17, .I 0)], [(9500, .lst .t_sl_uint8 ([] : List (List UInt8)))]⟩) (by kernel_rfl)) (Turns.trans (Turns.kp (S' := ⟨[(3, .cv (.own .t_sl_uint8 9500)), (15, .cv (.ro .t_api_Entry (slc p0.Log 0 (if (p0.Log.length : Int) < (if (0 : Int) > p0.Commit then 0 else p0.Commit) then (p0.Log.length : Int) else (if (0 : Int) > p0.Commit then 0 else p0.Commit))))), (16, .I ((slc p0.Log 0 (if (p0.Log.length : Int) < (if (0 : Int) > p0.Commit then 0 else p0.Commit) then (p0.Log.length : Int) else (if (0 : Int) > p0.Commit then 0 else p0.Commit))).length : Int)), (17, .I 0)], [(9500, .lst .t_sl_uint8 ([] : List (List UInt8)))]⟩)) (Turns.rn [(9500, 21900)] (S' := ⟨[(3, .cv (.own .t_sl_uint8 21900)), (15, .cv (.ro .t_api_Entry (slc p0.Log 0 (if (p0.Log.length : Int) < (if (0 : Int) > p0.Commit then 0 else p0.Commit) then (p0.Log.length : Int) else (if (0 : Int) > p0.Commit then 0 else p0.Commit))))), (16, .I ((slc p0.Log 0 (if (p0.Log.length : Int) < (if (0 : Int) > p0.Commit then 0 else p0.Commit) then (p0.Log.length : Int) else (if (0 : Int) > p0.Commit then 0 else p0.Commit))).length : Int)), (17, .I 0)], [(21900, .lst .t_sl_uint8 ([] : List (List UInt8)))]⟩))))) ?_
 refine kp (S' := ⟨[(3, .cv (.own .t_sl_uint8 21900)), (15, .cv (.ro .t_api_Entry (slc p0.Log 0 (if (p0.Log.length : Int) < (if (0 : Int) > p0.Commit then 0 else p0.Commit) then (p0.Log.length : Int) else (if (0 : Int) > p0.Commit then 0 else p0.Commit))))), (16, .I ((slc p0.Log 0 (if (p0.Log.length : Int) < (if (0 : Int) > p0.Commit then 0 else p0.Commit) then (p0.Log.length : Int) else (if (0 : Int) > p0.Commit then 0 else p0.Commit))).length : Int)), (17, .I 0)], [(21900, .lst .t_sl_uint8 ([] : List (List UInt8)))]⟩) ?_
 obtain ⟨o1, hp1, h⟩ := bind_some h
 refine awp_conseq (Q' := fun e S => (e = .exit 0 ∧ ∃ x21800 : List (List UInt8), S = ⟨[(3, .cv (.own .t_sl_uint8 21800))], [(21800, .lst .t_sl_uint8 x21800)]⟩ ∧ x21800 = o1)) (awp_loop (fun k S => ∃ xt17_9h : Int, ∃ x21900 : List (List UInt8), S = ⟨[(3, .cv (.own .t_sl_uint8 21900)), (15, .cv (.ro .t_api_Entry (slc p0.Log 0 (if (p0.Log.length : Int) < (if (0 : Int) > p0.Commit then 0 else p0.Commit) then (p0.Log.length : Int) else (if (0 : Int) > p0.Commit then 0 else p0.Commit))))), (16, .I ((slc p0.Log 0 (if (p0.Log.length : Int) < (if (0 : Int) > p0.Commit then 0 else p0.Commit) then (p0.Log.length : Int) else (if (0 : Int) > p0.Commit then 0 else p0.Commit))).length : Int)), (17, .I xt17_9h)], [(21900, .lst .t_sl_uint8 x21900)]⟩ ∧ replog_Committed.l9 K p0 k xt17_9h x21900 = some o1) ?_ ⟨_, _, rfl, hp1⟩) ?_
 ·clear h hp1
  intro k S hS
  obtain ⟨xt17_9h, x21900, rfl, h⟩ := hS
  cases k with
  | zero => cases h
  | succ k =>
  unfold replog_Committed.l9 at h
  refine sr0 L 218 [] [] [] (S' := ⟨[(3, .cv (.own .t_sl_uint8 21900)), (15, .cv (.ro .t_api_Entry (slc p0.Log 0 (if (p0.Log.length : Int) < (if (0 : Int) > p0.Commit then 0 else p0.Commit) then (p0.Log.length : Int) else (if (0 : Int) > p0.Commit then 0 else p0.Commit))))), (16, .I ((slc p0.Log 0 (if (p0.Log.length : Int) < (if (0 : Int) > p0.Commit then 0 else p0.Commit) then (p0.Log.length : Int) else (if (0 : Int) > p0.Commit then 0 else p0.Commit))).length : Int)), (17, .I xt17_9h), (18, .B ((decide (xt17_9h < ((slc p0.Log 0 (if (p0.Log.length : Int) < (if (0 : Int) > p0.Commit then 0 else p0.Commit) then (p0.Log.length : Int) else (if (0 : Int) > p0.Commit then 0 else p0.Commit))).length : Int)))))], [(21900, .lst .t_sl_uint8 x21900)]⟩) ?_
  refine awp_seq ?_
  rcases ite_some h with ⟨c1, h⟩ | ⟨c1, h⟩
  ·refine tt (b := (decide (xt17_9h < ((slc p0.Log 0 (if (p0.Log.length : Int) < (if (0 : Int) > p0.Commit then 0 else p0.Commit) then (p0.Log.length : Int) else (if (0 : Int) > p0.Commit then 0 else p0.Commit))).length : Int)))) (decide_eq_true c1) ?_
   refine awp_skip' ?_
   refine awp_seq ?_
   refine awp_block ?_
   refine awp_seq ?_
   obtain ⟨g2, h⟩ := guard_some h
   refine ar L 220 [] [] [] (cs := [(0 : Int) ≤ xt17_9h, (xt17_9h : Int) < ((slc p0.Log 0 (if (p0.Log.length : Int) < (if (0 : Int) > p0.Commit then 0 else p0.Commit) then (p0.Log.length : Int) else (if (0 : Int) > p0.Commit then 0 else p0.Commit))).length : Int)]) (S' := ⟨[(3, .cv (.own .t_sl_uint8 21900)), (5, .P 222), (15, .cv (.ro .t_api_Entry (slc p0.Log 0 (if (p0.Log.length : Int) < (if (0 : Int) > p0.Commit then 0 else p0.Commit) then (p0.Log.length : Int) else (if (0 : Int) > p0.Commit then 0 else p0.Commit))))), (16, .I ((slc p0.Log 0 (if (p0.Log.length : Int) < (if (0 : Int) > p0.Commit then 0 else p0.Commit) then (p0.Log.length : Int) else (if (0 : Int) > p0.Commit then 0 else p0.Commit))).length : Int)), (17, .I xt17_9h)], [(222, .raw (d_api_Entry ((slc p0.Log 0 (if (p0.Log.length : Int) < (if (0 : Int) > p0.Commit then 0 else p0.Commit) then (p0.Log.length : Int) else (if (0 : Int) > p0.Commit then 0 else p0.Commit))).getD (Int.toNat xt17_9h) z_api_Entry))), (21900, .lst .t_sl_uint8 x21900)]⟩) (And.intro g2.1 g2.2) ?_
   obtain ⟨a1, ha1, h⟩ := bind_some h
   obtain ⟨g3, h⟩ := guard_some h
   refine ar L 225 [] [(3, .cv (.ro .t_uint8 a1))] [] (cs := [PCall V P 59 [.cv (.ro .t_uint8 (((slc p0.Log 0 (if (p0.Log.length : Int) < (if (0 : Int) > p0.Commit then 0 else p0.Commit) then (p0.Log.length : Int) else (if (0 : Int) > p0.Commit then 0 else p0.Commit))).getD (Int.toNat xt17_9h) z_api_Entry).Data))] (.cv (.ro .t_uint8 a1)), True, (x21900.length + ([a1] : List (List UInt8)).length) * 24 ≤ 140737488355328, True]) (S' := ⟨[(3, .cv (.own .t_sl_uint8 21900)), (15, .cv (.ro .t_api_Entry (slc p0.Log 0 (if (p0.Log.length : Int) < (if (0 : Int) > p0.Commit then 0 else p0.Commit) then (p0.Log.length : Int) else (if (0 : Int) > p0.Commit then 0 else p0.Commit))))), (16, .I ((slc p0.Log 0 (if (p0.Log.length : Int) < (if (0 : Int) > p0.Commit then 0 else p0.Commit) then (p0.Log.length : Int) else (if (0 : Int) > p0.Commit then 0 else p0.Commit))).length : Int)), (17, .I xt17_9h)], [(21900, .lst .t_sl_uint8 (x21900 ++ ([a1] : List (List UInt8))))]⟩) (And.intro (bytes_Clone_59.ok ha1) (And.intro trivial (And.intro g3 trivial))) ?_
   refine ar0 L 233 [] [] [] (S' := ⟨[(3, .cv (.own .t_sl_uint8 21900)), (15, .cv (.ro .t_api_Entry (slc p0.Log 0 (if (p0.Log.length : Int) < (if (0 : Int) > p0.Commit then 0 else p0.Commit) then (p0.Log.length : Int) else (if (0 : Int) > p0.Commit then 0 else p0.Commit))))), (16, .I ((slc p0.Log 0 (if (p0.Log.length : Int) < (if (0 : Int) > p0.Commit then 0 else p0.Commit) then (p0.Log.length : Int) else (if (0 : Int) > p0.Commit then 0 else p0.Commit))).length : Int)), (17, .I (IntKind.i64.wrap (xt17_9h + 1)))], [(21900, .lst .t_sl_uint8 (x21900 ++ ([a1] : List (List UInt8))))]⟩) ?_
   exact ⟨k, Nat.lt_succ_self k, _, _, rfl, h⟩
  refine ff (b := (decide (xt17_9h < ((slc p0.Log 0 (if (p0.Log.length : Int) < (if (0 : Int) > p0.Commit then 0 else p0.Commit) then (p0.Log.length : Int) else (if (0 : Int) > p0.Commit then 0 else p0.Commit))).length : Int)))) (decide_eq_false c1) ?_
  refine awp_turn (Turns.trans (Turns.kp (S' := ⟨[(3, .cv (.own .t_sl_uint8 21900))], [(21900, .lst .t_sl_uint8 x21900)]⟩)) (Turns.rn [(21900, 21800)] (S' := ⟨[(3, .cv (.own .t_sl_uint8 21800))], [(21800, .lst .t_sl_uint8 x21900)]⟩))) ?_
  refine ex (S' := ⟨[(3, .cv (.own .t_sl_uint8 21800))], [(21800, .lst .t_sl_uint8 x21900)]⟩) ?_
  obtain rfl := Option.some.inj h
  exact ⟨rfl, _, rfl, rfl⟩
 ·rintro e S ⟨rfl, x21800, rfl, rfl⟩
  refine ⟨_, Turns.refl, ?_⟩
  refine sr0 L 236 [] [] [] (S' := ⟨[(2, .cv (.own .t_sl_uint8 21800))], [(21800, .lst .t_sl_uint8 x21800)]⟩) ?_
  refine awp_turn (Turns.frz 21800 (blk0 := .lst .t_sl_uint8 x21800) (by kernel_rfl) (by kernel_rfl) (S' := ⟨[(2, .cv (.ro .t_sl_uint8 x21800))], []⟩) (by kernel_rfl)) ?_
  refine awp_ret ?_
  obtain rfl := Option.some.inj h
  exact er (.cv (.ro .t_sl_uint8 x21800))
theorem replog_Committed.ok {K : Nat} {p0 : api_Replica} {r : List (List UInt8)} (h : replog_Committed K p0 = some r) : PCall V P 34 [.agg (d_api_Replica p0)] (.cv (.ro .t_sl_uint8 r)) := ECall.pcall (eo (fn := Tryz.f34) (n := 29) (m := 100) fun Γ => replog_Committed.body h) (by kernel_rfl)
def group_Committed.l9 (K : Nat) (p0 : group_Group) : Nat → Int → Int → Option Int
 | 0, _, _ => none
 | k + 1, xt3_9h, xt9_9h => (if xt9_9h < (p0.Replicas.length : Int) then (if (0 : Int) ≤ xt9_9h ∧ (xt9_9h : Int) < (p0.Replicas.length : Int) then (if xt3_9h < 0 then group_Committed.l9 K p0 k xt9_9h (IntKind.i64.wrap (xt9_9h + 1)) else (if (0 : Int) ≤ xt3_9h ∧ (xt3_9h : Int) < (p0.Replicas.length : Int) then (if (p0.Replicas.getD (Int.toNat xt9_9h) z_api_Replica).Commit > (p0.Replicas.getD (Int.toNat xt3_9h) z_api_Replica).Commit then group_Committed.l9 K p0 k xt9_9h (IntKind.i64.wrap (xt9_9h + 1)) else group_Committed.l9 K p0 k xt3_9h (IntKind.i64.wrap (xt9_9h + 1))) else none)) else none) else some xt3_9h)
def group_Committed (K : Nat) (p0 : group_Group) : Option (List (List UInt8)) := (Option.bind (group_Committed.l9 K p0 K (-1) 0 : Option Int) (fun xt3_9 => (if xt3_9 < 0 then some ([] : List (List UInt8)) else (if (0 : Int) ≤ xt3_9 ∧ (xt3_9 : Int) < (p0.Replicas.length : Int) then (Option.bind (replog_Committed K (p0.Replicas.getD (Int.toNat xt3_9) z_api_Replica)) (fun a1 => some a1)) else none))))
theorem group_Committed.body {Γ : Ent} {K : Nat} {p0 : group_Group} {r : List (List UInt8)} (h : group_Committed K p0 = some r) : AWp V P 37 100 Γ (Tryz.f15.body.getD .skip) (EndsE P V Tryz.f15 (.cv (.ro .t_sl_uint8 r)) []) ⟨args0 0 [.agg (d_group_Group p0)], []⟩ := by
 unfold group_Committed at h
 refine sr0 L 200 [] [] [] (S' := ⟨[(1, .P 200)], [(200, .raw (d_group_Group p0))]⟩) ?_
 refine sr0 L 203 [] [] [] (S' := ⟨[(1, .P 200), (3, .I (-1))], [(200, .raw (d_group_Group p0))]⟩) ?_
 refine awp_seq ?_
 refine sr0 L 205 [] [] [] (S' := ⟨[(1, .P 200), (3, .I (-1)), (7, .cv (.ro .t_api_Replica p0.Replicas)), (8, .I (p0.Replicas.length : Int)), (9, .I 0)], [(200, .raw (d_group_Group p0))]⟩) ?_
 refine awp_block ?_
 refine awp_turn (Turns.trans (Turns.kp (S' := ⟨[(1, .P 200), (3, .I (-1)), (7, .cv (.ro .t_api_Replica p0.Replicas)), (8, .I (p0.Replicas.length : Int)), (9, .I 0)], [(200, .raw (d_group_Group p0))]⟩)) (Turns.rn [(200, 21900)] (S' := ⟨[(1, .P 21900), (3, .I (-1)), (7, .cv (.ro .t_api_Replica p0.Replicas)), (8, .I (p0.Replicas.length : Int)), (9, .I 0)], [(21900, .raw (d_group_Group p0))]⟩))) ?_
 refine kp (S' := ⟨[(1, .P 21900), (3, .I (-1)), (7, .cv (.ro .t_api_Replica p0.Replicas)), (8, .I (p0.Replicas.length : Int)), (9, .I 0)], [(21900, .raw (d_group_Group p0))]⟩) ?_
 obtain ⟨o1, hp1, h⟩ := bind_some h
 refine awp_conseq (Q' := fun e S => (e = .exit 0 ∧ ∃ xt3_9 : Int, S = ⟨[(1, .P 21800), (3, .I xt3_9)], [(21800, .raw (d_group_Group p0))]⟩ ∧ xt3_9 = o1)) (awp_loop (fun k S => ∃ xt3_9h : Int, ∃ xt9_9h : Int, S = ⟨[(1, .P 21900), (3, .I xt3_9h), (7, .cv (.ro .t_api_Replica p0.Replicas)), (8, .I (p0.Replicas.length : Int)), (9, .I xt9_9h)], [(21900, .raw (d_group_Group p0))]⟩ ∧ group_Committed.l9 K p0 k xt3_9h xt9_9h = some o1) ?_ ⟨_, _, rfl, hp1⟩) ?_
 ·clear h hp1
  intro k S hS
  obtain ⟨xt3_9h, xt9_9h, rfl, h⟩ := hS
  cases k with
  | zero => cases h
  | succ k =>
  unfold group_Committed.l9 at h
  refine sr0 L 210 [] [] [] (S' := ⟨[(1, .P 21900), (3, .I xt3_9h), (7, .cv (.ro .t_api_Replica p0.Replicas)), (8, .I (p0.Replicas.length : Int)), (9, .I xt9_9h), (10, .B (decide (xt9_9h < (p0.Replicas.length : Int))))], [(21900, .raw (d_group_Group p0))]⟩) ?_
  refine awp_seq ?_
  rcases ite_some h with ⟨c1, h⟩ | ⟨c1, h⟩
  ·refine tt (b := (decide (xt9_9h < (p0.Replicas.length : Int)))) (decide_eq_true c1) ?_
   refine awp_skip' ?_
   refine awp_seq ?_
   refine awp_block ?_
   refine awp_seq ?_
   obtain ⟨g1, h⟩ := guard_some h
   refine ar L 212 [] [] [] (cs := [(0 : Int) ≤ xt9_9h, (xt9_9h : Int) < (p0.Replicas.length : Int)]) (S' := ⟨[(1, .P 21900), (3, .I xt3_9h), (4, .I xt9_9h), (5, .P 215), (7, .cv (.ro .t_api_Replica p0.Replicas)), (8, .I (p0.Replicas.length : Int)), (9, .I xt9_9h)], [(215, .raw (d_api_Replica (p0.Replicas.getD (Int.toNat xt9_9h) z_api_Replica))), (21900, .raw (d_group_Group p0))]⟩) (And.intro g1.1 g1.2) ?_
   refine awp_seq ?_
   rcases ite_some h with ⟨c2, h⟩ | ⟨c2, h⟩
   ·refine ad L mixed 219 [(2, true)] [] [] [] 13 (cs := [(decide (xt3_9h < 0)) = true]) (S' := ⟨[(1, .P 21900), (3, .I xt3_9h), (4, .I xt9_9h), (7, .cv (.ro .t_api_Replica p0.Replicas)), (8, .I (p0.Replicas.length : Int)), (9, .I xt9_9h), (26, .B true)], [(21900, .raw (d_group_Group p0))]⟩) (decide_eq_true c2) ?_
    refine tt (b := true) (rfl) ?_
    refine ar0 L 233 [] [] [] (S' := ⟨[(1, .P 21900), (3, .I xt9_9h), (7, .cv (.ro .t_api_Replica p0.Replicas)), (8, .I (p0.Replicas.length : Int)), (9, .I xt9_9h)], [(21900, .raw (d_group_Group p0))]⟩) ?_
    refine ar0 L 236 [] [] [] (S' := ⟨[(1, .P 21900), (3, .I xt9_9h), (7, .cv (.ro .t_api_Replica p0.Replicas)), (8, .I (p0.Replicas.length : Int)), (9, .I (IntKind.i64.wrap (xt9_9h + 1)))], [(21900, .raw (d_group_Group p0))]⟩) ?_
    exact ⟨k, Nat.lt_succ_self k, _, _, rfl, h⟩
   obtain ⟨g2, h⟩ := guard_some h
   refine ad L mixed 219 [(2, false)] [] [] [] 13 (cs := [(decide (xt3_9h < 0)) = false, (0 : Int) ≤ xt3_9h, (xt3_9h : Int) < (p0.Replicas.length : Int)]) (S' := ⟨[(1, .P 21900), (3, .I xt3_9h), (4, .I xt9_9h), (7, .cv (.ro .t_api_Replica p0.Replicas)), (8, .I (p0.Replicas.length : Int)), (9, .I xt9_9h), (26, .B (decide ((p0.Replicas.getD (Int.toNat xt9_9h) z_api_Replica).Commit > (p0.Replicas.getD (Int.toNat xt3_9h) z_api_Replica).Commit)))], [(21900, .raw (d_group_Group p0))]⟩) (And.intro (decide_eq_false c2) (And.intro g2.1 g2.2)) ?_
   rcases ite_some h with ⟨c3, h⟩ | ⟨c3, h⟩
   ·refine tt (b := (decide ((p0.Replicas.getD (Int.toNat xt9_9h) z_api_Replica).Commit > (p0.Replicas.getD (Int.toNat xt3_9h) z_api_Replica).Commit))) (decide_eq_true c3) ?_
    refine ar0 L 233 [] [] [] (S' := ⟨[(1, .P 21900), (3, .I xt9_9h), (7, .cv (.ro .t_api_Replica p0.Replicas)), (8, .I (p0.Replicas.length : Int)), (9, .I xt9_9h)], [(21900, .raw (d_group_Group p0))]⟩) ?_
    refine ar0 L 236 [] [] [] (S' := ⟨[(1, .P 21900), (3, .I xt9_9h), (7, .cv (.ro .t_api_Replica p0.Replicas)), (8, .I (p0.Replicas.length : Int)), (9, .I (IntKind.i64.wrap (xt9_9h + 1)))], [(21900, .raw (d_group_Group p0))]⟩) ?_
    exact ⟨k, Nat.lt_succ_self k, _, _, rfl, h⟩
   refine ff (b := (decide ((p0.Replicas.getD (Int.toNat xt9_9h) z_api_Replica).Commit > (p0.Replicas.getD (Int.toNat xt3_9h) z_api_Replica).Commit))) (decide_eq_false c3) ?_
   refine awp_skip' ?_
   refine ar0 L 236 [] [] [] (S' := ⟨[(1, .P 21900), (3, .I xt3_9h), (7, .cv (.ro .t_api_Replica p0.Replicas)), (8, .I (p0.Replicas.length : Int)), (9, .I (IntKind.i64.wrap (xt9_9h + 1)))], [(21900, .raw (d_group_Group p0))]⟩) ?_
   exact ⟨k, Nat.lt_succ_self k, _, _, rfl, h⟩
  refine ff (b := (decide (xt9_9h < (p0.Replicas.length : Int)))) (decide_eq_false c1) ?_
  refine awp_turn (Turns.trans (Turns.kp (S' := ⟨[(1, .P 21900), (3, .I xt3_9h)], [(21900, .raw (d_group_Group p0))]⟩)) (Turns.rn [(21900, 21800)] (S' := ⟨[(1, .P 21800), (3, .I xt3_9h)], [(21800, .raw (d_group_Group p0))]⟩))) ?_
  refine ex (S' := ⟨[(1, .P 21800), (3, .I xt3_9h)], [(21800, .raw (d_group_Group p0))]⟩) ?_
  obtain rfl := Option.some.inj h
  exact ⟨rfl, _, rfl, rfl⟩
 ·rintro e S ⟨rfl, xt3_9, rfl, rfl⟩
  refine ⟨_, Turns.refl, ?_⟩
  refine awp_seq ?_
  refine sr0 L 239 [] [] [] (S' := ⟨[(1, .P 21800), (3, .I xt3_9), (30, .B (decide (xt3_9 < 0)))], [(21800, .raw (d_group_Group p0))]⟩) ?_
  rcases ite_some h with ⟨c4, h⟩ | ⟨c4, h⟩
  ·refine tt (b := (decide (xt3_9 < 0))) (decide_eq_true c4) ?_
   refine sr0 L 242 [] [] [] (S' := ⟨[(2, .N)], []⟩) ?_
   refine awp_ret ?_
   obtain rfl := Option.some.inj h
   exact er (.N)
  refine ff (b := (decide (xt3_9 < 0))) (decide_eq_false c4) ?_
  refine awp_skip' ?_
  refine awp_seq ?_
  obtain ⟨g3, h⟩ := guard_some h
  obtain ⟨a1, h1, h⟩ := bind_some h
  refine ar L 244 [] [(5, .cv (.ro .t_sl_uint8 a1))] [] (cs := [(0 : Int) ≤ xt3_9, (xt3_9 : Int) < (p0.Replicas.length : Int), PCall V P 34 [.agg (d_api_Replica (p0.Replicas.getD (Int.toNat xt3_9) z_api_Replica))] (.cv (.ro .t_sl_uint8 a1)), True]) (S' := ⟨[(2, .cv (.ro .t_sl_uint8 a1))], []⟩) (And.intro g3.1 (And.intro g3.2 (And.intro (replog_Committed.ok h1) trivial))) ?_
  refine awp_ret ?_
  obtain rfl := Option.some.inj h
  exact er (.cv (.ro .t_sl_uint8 a1))
theorem group_Committed.ok {K : Nat} {p0 : group_Group} {r : List (List UInt8)} (h : group_Committed K p0 = some r) : PCall V P 15 [.agg (d_group_Group p0)] (.cv (.ro .t_sl_uint8 r)) := ECall.pcall (eo (fn := Tryz.f15) (n := 37) (m := 100) fun Γ => group_Committed.body h) (by kernel_rfl)
def workflowlaw55_works (K : Nat) : Option Bool := (Option.bind (group_New K 3) (fun (a1_0, a1_1) => (Option.bind (group_Elect K a1_0 0 ([1, 2] : List Int)) (fun (a2_0, a2_1) => (Option.bind (group_Propose K a2_0 0 1 ([(UInt8.ofNat (Int.toNat 120))] : List UInt8) ([1] : List Int)) (fun (a3_0, a3_1, a3_2, a3_3) => (Option.bind (group_Propose K a3_0 0 1 ([(UInt8.ofNat (Int.toNat 121))] : List UInt8) ([] : List Int)) (fun (a4_0, a4_1, a4_2, a4_3) => (Option.bind (group_Committed K a3_0) (fun a5 => (if a1_1 = 0 then (if a2_1 = 0 then (if a3_3 = 0 then (if a4_3 = 0 then (if a3_1 = 1 then (if a3_2 = true then (if a4_1 = 2 then (if a4_2 = true then some false else (if (a5.length : Int) = 1 then (if (0 : Int) < (a5.length : Int) then some (decide (((a5.getD (Int.toNat 0) ([] : List UInt8)).map (fun b => b)) = ([120] : List UInt8))) else none) else some false)) else some false) else some false) else some false) else some false) else some false) else some false) else some false)))))))))))
theorem workflowlaw55_works.body {Γ : Ent} {K : Nat} {r : Bool} (h : workflowlaw55_works K = some r) : AWp V P 84 100 Γ (Tryz.f8.body.getD .skip) (EndsE P V Tryz.f8 (.B r) []) ⟨args0 0 [], []⟩ := by
 unfold workflowlaw55_works at h
 refine sr0 L 200 [] [] [] (S' := ⟨[], []⟩) ?_
 refine awp_seq ?_
 obtain ⟨⟨a1_0, a1_1⟩, h1, h⟩ := bind_some h
 dsimp only at h
 refine ar L 202 [] [(0, .tup [.agg (d_group_Group a1_0), .I a1_1])] [] (cs := [PCall V P 10 [.I 3] (.tup [.agg (d_group_Group a1_0), .I a1_1]), True]) (S' := ⟨[(1, .P 206), (2, .I a1_1)], [(206, .raw (d_group_Group a1_0))]⟩) (And.intro (group_New.ok h1) trivial) ?_
 refine awp_seq ?_
 obtain ⟨⟨a2_0, a2_1⟩, h2, h⟩ := bind_some h
 dsimp only at h
 refine ar L 210 [] [(2, .tup [.agg (d_group_Group a2_0), .I a2_1])] [] (cs := [PCall V P 17 [.agg (d_group_Group a1_0), .I 0, .cv (.ro .t_int ([1, 2] : List Int))] (.tup [.agg (d_group_Group a2_0), .I a2_1]), True]) (S' := ⟨[(1, .P 206), (2, .I a1_1), (3, .I a2_1)], [(206, .raw (d_group_Group a2_0))]⟩) (And.intro (group_Elect.ok h2) trivial) ?_
 refine awp_seq ?_
 obtain ⟨⟨a3_0, a3_1, a3_2, a3_3⟩, h3, h⟩ := bind_some h
 dsimp only at h
 refine ar L 219 [] [] [(4, { hids := [], fx := [], r := .tup [.agg (d_group_Group a3_0), .I a3_1, .B a3_2, .I a3_3], H' := [], σ := [], fr := [220] })] (cs := [(0 : Int) ≤ 120, (120 : Int) < 256, 0 < ([(UInt8.ofNat (Int.toNat 120))] : List UInt8).length, ECall V P 12 [.agg (d_group_Group a2_0), .I 0, .I 1, .cv (.ro .t_uint8 ([(UInt8.ofNat (Int.toNat 120))] : List UInt8)), .cv (.ro .t_int ([1] : List Int))] [] [] (.tup [.agg (d_group_Group a3_0), .I a3_1, .B a3_2, .I a3_3]) []]) (S' := ⟨[(1, .P 206), (2, .I a1_1), (3, .I a2_1), (4, .I a3_1), (5, .B a3_2), (6, .I a3_3)], [(206, .raw (d_group_Group a3_0))]⟩) (And.intro (show (0 : Int) ≤ 120 from by decide) (And.intro (show (120 : Int) < 256 from by decide) (And.intro (show 0 < ([(UInt8.ofNat (Int.toNat 120))] : List UInt8).length from by decide) (group_Propose.okE h3)))) ?_
 refine awp_seq ?_
 obtain ⟨⟨a4_0, a4_1, a4_2, a4_3⟩, h4, h⟩ := bind_some h
 dsimp only at h
 refine ar L 234 [] [] [(3, { hids := [], fx := [], r := .tup [.agg (d_group_Group a4_0), .I a4_1, .B a4_2, .I a4_3], H' := [], σ := [], fr := [235] })] (cs := [(0 : Int) ≤ 121, (121 : Int) < 256, 0 < ([(UInt8.ofNat (Int.toNat 121))] : List UInt8).length, ECall V P 12 [.agg (d_group_Group a3_0), .I 0, .I 1, .cv (.ro .t_uint8 ([(UInt8.ofNat (Int.toNat 121))] : List UInt8)), .N] [] [] (.tup [.agg (d_group_Group a4_0), .I a4_1, .B a4_2, .I a4_3]) []]) (S' := ⟨[(1, .P 206), (2, .I a1_1), (3, .I a2_1), (4, .I a3_1), (5, .B a3_2), (6, .I a3_3), (8, .I a4_1), (9, .B a4_2), (10, .I a4_3)], [(206, .raw (d_group_Group a3_0))]⟩) (And.intro (show (0 : Int) ≤ 121 from by decide) (And.intro (show (121 : Int) < 256 from by decide) (And.intro (show 0 < ([(UInt8.ofNat (Int.toNat 121))] : List UInt8).length from by decide) (ECall.co (group_Propose.okE h4) (by kernel_rfl) (by kernel_rfl))))) ?_
 refine awp_seq ?_
 obtain ⟨a5, h5, h⟩ := bind_some h
 refine ar L 249 [] [(1, .cv (.ro .t_sl_uint8 a5))] [] (cs := [PCall V P 15 [.agg (d_group_Group a3_0)] (.cv (.ro .t_sl_uint8 a5)), True]) (S' := ⟨[(2, .I a1_1), (3, .I a2_1), (4, .I a3_1), (5, .B a3_2), (6, .I a3_3), (8, .I a4_1), (9, .B a4_2), (10, .I a4_3), (11, .cv (.ro .t_sl_uint8 a5))], []⟩) (And.intro (group_Committed.ok h5) trivial) ?_
 refine awp_seq ?_
 rcases ite_some h with ⟨c1, h⟩ | ⟨c1, h⟩
 ·rcases ite_some h with ⟨c2, h⟩ | ⟨c2, h⟩
  ·rcases ite_some h with ⟨c3, h⟩ | ⟨c3, h⟩
   ·rcases ite_some h with ⟨c4, h⟩ | ⟨c4, h⟩
    ·rcases ite_some h with ⟨c5, h⟩ | ⟨c5, h⟩
     ·rcases ite_some h with ⟨c6, h⟩ | ⟨c6, h⟩
      ·rcases ite_some h with ⟨c7, h⟩ | ⟨c7, h⟩
       ·rcases ite_some h with ⟨c8, h⟩ | ⟨c8, h⟩
        ·refine ar L 253 [(2, true), (6, true), (10, true), (14, true), (18, true), (21, true), (25, true), (29, false)] [] [] (cs := [(decide (a1_1 = 0)) = true, (decide (a2_1 = 0)) = true, (decide (a3_3 = 0)) = true, (decide (a4_3 = 0)) = true, (decide (a3_1 = 1)) = true, a3_2 = true, (decide (a4_1 = 2)) = true, (!a4_2) = false]) (S' := ⟨[(0, .B false)], []⟩) (And.intro (decide_eq_true c1) (And.intro (decide_eq_true c2) (And.intro (decide_eq_true c3) (And.intro (decide_eq_true c4) (And.intro (decide_eq_true c5) (And.intro c6 (And.intro (decide_eq_true c7) (congrArg Bool.not (c8))))))))) ?_
         refine awp_ret ?_
         obtain rfl := Option.some.inj h
         exact er (.B false)
        rcases ite_some h with ⟨c9, h⟩ | ⟨c9, h⟩
        ·obtain ⟨g1, h⟩ := guard_some h
         refine ar L 253 [(2, true), (6, true), (10, true), (14, true), (18, true), (21, true), (25, true), (29, true), (34, true)] [] [] (cs := [(decide (a1_1 = 0)) = true, (decide (a2_1 = 0)) = true, (decide (a3_3 = 0)) = true, (decide (a4_3 = 0)) = true, (decide (a3_1 = 1)) = true, a3_2 = true, (decide (a4_1 = 2)) = true, (!a4_2) = true, (decide ((a5.length : Int) = 1)) = true, (0 : Int) ≤ 0, (0 : Int) < (a5.length : Int)]) (S' := ⟨[(0, .B (decide (((a5.getD (Int.toNat 0) ([] : List UInt8)).map (fun b => b)) = ([120] : List UInt8))))], []⟩) (And.intro (decide_eq_true c1) (And.intro (decide_eq_true c2) (And.intro (decide_eq_true c3) (And.intro (decide_eq_true c4) (And.intro (decide_eq_true c5) (And.intro c6 (And.intro (decide_eq_true c7) (And.intro (congrArg Bool.not (eq_false_of_ne_true c8)) (And.intro (decide_eq_true c9) (And.intro (show (0 : Int) ≤ 0 from by decide) g1)))))))))) ?_
         refine awp_ret ?_
         obtain rfl := Option.some.inj h
         exact er (.B (decide (((a5.getD (Int.toNat 0) ([] : List UInt8)).map (fun b => b)) = ([120] : List UInt8))))
        refine ar L 253 [(2, true), (6, true), (10, true), (14, true), (18, true), (21, true), (25, true), (29, true), (34, false)] [] [] (cs := [(decide (a1_1 = 0)) = true, (decide (a2_1 = 0)) = true, (decide (a3_3 = 0)) = true, (decide (a4_3 = 0)) = true, (decide (a3_1 = 1)) = true, a3_2 = true, (decide (a4_1 = 2)) = true, (!a4_2) = true, (decide ((a5.length : Int) = 1)) = false]) (S' := ⟨[(0, .B false)], []⟩) (And.intro (decide_eq_true c1) (And.intro (decide_eq_true c2) (And.intro (decide_eq_true c3) (And.intro (decide_eq_true c4) (And.intro (decide_eq_true c5) (And.intro c6 (And.intro (decide_eq_true c7) (And.intro (congrArg Bool.not (eq_false_of_ne_true c8)) (decide_eq_false c9))))))))) ?_
        refine awp_ret ?_
        obtain rfl := Option.some.inj h
        exact er (.B false)
       refine ar L 253 [(2, true), (6, true), (10, true), (14, true), (18, true), (21, true), (25, false)] [] [] (cs := [(decide (a1_1 = 0)) = true, (decide (a2_1 = 0)) = true, (decide (a3_3 = 0)) = true, (decide (a4_3 = 0)) = true, (decide (a3_1 = 1)) = true, a3_2 = true, (decide (a4_1 = 2)) = false]) (S' := ⟨[(0, .B false)], []⟩) (And.intro (decide_eq_true c1) (And.intro (decide_eq_true c2) (And.intro (decide_eq_true c3) (And.intro (decide_eq_true c4) (And.intro (decide_eq_true c5) (And.intro c6 (decide_eq_false c7))))))) ?_
       refine awp_ret ?_
       obtain rfl := Option.some.inj h
       exact er (.B false)
      refine ar L 253 [(2, true), (6, true), (10, true), (14, true), (18, true), (21, false)] [] [] (cs := [(decide (a1_1 = 0)) = true, (decide (a2_1 = 0)) = true, (decide (a3_3 = 0)) = true, (decide (a4_3 = 0)) = true, (decide (a3_1 = 1)) = true, a3_2 = false]) (S' := ⟨[(0, .B false)], []⟩) (And.intro (decide_eq_true c1) (And.intro (decide_eq_true c2) (And.intro (decide_eq_true c3) (And.intro (decide_eq_true c4) (And.intro (decide_eq_true c5) (eq_false_of_ne_true c6)))))) ?_
      refine awp_ret ?_
      obtain rfl := Option.some.inj h
      exact er (.B false)
     refine ar L 253 [(2, true), (6, true), (10, true), (14, true), (18, false)] [] [] (cs := [(decide (a1_1 = 0)) = true, (decide (a2_1 = 0)) = true, (decide (a3_3 = 0)) = true, (decide (a4_3 = 0)) = true, (decide (a3_1 = 1)) = false]) (S' := ⟨[(0, .B false)], []⟩) (And.intro (decide_eq_true c1) (And.intro (decide_eq_true c2) (And.intro (decide_eq_true c3) (And.intro (decide_eq_true c4) (decide_eq_false c5))))) ?_
     refine awp_ret ?_
     obtain rfl := Option.some.inj h
     exact er (.B false)
    refine ar L 253 [(2, true), (6, true), (10, true), (14, false)] [] [] (cs := [(decide (a1_1 = 0)) = true, (decide (a2_1 = 0)) = true, (decide (a3_3 = 0)) = true, (decide (a4_3 = 0)) = false]) (S' := ⟨[(0, .B false)], []⟩) (And.intro (decide_eq_true c1) (And.intro (decide_eq_true c2) (And.intro (decide_eq_true c3) (decide_eq_false c4)))) ?_
    refine awp_ret ?_
    obtain rfl := Option.some.inj h
    exact er (.B false)
   refine ar L 253 [(2, true), (6, true), (10, false)] [] [] (cs := [(decide (a1_1 = 0)) = true, (decide (a2_1 = 0)) = true, (decide (a3_3 = 0)) = false]) (S' := ⟨[(0, .B false)], []⟩) (And.intro (decide_eq_true c1) (And.intro (decide_eq_true c2) (decide_eq_false c3))) ?_
   refine awp_ret ?_
   obtain rfl := Option.some.inj h
   exact er (.B false)
  refine ar L 253 [(2, true), (6, false)] [] [] (cs := [(decide (a1_1 = 0)) = true, (decide (a2_1 = 0)) = false]) (S' := ⟨[(0, .B false)], []⟩) (And.intro (decide_eq_true c1) (decide_eq_false c2)) ?_
  refine awp_ret ?_
  obtain rfl := Option.some.inj h
  exact er (.B false)
 refine ar L 253 [(2, false)] [] [] (cs := [(decide (a1_1 = 0)) = false]) (S' := ⟨[(0, .B false)], []⟩) (decide_eq_false c1) ?_
 refine awp_ret ?_
 obtain rfl := Option.some.inj h
 exact er (.B false)
theorem workflowlaw55_works.ok {K : Nat} {r : Bool} (h : workflowlaw55_works K = some r) : PCall V P 8 [] (.B r) := ECall.pcall (eo (fn := Tryz.f8) (n := 84) (m := 100) fun Γ => workflowlaw55_works.body h) (by kernel_rfl)
def group_Safe.l21 (K : Nat) (p0 : group_Group) (xt10_7h : Int) : Nat → Int → Option (Out Bool Unit)
 | 0, _ => none
 | k + 1, xt20_21h => (if xt20_21h < ((slc p0.Replicas 0 xt10_7h).length : Int) then (if (0 : Int) ≤ xt20_21h ∧ (xt20_21h : Int) < ((slc p0.Replicas 0 xt10_7h).length : Int) then (Option.bind (replog_Common K (p0.Replicas.getD (Int.toNat xt10_7h) z_api_Replica) ((slc p0.Replicas 0 xt10_7h).getD (Int.toNat xt20_21h) z_api_Replica)) (fun a1 => (if a1 < (if ((slc p0.Replicas 0 xt10_7h).getD (Int.toNat xt20_21h) z_api_Replica).Commit < (p0.Replicas.getD (Int.toNat xt10_7h) z_api_Replica).Commit then ((slc p0.Replicas 0 xt10_7h).getD (Int.toNat xt20_21h) z_api_Replica).Commit else (p0.Replicas.getD (Int.toNat xt10_7h) z_api_Replica).Commit) then some (Out.done false) else group_Safe.l21 K p0 xt10_7h k (IntKind.i64.wrap (xt20_21h + 1))))) else none) else some (Out.go ()))
def group_Safe.l7 (K : Nat) (p0 : group_Group) : Nat → Int → Option (Out Bool Unit)
 | 0, _ => none
 | k + 1, xt10_7h => (if xt10_7h < (p0.Replicas.length : Int) then (if (0 : Int) ≤ xt10_7h ∧ (xt10_7h : Int) < (p0.Replicas.length : Int) then (if xt10_7h ≤ (p0.Replicas.length : Int) then (obind (group_Safe.l21 K p0 xt10_7h K 0 : Option (Out Bool Unit)) Out.done (fun _ => group_Safe.l7 K p0 k (IntKind.i64.wrap (xt10_7h + 1)))) else none) else none) else some (Out.go ()))
def group_Safe (K : Nat) (p0 : group_Group) : Option Bool := (obind (group_Safe.l7 K p0 K 0 : Option (Out Bool Unit)) (fun r => r) (fun _ => some true))
theorem group_Safe.body {Γ : Ent} {K : Nat} {p0 : group_Group} {r : Bool} (h : group_Safe K p0 = some r) : AWp V P 35 100 Γ (Tryz.f13.body.getD .skip) (EndsE P V Tryz.f13 (.B r) []) ⟨args0 0 [.agg (d_group_Group p0)], []⟩ := by
 unfold group_Safe at h
 refine sr0 L 200 [] [] [] (S' := ⟨[(1, .P 200)], [(200, .raw (d_group_Group p0))]⟩) ?_
 refine awp_seq ?_
 refine sr0 L 203 [] [] [] (S' := ⟨[(1, .P 200), (8, .cv (.ro .t_api_Replica p0.Replicas)), (9, .I (p0.Replicas.length : Int)), (10, .I 0)], [(200, .raw (d_group_Group p0))]⟩) ?_
 refine awp_block ?_
 refine awp_turn (Turns.trans (Turns.kp (S' := ⟨[(1, .P 200), (8, .cv (.ro .t_api_Replica p0.Replicas)), (9, .I (p0.Replicas.length : Int)), (10, .I 0)], [(200, .raw (d_group_Group p0))]⟩)) (Turns.rn [(200, 21500)] (S' := ⟨[(1, .P 21500), (8, .cv (.ro .t_api_Replica p0.Replicas)), (9, .I (p0.Replicas.length : Int)), (10, .I 0)], [(21500, .raw (d_group_Group p0))]⟩))) ?_
 refine kp (S' := ⟨[(1, .P 21500), (8, .cv (.ro .t_api_Replica p0.Replicas)), (9, .I (p0.Replicas.length : Int)), (10, .I 0)], [(21500, .raw (d_group_Group p0))]⟩) ?_
 obtain ⟨o2, hp2, h⟩ := obind_some h
 refine awp_conseq (Q' := fun e S => (e = .exit 0 ∧ S = ⟨[], []⟩ ∧ Out.go () = o2) ∨ (e = .ret ∧ ∃ a, Out.done a = o2 ∧ EndsE P V Tryz.f13 (.B a) [] .ret S)) (awp_loop (fun k S => ∃ xt10_7h : Int, S = ⟨[(1, .P 21500), (8, .cv (.ro .t_api_Replica p0.Replicas)), (9, .I (p0.Replicas.length : Int)), (10, .I xt10_7h)], [(21500, .raw (d_group_Group p0))]⟩ ∧ group_Safe.l7 K p0 k xt10_7h = some o2) ?_ ⟨_, rfl, hp2⟩) ?_
 ·clear h hp2
  intro k S hS
  obtain ⟨xt10_7h, rfl, h⟩ := hS
  cases k with
  | zero => cases h
  | succ k =>
  unfold group_Safe.l7 at h
  refine sr0 L 208 [] [] [] (S' := ⟨[(1, .P 21500), (8, .cv (.ro .t_api_Replica p0.Replicas)), (9, .I (p0.Replicas.length : Int)), (10, .I xt10_7h), (11, .B (decide (xt10_7h < (p0.Replicas.length : Int))))], [(21500, .raw (d_group_Group p0))]⟩) ?_
  refine awp_seq ?_
  rcases ite_some h with ⟨c1, h⟩ | ⟨c1, h⟩
  ·refine tt (b := (decide (xt10_7h < (p0.Replicas.length : Int)))) (decide_eq_true c1) ?_
   refine awp_skip' ?_
   refine awp_seq ?_
   refine awp_block ?_
   refine awp_seq ?_
   obtain ⟨g1, h⟩ := guard_some h
   refine ar L 210 [] [] [] (cs := [(0 : Int) ≤ xt10_7h, (xt10_7h : Int) < (p0.Replicas.length : Int)]) (S' := ⟨[(1, .P 21500), (3, .I xt10_7h), (4, .P 213), (8, .cv (.ro .t_api_Replica p0.Replicas)), (9, .I (p0.Replicas.length : Int)), (10, .I xt10_7h)], [(213, .raw (d_api_Replica (p0.Replicas.getD (Int.toNat xt10_7h) z_api_Replica))), (21500, .raw (d_group_Group p0))]⟩) (And.intro g1.1 g1.2) ?_
   refine awp_seq ?_
   obtain ⟨g2, h⟩ := guard_some h
   refine ar L 217 [] [] [] (cs := [(0 : Int) ≤ 0, (0 : Int) ≤ xt10_7h, xt10_7h ≤ (p0.Replicas.length : Int)]) (S' := ⟨[(1, .P 21500), (4, .P 213), (8, .cv (.ro .t_api_Replica p0.Replicas)), (9, .I (p0.Replicas.length : Int)), (10, .I xt10_7h), (18, .cv (.ro .t_api_Replica (slc p0.Replicas 0 xt10_7h))), (19, .I ((slc p0.Replicas 0 xt10_7h).length : Int)), (20, .I 0)], [(213, .raw (d_api_Replica (p0.Replicas.getD (Int.toNat xt10_7h) z_api_Replica))), (21500, .raw (d_group_Group p0))]⟩) (And.intro (Int.le_refl _) (And.intro g1.1 g2)) ?_
   refine awp_block ?_
   refine awp_turn (Turns.trans (Turns.kp (S' := ⟨[(1, .P 21500), (4, .P 213), (8, .cv (.ro .t_api_Replica p0.Replicas)), (9, .I (p0.Replicas.length : Int)), (10, .I xt10_7h), (18, .cv (.ro .t_api_Replica (slc p0.Replicas 0 xt10_7h))), (19, .I ((slc p0.Replicas 0 xt10_7h).length : Int)), (20, .I 0)], [(213, .raw (d_api_Replica (p0.Replicas.getD (Int.toNat xt10_7h) z_api_Replica))), (21500, .raw (d_group_Group p0))]⟩)) (Turns.rn [(213, 24301), (21500, 24300)] (S' := ⟨[(1, .P 24300), (4, .P 24301), (8, .cv (.ro .t_api_Replica p0.Replicas)), (9, .I (p0.Replicas.length : Int)), (10, .I xt10_7h), (18, .cv (.ro .t_api_Replica (slc p0.Replicas 0 xt10_7h))), (19, .I ((slc p0.Replicas 0 xt10_7h).length : Int)), (20, .I 0)], [(24301, .raw (d_api_Replica (p0.Replicas.getD (Int.toNat xt10_7h) z_api_Replica))), (24300, .raw (d_group_Group p0))]⟩))) ?_
   refine kp (S' := ⟨[(1, .P 24300), (4, .P 24301), (8, .cv (.ro .t_api_Replica p0.Replicas)), (9, .I (p0.Replicas.length : Int)), (10, .I xt10_7h), (18, .cv (.ro .t_api_Replica (slc p0.Replicas 0 xt10_7h))), (19, .I ((slc p0.Replicas 0 xt10_7h).length : Int)), (20, .I 0)], [(24300, .raw (d_group_Group p0)), (24301, .raw (d_api_Replica (p0.Replicas.getD (Int.toNat xt10_7h) z_api_Replica)))]⟩) ?_
   obtain ⟨o1, hp1, h⟩ := obind_some h
   refine awp_conseq (Q' := fun e S => (e = .exit 2 ∧ S = ⟨[(1, .P 24200), (8, .cv (.ro .t_api_Replica p0.Replicas)), (9, .I (p0.Replicas.length : Int)), (10, .I xt10_7h)], [(24200, .raw (d_group_Group p0))]⟩ ∧ Out.go () = o1) ∨ (e = .ret ∧ ∃ a, Out.done a = o1 ∧ EndsE P V Tryz.f13 (.B a) [] .ret S)) (awp_loop (fun k S => ∃ xt20_21h : Int, S = ⟨[(1, .P 24300), (4, .P 24301), (8, .cv (.ro .t_api_Replica p0.Replicas)), (9, .I (p0.Replicas.length : Int)), (10, .I xt10_7h), (18, .cv (.ro .t_api_Replica (slc p0.Replicas 0 xt10_7h))), (19, .I ((slc p0.Replicas 0 xt10_7h).length : Int)), (20, .I xt20_21h)], [(24300, .raw (d_group_Group p0)), (24301, .raw (d_api_Replica (p0.Replicas.getD (Int.toNat xt10_7h) z_api_Replica)))]⟩ ∧ group_Safe.l21 K p0 xt10_7h k xt20_21h = some o1) ?_ ⟨_, rfl, hp1⟩) ?_
   ·clear h hp1
    intro k S hS
    obtain ⟨xt20_21h, rfl, h⟩ := hS
    cases k with
    | zero => cases h
    | succ k =>
    unfold group_Safe.l21 at h
    refine sr0 L 224 [] [] [] (S' := ⟨[(1, .P 24300), (4, .P 24301), (8, .cv (.ro .t_api_Replica p0.Replicas)), (9, .I (p0.Replicas.length : Int)), (10, .I xt10_7h), (18, .cv (.ro .t_api_Replica (slc p0.Replicas 0 xt10_7h))), (19, .I ((slc p0.Replicas 0 xt10_7h).length : Int)), (20, .I xt20_21h), (21, .B (decide (xt20_21h < ((slc p0.Replicas 0 xt10_7h).length : Int))))], [(24300, .raw (d_group_Group p0)), (24301, .raw (d_api_Replica (p0.Replicas.getD (Int.toNat xt10_7h) z_api_Replica)))]⟩) ?_
    refine awp_seq ?_
    rcases ite_some h with ⟨c2, h⟩ | ⟨c2, h⟩
    ·refine tt (b := (decide (xt20_21h < ((slc p0.Replicas 0 xt10_7h).length : Int)))) (decide_eq_true c2) ?_
     refine awp_skip' ?_
     refine awp_seq ?_
     refine awp_block ?_
     refine awp_seq ?_
     obtain ⟨g3, h⟩ := guard_some h
     refine ar L 226 [] [] [] (cs := [(0 : Int) ≤ xt20_21h, (xt20_21h : Int) < ((slc p0.Replicas 0 xt10_7h).length : Int)]) (S' := ⟨[(1, .P 24300), (4, .P 24301), (6, .P 228), (8, .cv (.ro .t_api_Replica p0.Replicas)), (9, .I (p0.Replicas.length : Int)), (10, .I xt10_7h), (18, .cv (.ro .t_api_Replica (slc p0.Replicas 0 xt10_7h))), (19, .I ((slc p0.Replicas 0 xt10_7h).length : Int)), (20, .I xt20_21h)], [(228, .raw (d_api_Replica ((slc p0.Replicas 0 xt10_7h).getD (Int.toNat xt20_21h) z_api_Replica))), (24300, .raw (d_group_Group p0)), (24301, .raw (d_api_Replica (p0.Replicas.getD (Int.toNat xt10_7h) z_api_Replica)))]⟩) (And.intro g3.1 g3.2) ?_
     refine awp_seq ?_
     obtain ⟨a1, h1, h⟩ := bind_some h
     refine ad L mixed 231 [] [(2, .I a1)] [] [] 9 (cs := [PCall V P 32 [.agg (d_api_Replica (p0.Replicas.getD (Int.toNat xt10_7h) z_api_Replica)), .agg (d_api_Replica ((slc p0.Replicas 0 xt10_7h).getD (Int.toNat xt20_21h) z_api_Replica))] (.I a1), True]) (S' := ⟨[(1, .P 24300), (4, .P 24301), (8, .cv (.ro .t_api_Replica p0.Replicas)), (9, .I (p0.Replicas.length : Int)), (10, .I xt10_7h), (18, .cv (.ro .t_api_Replica (slc p0.Replicas 0 xt10_7h))), (19, .I ((slc p0.Replicas 0 xt10_7h).length : Int)), (20, .I xt20_21h), (32, .B (decide (a1 < (if ((slc p0.Replicas 0 xt10_7h).getD (Int.toNat xt20_21h) z_api_Replica).Commit < (p0.Replicas.getD (Int.toNat xt10_7h) z_api_Replica).Commit then ((slc p0.Replicas 0 xt10_7h).getD (Int.toNat xt20_21h) z_api_Replica).Commit else (p0.Replicas.getD (Int.toNat xt10_7h) z_api_Replica).Commit))))], [(24300, .raw (d_group_Group p0)), (24301, .raw (d_api_Replica (p0.Replicas.getD (Int.toNat xt10_7h) z_api_Replica)))]⟩) (And.intro (replog_Common.ok h1) trivial) ?_
     rcases ite_some h with ⟨c3, h⟩ | ⟨c3, h⟩
     ·refine tt (b := (decide (a1 < (if ((slc p0.Replicas 0 xt10_7h).getD (Int.toNat xt20_21h) z_api_Replica).Commit < (p0.Replicas.getD (Int.toNat xt10_7h) z_api_Replica).Commit then ((slc p0.Replicas 0 xt10_7h).getD (Int.toNat xt20_21h) z_api_Replica).Commit else (p0.Replicas.getD (Int.toNat xt10_7h) z_api_Replica).Commit)))) (decide_eq_true c3) ?_
      refine sr0 L 241 [] [] [] (S' := ⟨[(2, .B false)], []⟩) ?_
      refine awp_ret ?_
      obtain rfl := Option.some.inj h
      exact .inr ⟨rfl, _, rfl, er (.B false)⟩
     refine ff (b := (decide (a1 < (if ((slc p0.Replicas 0 xt10_7h).getD (Int.toNat xt20_21h) z_api_Replica).Commit < (p0.Replicas.getD (Int.toNat xt10_7h) z_api_Replica).Commit then ((slc p0.Replicas 0 xt10_7h).getD (Int.toNat xt20_21h) z_api_Replica).Commit else (p0.Replicas.getD (Int.toNat xt10_7h) z_api_Replica).Commit)))) (decide_eq_false c3) ?_
     refine awp_skip' ?_
     refine ar0 L 243 [] [] [] (S' := ⟨[(1, .P 24300), (4, .P 24301), (8, .cv (.ro .t_api_Replica p0.Replicas)), (9, .I (p0.Replicas.length : Int)), (10, .I xt10_7h), (18, .cv (.ro .t_api_Replica (slc p0.Replicas 0 xt10_7h))), (19, .I ((slc p0.Replicas 0 xt10_7h).length : Int)), (20, .I (IntKind.i64.wrap (xt20_21h + 1)))], [(24300, .raw (d_group_Group p0)), (24301, .raw (d_api_Replica (p0.Replicas.getD (Int.toNat xt10_7h) z_api_Replica)))]⟩) ?_
     exact ⟨k, Nat.lt_succ_self k, _, rfl, h⟩
    refine ff (b := (decide (xt20_21h < ((slc p0.Replicas 0 xt10_7h).length : Int)))) (decide_eq_false c2) ?_
    refine awp_turn (Turns.trans (Turns.kp (S' := ⟨[(1, .P 24300), (8, .cv (.ro .t_api_Replica p0.Replicas)), (9, .I (p0.Replicas.length : Int)), (10, .I xt10_7h)], [(24300, .raw (d_group_Group p0))]⟩)) (Turns.rn [(24300, 24200)] (S' := ⟨[(1, .P 24200), (8, .cv (.ro .t_api_Replica p0.Replicas)), (9, .I (p0.Replicas.length : Int)), (10, .I xt10_7h)], [(24200, .raw (d_group_Group p0))]⟩))) ?_
    refine ex (S' := ⟨[(1, .P 24200), (8, .cv (.ro .t_api_Replica p0.Replicas)), (9, .I (p0.Replicas.length : Int)), (10, .I xt10_7h)], [(24200, .raw (d_group_Group p0))]⟩) ?_
    obtain rfl := Option.some.inj h
    exact .inl ⟨rfl, rfl, rfl⟩
   ·rintro e S (⟨rfl, rfl, rfl⟩ | ⟨rfl, a, rfl, hr⟩)
    ·rcases h with ⟨_, e1, h⟩ | ⟨_, e1, h⟩
     ·cases e1
     ·have e2 := Out.go.inj e1
      subst e2
      refine ⟨_, Turns.refl, ?_⟩
      refine awp_post (ar0 L 246 [] [] [] (S' := ⟨[(1, .P 24200), (8, .cv (.ro .t_api_Replica p0.Replicas)), (9, .I (p0.Replicas.length : Int)), (10, .I (IntKind.i64.wrap (xt10_7h + 1)))], [(24200, .raw (d_group_Group p0))]⟩) ⟨rfl, rfl⟩) (Turns.trans (Turns.kp (S' := ⟨[(1, .P 24200), (8, .cv (.ro .t_api_Replica p0.Replicas)), (9, .I (p0.Replicas.length : Int)), (10, .I (IntKind.i64.wrap (xt10_7h + 1)))], [(24200, .raw (d_group_Group p0))]⟩)) (Turns.trans (Turns.rn [(24200, 21500)] (S' := ⟨[(1, .P 21500), (8, .cv (.ro .t_api_Replica p0.Replicas)), (9, .I (p0.Replicas.length : Int)), (10, .I (IntKind.i64.wrap (xt10_7h + 1)))], [(21500, .raw (d_group_Group p0))]⟩)) (Turns.kp (S' := ⟨[(1, .P 21500), (8, .cv (.ro .t_api_Replica p0.Replicas)), (9, .I (p0.Replicas.length : Int)), (10, .I (IntKind.i64.wrap (xt10_7h + 1)))], [(21500, .raw (d_group_Group p0))]⟩)))) ?_
      exact ⟨k, Nat.lt_succ_self k, _, rfl, h⟩
    ·rcases h with ⟨_, e1, h⟩ | ⟨_, e1, h⟩
     ·have e2 := Out.done.inj e1
      subst e2
      subst h
      exact ⟨_, Turns.refl, .inr ⟨rfl, _, rfl, hr⟩⟩
     ·cases e1
  refine ff (b := (decide (xt10_7h < (p0.Replicas.length : Int)))) (decide_eq_false c1) ?_
  refine ex (S' := ⟨[], []⟩) ?_
  obtain rfl := Option.some.inj h
  exact .inl ⟨rfl, rfl, rfl⟩
 ·rintro e S (⟨rfl, rfl, rfl⟩ | ⟨rfl, a, rfl, hr⟩)
  ·rcases h with ⟨_, e1, h⟩ | ⟨_, e1, h⟩
   ·cases e1
   ·have e2 := Out.go.inj e1
    subst e2
    refine ⟨_, Turns.refl, ?_⟩
    refine sr0 L 249 [] [] [] (S' := ⟨[(2, .B true)], []⟩) ?_
    refine awp_ret ?_
    obtain rfl := Option.some.inj h
    exact er (.B true)
  ·rcases h with ⟨_, e1, h⟩ | ⟨_, e1, h⟩
   ·have e2 := Out.done.inj e1
    subst e2
    subst h
    exact ⟨_, Turns.refl, hr⟩
   ·cases e1
theorem group_Safe.ok {K : Nat} {p0 : group_Group} {r : Bool} (h : group_Safe K p0 = some r) : PCall V P 13 [.agg (d_group_Group p0)] (.B r) := ECall.pcall (eo (fn := Tryz.f13) (n := 35) (m := 100) fun Γ => group_Safe.body h) (by kernel_rfl)
def workflowref52_SameData.l15 (K : Nat) (p0 : List (List UInt8)) (p1 : List (List UInt8)) : Nat → Int → Option (Out Bool Unit)
 | 0, _ => none
 | k + 1, xt5_15h => (if xt5_15h < (p0.length : Int) then (if (0 : Int) ≤ xt5_15h ∧ (xt5_15h : Int) < (p0.length : Int) then (if (xt5_15h : Int) < (p1.length : Int) then (Option.bind (workflowref52_Agree K (⟨0, (p0.getD (Int.toNat xt5_15h) ([] : List UInt8))⟩ : api_Entry) (⟨0, (p1.getD (Int.toNat xt5_15h) ([] : List UInt8))⟩ : api_Entry)) (fun a1 => (if a1 = true then workflowref52_SameData.l15 K p0 p1 k (IntKind.i64.wrap (xt5_15h + 1)) else some (Out.done false)))) else none) else none) else some (Out.go ()))
def workflowref52_SameData (K : Nat) (p0 : List (List UInt8)) (p1 : List (List UInt8)) : Option Bool := (if (p0.length : Int) ≠ (p1.length : Int) then some false else (obind (workflowref52_SameData.l15 K p0 p1 K 0 : Option (Out Bool Unit)) (fun r => r) (fun _ => some true)))
theorem workflowref52_SameData.body {Γ : Ent} {K : Nat} {p0 : List (List UInt8)} {p1 : List (List UInt8)} {r : Bool} (h : workflowref52_SameData K p0 p1 = some r) : AWp V P 29 100 Γ (Tryz.f16.body.getD .skip) (EndsE P V Tryz.f16 (.B r) []) ⟨args0 0 [.cv (.ro .t_sl_uint8 p0), .cv (.ro .t_sl_uint8 p1)], []⟩ := by
 unfold workflowref52_SameData at h
 refine sr0 L 200 [] [] [] (S' := ⟨[(0, .cv (.ro .t_sl_uint8 p0)), (1, .cv (.ro .t_sl_uint8 p1))], []⟩) ?_
 refine awp_seq ?_
 refine sr0 L 202 [] [] [] (S' := ⟨[(0, .cv (.ro .t_sl_uint8 p0)), (1, .cv (.ro .t_sl_uint8 p1)), (10, .B (decide ((p0.length : Int) ≠ (p1.length : Int))))], []⟩) ?_
 rcases ite_some h with ⟨c1, h⟩ | ⟨c1, h⟩
 ·refine tt (b := (decide ((p0.length : Int) ≠ (p1.length : Int)))) (decide_eq_true c1) ?_
  refine sr0 L 208 [] [] [] (S' := ⟨[(4, .B false)], []⟩) ?_
  refine awp_ret ?_
  obtain rfl := Option.some.inj h
  exact er (.B false)
 refine ff (b := (decide ((p0.length : Int) ≠ (p1.length : Int)))) (decide_eq_false c1) ?_
 refine awp_skip' ?_
 refine awp_seq ?_
 refine sr0 L 210 [] [] [] (S' := ⟨[(0, .cv (.ro .t_sl_uint8 p0)), (1, .cv (.ro .t_sl_uint8 p1)), (5, .I 0)], []⟩) ?_
 refine awp_block ?_
 refine kp (S' := ⟨[(0, .cv (.ro .t_sl_uint8 p0)), (1, .cv (.ro .t_sl_uint8 p1)), (5, .I 0)], []⟩) ?_
 obtain ⟨o1, hp1, h⟩ := obind_some h
 refine awp_conseq (Q' := fun e S => (e = .exit 0 ∧ S = ⟨[], []⟩ ∧ Out.go () = o1) ∨ (e = .ret ∧ ∃ a, Out.done a = o1 ∧ EndsE P V Tryz.f16 (.B a) [] .ret S)) (awp_loop (fun k S => ∃ xt5_15h : Int, S = ⟨[(0, .cv (.ro .t_sl_uint8 p0)), (1, .cv (.ro .t_sl_uint8 p1)), (5, .I xt5_15h)], []⟩ ∧ workflowref52_SameData.l15 K p0 p1 k xt5_15h = some o1) ?_ ⟨_, rfl, hp1⟩) ?_
 ·clear h hp1
  intro k S hS
  obtain ⟨xt5_15h, rfl, h⟩ := hS
  cases k with
  | zero => cases h
  | succ k =>
  unfold workflowref52_SameData.l15 at h
  refine awp_seq ?_
  refine sr0 L 212 [] [] [] (S' := ⟨[(0, .cv (.ro .t_sl_uint8 p0)), (1, .cv (.ro .t_sl_uint8 p1)), (5, .I xt5_15h), (14, .B (decide (xt5_15h < (p0.length : Int))))], []⟩) ?_
  rcases ite_some h with ⟨c2, h⟩ | ⟨c2, h⟩
  ·refine tt (b := (decide (xt5_15h < (p0.length : Int)))) (decide_eq_true c2) ?_
   refine awp_skip' ?_
   refine awp_seq ?_
   refine awp_block ?_
   refine awp_seq ?_
   obtain ⟨g1, h⟩ := guard_some h
   obtain ⟨g2, h⟩ := guard_some h
   obtain ⟨a1, h1, h⟩ := bind_some h
   refine ad L mixed 217 [] [(10, .B a1)] [] [] 12 (cs := [(0 : Int) ≤ xt5_15h, (xt5_15h : Int) < (p0.length : Int), (0 : Int) ≤ xt5_15h, (xt5_15h : Int) < (p1.length : Int), PCall V P 35 [.agg [.I 0, .ro .t_uint8 (p0.getD (Int.toNat xt5_15h) ([] : List UInt8))], .agg [.I 0, .ro .t_uint8 (p1.getD (Int.toNat xt5_15h) ([] : List UInt8))]] (.B a1), True]) (S' := ⟨[(0, .cv (.ro .t_sl_uint8 p0)), (1, .cv (.ro .t_sl_uint8 p1)), (5, .I xt5_15h), (28, .B (!a1))], []⟩) (And.intro g1.1 (And.intro g1.2 (And.intro g1.1 (And.intro g2 (And.intro (workflowref52_Agree.ok h1) trivial))))) ?_
   rcases ite_some h with ⟨c3, h⟩ | ⟨c3, h⟩
   ·refine ff (b := (!a1)) (congrArg Bool.not (c3)) ?_
    refine awp_skip' ?_
    refine ar0 L 232 [] [] [] (S' := ⟨[(0, .cv (.ro .t_sl_uint8 p0)), (1, .cv (.ro .t_sl_uint8 p1)), (5, .I (IntKind.i64.wrap (xt5_15h + 1)))], []⟩) ?_
    exact ⟨k, Nat.lt_succ_self k, _, rfl, h⟩
   refine tt (b := (!a1)) (congrArg Bool.not (eq_false_of_ne_true c3)) ?_
   refine sr0 L 230 [] [] [] (S' := ⟨[(4, .B false)], []⟩) ?_
   refine awp_ret ?_
   obtain rfl := Option.some.inj h
   exact .inr ⟨rfl, _, rfl, er (.B false)⟩
  refine ff (b := (decide (xt5_15h < (p0.length : Int)))) (decide_eq_false c2) ?_
  refine ex (S' := ⟨[], []⟩) ?_
  obtain rfl := Option.some.inj h
  exact .inl ⟨rfl, rfl, rfl⟩
 ·rintro e S (⟨rfl, rfl, rfl⟩ | ⟨rfl, a, rfl, hr⟩)
  ·rcases h with ⟨_, e1, h⟩ | ⟨_, e1, h⟩
   ·cases e1
   ·have e2 := Out.go.inj e1
    subst e2
    refine ⟨_, Turns.refl, ?_⟩
    refine sr0 L 236 [] [] [] (S' := ⟨[(4, .B true)], []⟩) ?_
    refine awp_ret ?_
    obtain rfl := Option.some.inj h
    exact er (.B true)
  ·rcases h with ⟨_, e1, h⟩ | ⟨_, e1, h⟩
   ·have e2 := Out.done.inj e1
    subst e2
    subst h
    exact ⟨_, Turns.refl, hr⟩
   ·cases e1
theorem workflowref52_SameData.ok {K : Nat} {p0 : List (List UInt8)} {p1 : List (List UInt8)} {r : Bool} (h : workflowref52_SameData K p0 p1 = some r) : PCall V P 16 [.cv (.ro .t_sl_uint8 p0), .cv (.ro .t_sl_uint8 p1)] (.B r) := ECall.pcall (eo (fn := Tryz.f16) (n := 29) (m := 100) fun Γ => workflowref52_SameData.body h) (by kernel_rfl)
def workflowlaw55_GroupSafe.l27 (K : Nat) (p1 : List workflowlaw55_Step) : Nat → (List (List UInt8)) → Int → (List api_Replica) → (List Bool) → Int → Int → Option (Out Bool Unit)
 | 0, _, _, _, _, _, _ => none
 | k + 1, xt7_27h, xt28_27h, x25500_0, x25500_1, x25500_2, x25500_3 => (if xt28_27h < (p1.length : Int) then (if (0 : Int) ≤ xt28_27h ∧ (xt28_27h : Int) < (p1.length : Int) then (Option.bind (((Option.bind (workflowlaw55_small K (p1.getD (Int.toNat xt28_27h) z_workflowlaw55_Step)) (fun a4 => (if a4 = true then some ((decide ((((p1.getD (Int.toNat xt28_27h) z_workflowlaw55_Step).Data).length : Int) > 100))) else some true)))) : Option Bool) (fun xt40_39 => (if xt40_39 = true then (Option.bind (workflowlaw55_works K) (fun a5 => some (Out.done a5))) else (Option.bind (workflowlaw55_back K (⟨x25500_0, x25500_1, x25500_2, x25500_3⟩ : group_Group)) (fun a6 => (Option.bind (workflowlaw55_both K a6 (p1.getD (Int.toNat xt28_27h) z_workflowlaw55_Step)) (fun (a7_0, a7_1, a7_2) => (if a7_2 = true then (Option.bind (group_Safe K a7_0) (fun a8 => (if a8 = true then (Option.bind (workflowlaw55_back K a7_0) (fun a9 => (Option.bind (workflowref55_Right K a9) (fun a10 => (if a10 = true then (Option.bind (group_Committed K a7_0) (fun a11 => (if (a11.length : Int) < (xt7_27h.length : Int) then some (Out.done false) else (if (0 : Int) ≤ (xt7_27h.length : Int) ∧ (xt7_27h.length : Int) ≤ (a11.length : Int) then (Option.bind (workflowref52_SameData K (slc a11 0 (xt7_27h.length : Int)) xt7_27h) (fun a12 => (if a12 = true then workflowlaw55_GroupSafe.l27 K p1 k a11 (IntKind.i64.wrap (xt28_27h + 1)) a7_0.Replicas a7_0.Up a7_0.Leader a7_0.Epoch else some (Out.done false)))) else none)))) else some (Out.done false)))))) else some (Out.done false)))) else some (Out.done false))))))))) else none) else some (Out.go ()))
def workflowlaw55_GroupSafe (K : Nat) (p0 : Int) (p1 : List workflowlaw55_Step) : Option Bool := (if (p1.length : Int) > 60 then (Option.bind (workflowlaw55_works K) (fun a1 => some a1)) else (Option.bind (group_New K p0) (fun (a2_0, a2_1) => (if a2_1 ≠ 0 then (Option.bind (workflowlaw55_works K) (fun a3 => some a3)) else (obind (workflowlaw55_GroupSafe.l27 K p1 K ([] : List (List UInt8)) 0 a2_0.Replicas a2_0.Up a2_0.Leader a2_0.Epoch : Option (Out Bool Unit)) (fun r => r) (fun _ => (Option.bind (workflowlaw55_works K) (fun a13 => some a13))))))))
theorem workflowlaw55_GroupSafe.body {Γ : Ent} {K : Nat} {p0 : Int} {p1 : List workflowlaw55_Step} {r : Bool} (h : workflowlaw55_GroupSafe K p0 p1 = some r) : AWp V P 83 100 Γ (Tryz.f5.body.getD .skip) (EndsE P V Tryz.f5 (.B r) []) ⟨args0 0 [.I p0, .cv (.ro .t_workflowlaw55_Step p1)], []⟩ := by
 unfold workflowlaw55_GroupSafe at h
 refine sr0 L 200 [] [] [] (S' := ⟨[(0, .I p0), (1, .cv (.ro .t_workflowlaw55_Step p1))], []⟩) ?_
 refine awp_seq ?_
 refine sr0 L 202 [] [] [] (S' := ⟨[(0, .I p0), (1, .cv (.ro .t_workflowlaw55_Step p1)), (16, .B (decide ((p1.length : Int) > 60)))], []⟩) ?_
 rcases ite_some h with ⟨c1, h⟩ | ⟨c1, h⟩
 ·refine tt (b := (decide ((p1.length : Int) > 60))) (decide_eq_true c1) ?_
  refine awp_seq ?_
  obtain ⟨a1, h1, h⟩ := bind_some h
  refine ar L 206 [] [(0, .B a1)] [] (cs := [PCall V P 8 [] (.B a1), True]) (S' := ⟨[(4, .B a1)], []⟩) (And.intro (workflowlaw55_works.ok h1) trivial) ?_
  refine awp_ret ?_
  obtain rfl := Option.some.inj h
  exact er (.B a1)
 refine ff (b := (decide ((p1.length : Int) > 60))) (decide_eq_false c1) ?_
 refine awp_skip' ?_
 refine awp_seq ?_
 obtain ⟨⟨a2_0, a2_1⟩, h2, h⟩ := bind_some h
 dsimp only at h
 refine ar L 209 [] [(1, .tup [.agg (d_group_Group a2_0), .I a2_1])] [] (cs := [PCall V P 10 [.I p0] (.tup [.agg (d_group_Group a2_0), .I a2_1]), True]) (S' := ⟨[(1, .cv (.ro .t_workflowlaw55_Step p1)), (5, .P 214), (6, .I a2_1)], [(214, .raw (d_group_Group a2_0))]⟩) (And.intro (group_New.ok h2) trivial) ?_
 refine awp_seq ?_
 refine sr0 L 218 [] [] [] (S' := ⟨[(1, .cv (.ro .t_workflowlaw55_Step p1)), (5, .P 214), (24, .B (decide (a2_1 ≠ 0)))], [(214, .raw (d_group_Group a2_0))]⟩) ?_
 rcases ite_some h with ⟨c2, h⟩ | ⟨c2, h⟩
 ·refine tt (b := (decide (a2_1 ≠ 0))) (decide_eq_true c2) ?_
  refine awp_seq ?_
  obtain ⟨a3, h3, h⟩ := bind_some h
  refine ar L 221 [] [(0, .B a3)] [] (cs := [PCall V P 8 [] (.B a3), True]) (S' := ⟨[(4, .B a3)], []⟩) (And.intro (workflowlaw55_works.ok h3) trivial) ?_
  refine awp_ret ?_
  obtain rfl := Option.some.inj h
  exact er (.B a3)
 refine ff (b := (decide (a2_1 ≠ 0))) (decide_eq_false c2) ?_
 refine awp_skip' ?_
 refine sr0 L 224 [] [] [] (S' := ⟨[(1, .cv (.ro .t_workflowlaw55_Step p1)), (5, .P 214), (7, .N)], [(214, .raw (d_group_Group a2_0))]⟩) ?_
 refine awp_seq ?_
 refine sr0 L 226 [] [] [] (S' := ⟨[(5, .P 214), (7, .N), (26, .cv (.ro .t_workflowlaw55_Step p1)), (27, .I (p1.length : Int)), (28, .I 0)], [(214, .raw (d_group_Group a2_0))]⟩) ?_
 refine awp_block ?_
 refine awp_turn (Turns.trans (Turns.kp (S' := ⟨[(5, .P 214), (7, .N), (26, .cv (.ro .t_workflowlaw55_Step p1)), (27, .I (p1.length : Int)), (28, .I 0)], [(214, .raw (d_group_Group a2_0))]⟩)) (Turns.rn [(214, 25500)] (S' := ⟨[(5, .P 25500), (7, .N), (26, .cv (.ro .t_workflowlaw55_Step p1)), (27, .I (p1.length : Int)), (28, .I 0)], [(25500, .raw (d_group_Group a2_0))]⟩))) ?_
 refine kp (S' := ⟨[(5, .P 25500), (7, .cv (.ro .t_sl_uint8 ([] : List (List UInt8)))), (26, .cv (.ro .t_workflowlaw55_Step p1)), (27, .I (p1.length : Int)), (28, .I 0)], [(25500, .raw (d_group_Group a2_0))]⟩) ?_
 obtain ⟨o2, hp2, h⟩ := obind_some h
 refine awp_conseq (Q' := fun e S => (e = .exit 0 ∧ S = ⟨[], []⟩ ∧ Out.go () = o2) ∨ (e = .ret ∧ ∃ a, Out.done a = o2 ∧ EndsE P V Tryz.f5 (.B a) [] .ret S)) (awp_loop (fun k S => ∃ xt7_27h : List (List UInt8), ∃ xt28_27h : Int, ∃ x25500_0 : List api_Replica, ∃ x25500_1 : List Bool, ∃ x25500_2 : Int, ∃ x25500_3 : Int, S = ⟨[(5, .P 25500), (7, .cv (.ro .t_sl_uint8 xt7_27h)), (26, .cv (.ro .t_workflowlaw55_Step p1)), (27, .I (p1.length : Int)), (28, .I xt28_27h)], [(25500, .raw [.ro .t_api_Replica x25500_0, .ro .t_bool x25500_1, .I x25500_2, .I x25500_3])]⟩ ∧ workflowlaw55_GroupSafe.l27 K p1 k xt7_27h xt28_27h x25500_0 x25500_1 x25500_2 x25500_3 = some o2) ?_ ⟨_, _, _, _, _, _, rfl, hp2⟩) ?_
 ·clear h hp2
  intro k S hS
  obtain ⟨xt7_27h, xt28_27h, x25500_0, x25500_1, x25500_2, x25500_3, rfl, h⟩ := hS
  cases k with
  | zero => cases h
  | succ k =>
  unfold workflowlaw55_GroupSafe.l27 at h
  refine sr0 L 230 [] [] [] (S' := ⟨[(5, .P 25500), (7, .cv (.ro .t_sl_uint8 xt7_27h)), (26, .cv (.ro .t_workflowlaw55_Step p1)), (27, .I (p1.length : Int)), (28, .I xt28_27h), (29, .B (decide (xt28_27h < (p1.length : Int))))], [(25500, .raw [.ro .t_api_Replica x25500_0, .ro .t_bool x25500_1, .I x25500_2, .I x25500_3])]⟩) ?_
  refine awp_seq ?_
  rcases ite_some h with ⟨c3, h⟩ | ⟨c3, h⟩
  ·refine tt (b := (decide (xt28_27h < (p1.length : Int)))) (decide_eq_true c3) ?_
   refine awp_skip' ?_
   refine awp_seq ?_
   refine awp_block ?_
   refine awp_seq ?_
   obtain ⟨g1, h⟩ := guard_some h
   refine ar L 232 [] [] [] (cs := [(0 : Int) ≤ xt28_27h, (xt28_27h : Int) < (p1.length : Int)]) (S' := ⟨[(5, .P 25500), (7, .cv (.ro .t_sl_uint8 xt7_27h)), (9, .P 234), (26, .cv (.ro .t_workflowlaw55_Step p1)), (27, .I (p1.length : Int)), (28, .I xt28_27h)], [(234, .raw (d_workflowlaw55_Step (p1.getD (Int.toNat xt28_27h) z_workflowlaw55_Step))), (25500, .raw [.ro .t_api_Replica x25500_0, .ro .t_bool x25500_1, .I x25500_2, .I x25500_3])]⟩) (And.intro g1.1 g1.2) ?_
   refine awp_seq ?_
   obtain ⟨o1, hp1, h⟩ := bind_some h
   refine awp_seq (awp_mono (Q' := fun e S => (e = .normal ∧ ∃ xt40_39 : Bool, S = ⟨[(5, .P 27800), (7, .cv (.ro .t_sl_uint8 xt7_27h)), (9, .P 27801), (26, .cv (.ro .t_workflowlaw55_Step p1)), (27, .I (p1.length : Int)), (28, .I xt28_27h), (40, .B xt40_39)], [(27800, .raw [.ro .t_api_Replica x25500_0, .ro .t_bool x25500_1, .I x25500_2, .I x25500_3]), (27801, .raw (d_workflowlaw55_Step (p1.getD (Int.toNat xt28_27h) z_workflowlaw55_Step)))]⟩ ∧ xt40_39 = o1)) ?_ ?_)
   ·clear h
    replace h := hp1
    obtain ⟨a4, h4, h⟩ := bind_some h
    rcases ite_some h with ⟨c4, h⟩ | ⟨c4, h⟩
    ·refine awp_post (ar L 237 [(3, false)] [(1, .B a4)] [] (cs := [PCall V P 7 [.agg (d_workflowlaw55_Step (p1.getD (Int.toNat xt28_27h) z_workflowlaw55_Step))] (.B a4), True, (!a4) = false]) (S' := ⟨[(5, .P 25500), (7, .cv (.ro .t_sl_uint8 xt7_27h)), (9, .P 234), (26, .cv (.ro .t_workflowlaw55_Step p1)), (27, .I (p1.length : Int)), (28, .I xt28_27h), (40, .B ((decide ((((p1.getD (Int.toNat xt28_27h) z_workflowlaw55_Step).Data).length : Int) > 100))))], [(234, .raw (d_workflowlaw55_Step (p1.getD (Int.toNat xt28_27h) z_workflowlaw55_Step))), (25500, .raw [.ro .t_api_Replica x25500_0, .ro .t_bool x25500_1, .I x25500_2, .I x25500_3])]⟩) (And.intro (workflowlaw55_small.ok h4) (And.intro trivial (congrArg Bool.not (c4)))) ⟨rfl, rfl⟩) (Turns.trans (Turns.kp (S' := ⟨[(5, .P 25500), (7, .cv (.ro .t_sl_uint8 xt7_27h)), (9, .P 234), (26, .cv (.ro .t_workflowlaw55_Step p1)), (27, .I (p1.length : Int)), (28, .I xt28_27h), (40, .B ((decide ((((p1.getD (Int.toNat xt28_27h) z_workflowlaw55_Step).Data).length : Int) > 100))))], [(234, .raw (d_workflowlaw55_Step (p1.getD (Int.toNat xt28_27h) z_workflowlaw55_Step))), (25500, .raw [.ro .t_api_Replica x25500_0, .ro .t_bool x25500_1, .I x25500_2, .I x25500_3])]⟩)) (Turns.trans (Turns.rn [(234, 27801), (25500, 27800)] (S' := ⟨[(5, .P 27800), (7, .cv (.ro .t_sl_uint8 xt7_27h)), (9, .P 27801), (26, .cv (.ro .t_workflowlaw55_Step p1)), (27, .I (p1.length : Int)), (28, .I xt28_27h), (40, .B ((decide ((((p1.getD (Int.toNat xt28_27h) z_workflowlaw55_Step).Data).length : Int) > 100))))], [(27801, .raw (d_workflowlaw55_Step (p1.getD (Int.toNat xt28_27h) z_workflowlaw55_Step))), (27800, .raw [.ro .t_api_Replica x25500_0, .ro .t_bool x25500_1, .I x25500_2, .I x25500_3])]⟩)) (Turns.kp (S' := ⟨[(5, .P 27800), (7, .cv (.ro .t_sl_uint8 xt7_27h)), (9, .P 27801), (26, .cv (.ro .t_workflowlaw55_Step p1)), (27, .I (p1.length : Int)), (28, .I xt28_27h), (40, .B ((decide ((((p1.getD (Int.toNat xt28_27h) z_workflowlaw55_Step).Data).length : Int) > 100))))], [(27800, .raw [.ro .t_api_Replica x25500_0, .ro .t_bool x25500_1, .I x25500_2, .I x25500_3]), (27801, .raw (d_workflowlaw55_Step (p1.getD (Int.toNat xt28_27h) z_workflowlaw55_Step)))]⟩)))) ?_
     obtain rfl := Option.some.inj h
     exact ⟨rfl, _, rfl, rfl⟩
    refine awp_post (ar L 237 [(3, true)] [(1, .B a4)] [] (cs := [PCall V P 7 [.agg (d_workflowlaw55_Step (p1.getD (Int.toNat xt28_27h) z_workflowlaw55_Step))] (.B a4), True, (!a4) = true]) (S' := ⟨[(5, .P 25500), (7, .cv (.ro .t_sl_uint8 xt7_27h)), (9, .P 234), (26, .cv (.ro .t_workflowlaw55_Step p1)), (27, .I (p1.length : Int)), (28, .I xt28_27h), (40, .B true)], [(234, .raw (d_workflowlaw55_Step (p1.getD (Int.toNat xt28_27h) z_workflowlaw55_Step))), (25500, .raw [.ro .t_api_Replica x25500_0, .ro .t_bool x25500_1, .I x25500_2, .I x25500_3])]⟩) (And.intro (workflowlaw55_small.ok h4) (And.intro trivial (congrArg Bool.not (eq_false_of_ne_true c4)))) ⟨rfl, rfl⟩) (Turns.trans (Turns.kp (S' := ⟨[(5, .P 25500), (7, .cv (.ro .t_sl_uint8 xt7_27h)), (9, .P 234), (26, .cv (.ro .t_workflowlaw55_Step p1)), (27, .I (p1.length : Int)), (28, .I xt28_27h), (40, .B true)], [(234, .raw (d_workflowlaw55_Step (p1.getD (Int.toNat xt28_27h) z_workflowlaw55_Step))), (25500, .raw [.ro .t_api_Replica x25500_0, .ro .t_bool x25500_1, .I x25500_2, .I x25500_3])]⟩)) (Turns.trans (Turns.rn [(234, 27801), (25500, 27800)] (S' := ⟨[(5, .P 27800), (7, .cv (.ro .t_sl_uint8 xt7_27h)), (9, .P 27801), (26, .cv (.ro .t_workflowlaw55_Step p1)), (27, .I (p1.length : Int)), (28, .I xt28_27h), (40, .B true)], [(27801, .raw (d_workflowlaw55_Step (p1.getD (Int.toNat xt28_27h) z_workflowlaw55_Step))), (27800, .raw [.ro .t_api_Replica x25500_0, .ro .t_bool x25500_1, .I x25500_2, .I x25500_3])]⟩)) (Turns.kp (S' := ⟨[(5, .P 27800), (7, .cv (.ro .t_sl_uint8 xt7_27h)), (9, .P 27801), (26, .cv (.ro .t_workflowlaw55_Step p1)), (27, .I (p1.length : Int)), (28, .I xt28_27h), (40, .B true)], [(27800, .raw [.ro .t_api_Replica x25500_0, .ro .t_bool x25500_1, .I x25500_2, .I x25500_3]), (27801, .raw (d_workflowlaw55_Step (p1.getD (Int.toNat xt28_27h) z_workflowlaw55_Step)))]⟩)))) ?_
    obtain rfl := Option.some.inj h
    exact ⟨rfl, _, rfl, rfl⟩
   ·rintro e S ⟨rfl, xt40_39, rfl, rfl⟩
    rcases ite_some h with ⟨c5, h⟩ | ⟨c5, h⟩
    ·refine tt (b := xt40_39) (c5) ?_
     refine awp_seq ?_
     obtain ⟨a5, h5, h⟩ := bind_some h
     refine ar L 247 [] [(0, .B a5)] [] (cs := [PCall V P 8 [] (.B a5), True]) (S' := ⟨[(4, .B a5)], []⟩) (And.intro (workflowlaw55_works.ok h5) trivial) ?_
     refine awp_ret ?_
     obtain rfl := Option.some.inj h
     exact .inr ⟨rfl, _, rfl, er (.B a5)⟩
    refine ff (b := xt40_39) (eq_false_of_ne_true c5) ?_
    refine awp_skip' ?_
    refine awp_seq ?_
    obtain ⟨a6, h6, h⟩ := bind_some h
    obtain ⟨⟨a7_0, a7_1, a7_2⟩, h7, h⟩ := bind_some h
    dsimp only at h
    refine ad L mixed 250 [] [(1, .agg (d_workflowref55_Group a6)), (3, .tup [.agg (d_group_Group a7_0), .agg (d_workflowref55_Group a7_1), .B a7_2])] [] [258, 259] 13 (cs := [PCall V P 11 [.agg [.ro .t_api_Replica x25500_0, .ro .t_bool x25500_1, .I x25500_2, .I x25500_3]] (.agg (d_workflowref55_Group a6)), True, PCall V P 9 [.agg (d_workflowref55_Group a6), .agg (d_workflowlaw55_Step (p1.getD (Int.toNat xt28_27h) z_workflowlaw55_Step))] (.tup [.agg (d_group_Group a7_0), .agg (d_workflowref55_Group a7_1), .B a7_2]), True]) (S' := ⟨[(5, .P 27800), (7, .cv (.ro .t_sl_uint8 xt7_27h)), (10, .P 258), (12, .B a7_2), (26, .cv (.ro .t_workflowlaw55_Step p1)), (27, .I (p1.length : Int)), (28, .I xt28_27h)], [(258, .raw (d_group_Group a7_0)), (27800, .raw [.ro .t_api_Replica x25500_0, .ro .t_bool x25500_1, .I x25500_2, .I x25500_3])]⟩) (And.intro (workflowlaw55_back.ok h6) (And.intro trivial (And.intro (workflowlaw55_both.ok h7) trivial))) ?_
    refine awp_seq ?_
    refine awp_seq ?_
    rcases ite_some h with ⟨c6, h⟩ | ⟨c6, h⟩
    ·obtain ⟨a8, h8, h⟩ := bind_some h
     rcases ite_some h with ⟨c7, h⟩ | ⟨c7, h⟩
     ·obtain ⟨a9, h9, h⟩ := bind_some h
      obtain ⟨a10, h10, h⟩ := bind_some h
      refine ar L 264 [(2, false), (7, false)] [(4, .B a8), (9, .agg (d_workflowref55_Group a9)), (10, .B a10)] [] (cs := [(!a7_2) = false, PCall V P 13 [.agg (d_group_Group a7_0)] (.B a8), True, (!a8) = false, PCall V P 11 [.agg (d_group_Group a7_0)] (.agg (d_workflowref55_Group a9)), True, PCall V P 14 [.agg (d_workflowref55_Group a9)] (.B a10), True]) (S' := ⟨[(5, .P 27800), (7, .cv (.ro .t_sl_uint8 xt7_27h)), (10, .P 258), (26, .cv (.ro .t_workflowlaw55_Step p1)), (27, .I (p1.length : Int)), (28, .I xt28_27h), (62, .B (!a10))], [(258, .raw (d_group_Group a7_0)), (27800, .raw [.ro .t_api_Replica x25500_0, .ro .t_bool x25500_1, .I x25500_2, .I x25500_3])]⟩) (And.intro (congrArg Bool.not (c6)) (And.intro (group_Safe.ok h8) (And.intro trivial (And.intro (congrArg Bool.not (c7)) (And.intro (workflowlaw55_back.ok h9) (And.intro trivial (And.intro (workflowref55_Right.ok h10) trivial))))))) ?_
      rcases ite_some h with ⟨c8, h⟩ | ⟨c8, h⟩
      ·refine ff (b := (!a10)) (congrArg Bool.not (c8)) ?_
       refine awp_skip' ?_
       refine awp_seq ?_
       obtain ⟨a11, h11, h⟩ := bind_some h
       refine ar L 280 [] [(1, .cv (.ro .t_sl_uint8 a11))] [] (cs := [PCall V P 15 [.agg (d_group_Group a7_0)] (.cv (.ro .t_sl_uint8 a11)), True]) (S' := ⟨[(5, .P 27800), (7, .cv (.ro .t_sl_uint8 xt7_27h)), (10, .P 258), (13, .cv (.ro .t_sl_uint8 a11)), (26, .cv (.ro .t_workflowlaw55_Step p1)), (27, .I (p1.length : Int)), (28, .I xt28_27h)], [(258, .raw (d_group_Group a7_0)), (27800, .raw [.ro .t_api_Replica x25500_0, .ro .t_bool x25500_1, .I x25500_2, .I x25500_3])]⟩) (And.intro (group_Committed.ok h11) trivial) ?_
       refine awp_seq ?_
       refine awp_seq ?_
       rcases ite_some h with ⟨c9, h⟩ | ⟨c9, h⟩
       ·refine ar L 284 [(5, true)] [] [] (cs := [(decide ((a11.length : Int) < (xt7_27h.length : Int))) = true]) (S' := ⟨[(5, .P 27800), (10, .P 258), (13, .cv (.ro .t_sl_uint8 a11)), (26, .cv (.ro .t_workflowlaw55_Step p1)), (27, .I (p1.length : Int)), (28, .I xt28_27h), (78, .B true)], [(258, .raw (d_group_Group a7_0)), (27800, .raw [.ro .t_api_Replica x25500_0, .ro .t_bool x25500_1, .I x25500_2, .I x25500_3])]⟩) (decide_eq_true c9) ?_
        refine tt (b := true) (rfl) ?_
        refine sr0 L 299 [] [] [] (S' := ⟨[(4, .B false)], []⟩) ?_
        refine awp_ret ?_
        obtain rfl := Option.some.inj h
        exact .inr ⟨rfl, _, rfl, er (.B false)⟩
       obtain ⟨g2, h⟩ := guard_some h
       obtain ⟨a12, h12, h⟩ := bind_some h
       refine ar L 284 [(5, false)] [(11, .B a12)] [] (cs := [(decide ((a11.length : Int) < (xt7_27h.length : Int))) = false, (0 : Int) ≤ 0, (0 : Int) ≤ (xt7_27h.length : Int), (xt7_27h.length : Int) ≤ (a11.length : Int), PCall V P 16 [.cv (.ro .t_sl_uint8 (slc a11 0 (xt7_27h.length : Int))), .cv (.ro .t_sl_uint8 xt7_27h)] (.B a12), True]) (S' := ⟨[(5, .P 27800), (10, .P 258), (13, .cv (.ro .t_sl_uint8 a11)), (26, .cv (.ro .t_workflowlaw55_Step p1)), (27, .I (p1.length : Int)), (28, .I xt28_27h), (78, .B (!a12))], [(258, .raw (d_group_Group a7_0)), (27800, .raw [.ro .t_api_Replica x25500_0, .ro .t_bool x25500_1, .I x25500_2, .I x25500_3])]⟩) (And.intro (decide_eq_false c9) (And.intro (Int.le_refl _) (And.intro g2.1 (And.intro g2.2 (And.intro (workflowref52_SameData.ok h12) trivial))))) ?_
       rcases ite_some h with ⟨c10, h⟩ | ⟨c10, h⟩
       ·refine ff (b := (!a12)) (congrArg Bool.not (c10)) ?_
        refine awp_skip' ?_
        refine ar0 L 301 [] [] [] (S' := ⟨[(5, .P 27800), (7, .cv (.ro .t_sl_uint8 a11)), (26, .cv (.ro .t_workflowlaw55_Step p1)), (27, .I (p1.length : Int)), (28, .I xt28_27h)], [(27800, .raw (d_group_Group a7_0))]⟩) ?_
        refine awp_post (ar0 L 306 [] [] [] (S' := ⟨[(5, .P 27800), (7, .cv (.ro .t_sl_uint8 a11)), (26, .cv (.ro .t_workflowlaw55_Step p1)), (27, .I (p1.length : Int)), (28, .I (IntKind.i64.wrap (xt28_27h + 1)))], [(27800, .raw (d_group_Group a7_0))]⟩) ⟨rfl, rfl⟩) (Turns.trans (Turns.kp (S' := ⟨[(5, .P 27800), (7, .cv (.ro .t_sl_uint8 a11)), (26, .cv (.ro .t_workflowlaw55_Step p1)), (27, .I (p1.length : Int)), (28, .I (IntKind.i64.wrap (xt28_27h + 1)))], [(27800, .raw (d_group_Group a7_0))]⟩)) (Turns.trans (Turns.rn [(27800, 25500)] (S' := ⟨[(5, .P 25500), (7, .cv (.ro .t_sl_uint8 a11)), (26, .cv (.ro .t_workflowlaw55_Step p1)), (27, .I (p1.length : Int)), (28, .I (IntKind.i64.wrap (xt28_27h + 1)))], [(25500, .raw (d_group_Group a7_0))]⟩)) (Turns.kp (S' := ⟨[(5, .P 25500), (7, .cv (.ro .t_sl_uint8 a11)), (26, .cv (.ro .t_workflowlaw55_Step p1)), (27, .I (p1.length : Int)), (28, .I (IntKind.i64.wrap (xt28_27h + 1)))], [(25500, .raw (d_group_Group a7_0))]⟩)))) ?_
        exact ⟨k, Nat.lt_succ_self k, _, _, _, _, _, _, rfl, h⟩
       refine tt (b := (!a12)) (congrArg Bool.not (eq_false_of_ne_true c10)) ?_
       refine sr0 L 299 [] [] [] (S' := ⟨[(4, .B false)], []⟩) ?_
       refine awp_ret ?_
       obtain rfl := Option.some.inj h
       exact .inr ⟨rfl, _, rfl, er (.B false)⟩
      refine tt (b := (!a10)) (congrArg Bool.not (eq_false_of_ne_true c8)) ?_
      refine sr0 L 278 [] [] [] (S' := ⟨[(4, .B false)], []⟩) ?_
      refine awp_ret ?_
      obtain rfl := Option.some.inj h
      exact .inr ⟨rfl, _, rfl, er (.B false)⟩
     refine ar L 264 [(2, false), (7, true)] [(4, .B a8)] [] (cs := [(!a7_2) = false, PCall V P 13 [.agg (d_group_Group a7_0)] (.B a8), True, (!a8) = true]) (S' := ⟨[(5, .P 27800), (7, .cv (.ro .t_sl_uint8 xt7_27h)), (10, .P 258), (26, .cv (.ro .t_workflowlaw55_Step p1)), (27, .I (p1.length : Int)), (28, .I xt28_27h), (62, .B true)], [(258, .raw (d_group_Group a7_0)), (27800, .raw [.ro .t_api_Replica x25500_0, .ro .t_bool x25500_1, .I x25500_2, .I x25500_3])]⟩) (And.intro (congrArg Bool.not (c6)) (And.intro (group_Safe.ok h8) (And.intro trivial (congrArg Bool.not (eq_false_of_ne_true c7))))) ?_
     refine tt (b := true) (rfl) ?_
     refine sr0 L 278 [] [] [] (S' := ⟨[(4, .B false)], []⟩) ?_
     refine awp_ret ?_
     obtain rfl := Option.some.inj h
     exact .inr ⟨rfl, _, rfl, er (.B false)⟩
    refine ar L 264 [(2, true)] [] [] (cs := [(!a7_2) = true]) (S' := ⟨[(5, .P 27800), (7, .cv (.ro .t_sl_uint8 xt7_27h)), (10, .P 258), (26, .cv (.ro .t_workflowlaw55_Step p1)), (27, .I (p1.length : Int)), (28, .I xt28_27h), (62, .B true)], [(258, .raw (d_group_Group a7_0)), (27800, .raw [.ro .t_api_Replica x25500_0, .ro .t_bool x25500_1, .I x25500_2, .I x25500_3])]⟩) (congrArg Bool.not (eq_false_of_ne_true c6)) ?_
    refine tt (b := true) (rfl) ?_
    refine sr0 L 278 [] [] [] (S' := ⟨[(4, .B false)], []⟩) ?_
    refine awp_ret ?_
    obtain rfl := Option.some.inj h
    exact .inr ⟨rfl, _, rfl, er (.B false)⟩
  refine ff (b := (decide (xt28_27h < (p1.length : Int)))) (decide_eq_false c3) ?_
  refine ex (S' := ⟨[], []⟩) ?_
  obtain rfl := Option.some.inj h
  exact .inl ⟨rfl, rfl, rfl⟩
 ·rintro e S (⟨rfl, rfl, rfl⟩ | ⟨rfl, a, rfl, hr⟩)
  ·rcases h with ⟨_, e1, h⟩ | ⟨_, e1, h⟩
   ·cases e1
   ·have e2 := Out.go.inj e1
    subst e2
    refine ⟨_, Turns.refl, ?_⟩
    refine awp_seq ?_
    obtain ⟨a13, h13, h⟩ := bind_some h
    refine ar L 309 [] [(0, .B a13)] [] (cs := [PCall V P 8 [] (.B a13), True]) (S' := ⟨[(4, .B a13)], []⟩) (And.intro (workflowlaw55_works.ok h13) trivial) ?_
    refine awp_ret ?_
    obtain rfl := Option.some.inj h
    exact er (.B a13)
  ·rcases h with ⟨_, e1, h⟩ | ⟨_, e1, h⟩
   ·have e2 := Out.done.inj e1
    subst e2
    subst h
    exact ⟨_, Turns.refl, hr⟩
   ·cases e1
theorem workflowlaw55_GroupSafe.ok {K : Nat} {p0 : Int} {p1 : List workflowlaw55_Step} {r : Bool} (h : workflowlaw55_GroupSafe K p0 p1 = some r) : PCall V P 5 [.I p0, .cv (.ro .t_workflowlaw55_Step p1)] (.B r) := ECall.pcall (eo (fn := Tryz.f5) (n := 83) (m := 100) fun Γ => workflowlaw55_GroupSafe.body h) (by kernel_rfl)
end Go.Proofs.YtmafcdkdcfaajaaGreat
