/- What functions of the program compute, as Lean functions, and that they compute it. -/
import Derived.Test.YtmafcdkdcfaajaaGreatFn2
set_option linter.unusedVariables false
set_option maxHeartbeats 0
namespace Go.Proofs.YtmafcdkdcfaajaaGreat
open Eng
def group_Propose (K : Nat) (p0 : group_Group) (p1 : Int) (p2 : Int) (p3 : List UInt8) (p4 : List Int) : Option (group_Group × Int × Bool × Int) := (Option.bind (group_Group_leads K p0 p1 p2 p4) (fun a1 => (if a1 ≠ 0 then some ((⟨([] : List aRep), ([] : List Bool), 0, 0⟩ : group_Group), 0, false, a1) else (if (0 : Int) ≤ p1 ∧ (p1 : Int) < (p0.Replicas.length : Int) then (Option.bind (replog_Lead K (p0.Replicas.getD (Int.toNat p1) z_aRep) p2 p3) (fun (a2_0, a2_1) => (if a2_1 ≠ 0 then some ((⟨([] : List aRep), ([] : List Bool), 0, 0⟩ : group_Group), 0, false, a2_1) else (Option.bind (group_Group_clone_v2 K p0) (fun (a3_0, a3_1) => (if (p1 : Int) < (a3_1.length : Int) then (if (Int.toNat p1) < a3_1.length then (Option.bind (group_Group_replicate_v2 K a3_0 p0.Leader p0.Epoch p1 p4 (a3_1.set (Int.toNat p1) a2_0)) (fun a4 => (if (p1 : Int) < (a4.length : Int) then (if (Int.toNat p1) < a4.length then some (((⟨a4, a3_0, p0.Leader, p0.Epoch⟩ : group_Group), (((a4.getD (Int.toNat p1) z_aRep).Log).length : Int), (decide ((a4.getD (Int.toNat p1) z_aRep).Commit = (((a4.getD (Int.toNat p1) z_aRep).Log).length : Int))), 0)) else none) else none))) else none) else none)))))) else none))))
theorem group_Propose.body {Γ : Ent} {K : Nat} {p0 : group_Group} {p1 : Int} {p2 : Int} {p3 : List UInt8} {p4 : List Int} {r : group_Group × Int × Bool × Int} (h : group_Propose K p0 p1 p2 p3 p4 = some r) : AWp V P 70 100 Γ (Tryz.f12.body.getD .skip) (EndsE P V Tryz.f12 (.tup [.agg [.ro .t_aRep r.1.Replicas, .ro .t_bool r.1.Up, .I r.1.Leader, .I r.1.Epoch], .I r.2.1, .B r.2.2.1, .I r.2.2.2]) []) ⟨args0 0 [.agg (d_group_Group p0), .I p1, .I p2, .cv (.ro .t_uint8 p3), .cv (.ro .t_int p4)], []⟩ := by
 unfold group_Propose at h
 refine sr0 L 200 [] [] [] (S' := ⟨[(1, .I p1), (2, .I p2), (3, .cv (.ro .t_uint8 p3)), (4, .cv (.ro .t_int p4)), (5, .P 200), (10, .P 201)], [(200, .raw (d_group_Group p0)), (201, .raw [.N, .N, .I 0, .I 0])]⟩) ?_
 refine awp_seq ?_
 refine awp_seq ?_
 obtain ⟨a1, h1, h⟩ := bind_some h
 refine ar L 206 [] [(4, .I a1)] [] (cs := [PCall V P 28 [.agg (d_group_Group p0), .I p1, .I p2, .cv (.ro .t_int p4)] (.I a1), True]) (S' := ⟨[(1, .I p1), (2, .I p2), (3, .cv (.ro .t_uint8 p3)), (4, .cv (.ro .t_int p4)), (5, .P 200), (10, .P 201), (14, .I a1)], [(200, .raw (d_group_Group p0)), (201, .raw [.N, .N, .I 0, .I 0])]⟩) (And.intro (group_Group_leads.ok h1) trivial) ?_
 refine sr0 L 213 [] [] [] (S' := ⟨[(1, .I p1), (2, .I p2), (3, .cv (.ro .t_uint8 p3)), (4, .cv (.ro .t_int p4)), (5, .P 200), (10, .P 201), (14, .I a1), (24, .B (decide (a1 ≠ 0)))], [(200, .raw (d_group_Group p0)), (201, .raw [.N, .N, .I 0, .I 0])]⟩) ?_
 rcases ite_some h with ⟨c1, h⟩ | ⟨c1, h⟩
 ·refine tt (b := (decide (a1 ≠ 0))) (decide_eq_true c1) ?_
  refine sr0 L 216 [] [] [] (S' := ⟨[(10, .P 201), (11, .I 0), (12, .B false), (13, .I a1)], [(201, .raw [.N, .N, .I 0, .I 0])]⟩) ?_
  refine awp_turn (Turns.rn [(201, 100)] (S' := ⟨[(10, .P 100), (11, .I 0), (12, .B false), (13, .I a1)], [(100, .raw [.N, .N, .I 0, .I 0])]⟩)) ?_
  refine awp_ret ?_
  obtain rfl := Option.some.inj h
  exact er (.tup [.agg [.N, .N, .I 0, .I 0], .I 0, .B false, .I a1])
 refine ff (b := (decide (a1 ≠ 0))) (decide_eq_false c1) ?_
 refine awp_skip' ?_
 refine awp_seq ?_
 obtain ⟨g1, h⟩ := guard_some h
 obtain ⟨⟨a2_0, a2_1⟩, h2, h⟩ := bind_some h
 dsimp only at h
 refine ar L 223 [] [(7, .tup [.agg (d_aRep a2_0), .I a2_1])] [] (cs := [(0 : Int) ≤ p1, (p1 : Int) < (p0.Replicas.length : Int), PCall V P 29 [.agg (d_aRep (p0.Replicas.getD (Int.toNat p1) z_aRep)), .I p2, .cv (.ro .t_uint8 p3)] (.tup [.agg (d_aRep a2_0), .I a2_1]), True]) (S' := ⟨[(1, .I p1), (4, .cv (.ro .t_int p4)), (5, .P 200), (10, .P 201), (15, .P 234), (16, .I a2_1)], [(200, .raw (d_group_Group p0)), (201, .raw [.N, .N, .I 0, .I 0]), (234, .raw (d_aRep a2_0))]⟩) (And.intro g1.1 (And.intro g1.2 (And.intro (replog_Lead.ok h2) trivial))) ?_
 refine awp_seq ?_
 refine sr0 L 238 [] [] [] (S' := ⟨[(1, .I p1), (4, .cv (.ro .t_int p4)), (5, .P 200), (10, .P 201), (15, .P 234), (16, .I a2_1), (39, .B (decide (a2_1 ≠ 0)))], [(200, .raw (d_group_Group p0)), (201, .raw [.N, .N, .I 0, .I 0]), (234, .raw (d_aRep a2_0))]⟩) ?_
 rcases ite_some h with ⟨c2, h⟩ | ⟨c2, h⟩
 ·refine tt (b := (decide (a2_1 ≠ 0))) (decide_eq_true c2) ?_
  refine sr0 L 241 [] [] [] (S' := ⟨[(10, .P 201), (11, .I 0), (12, .B false), (13, .I a2_1)], [(201, .raw [.N, .N, .I 0, .I 0])]⟩) ?_
  refine awp_turn (Turns.rn [(201, 100)] (S' := ⟨[(10, .P 100), (11, .I 0), (12, .B false), (13, .I a2_1)], [(100, .raw [.N, .N, .I 0, .I 0])]⟩)) ?_
  refine awp_ret ?_
  obtain rfl := Option.some.inj h
  exact er (.tup [.agg [.N, .N, .I 0, .I 0], .I 0, .B false, .I a2_1])
 refine ff (b := (decide (a2_1 ≠ 0))) (decide_eq_false c2) ?_
 refine awp_skip' ?_
 refine awp_seq ?_
 obtain ⟨⟨a3_0, a3_1⟩, h3, h⟩ := bind_some h
 dsimp only at h
 refine ar L 248 [] [] [(1, { hids := [], fx := [], r := .agg [.own .t_aRep 100, .ro .t_bool a3_0, .I p0.Leader, .I p0.Epoch], H' := [(100, .lst .t_aRep a3_1)], σ := [(100, 5392)] })] (cs := [ECall V P 30 [.agg (d_group_Group p0)] [] [] (.agg [.own .t_aRep 100, .ro .t_bool a3_0, .I p0.Leader, .I p0.Epoch]) [(100, .lst .t_aRep a3_1)]]) (S' := ⟨[(1, .I p1), (4, .cv (.ro .t_int p4)), (5, .P 200), (10, .P 201), (15, .P 234)], [(200, .raw [.own .t_aRep 5392, .ro .t_bool a3_0, .I p0.Leader, .I p0.Epoch]), (201, .raw [.N, .N, .I 0, .I 0]), (234, .raw (d_aRep a2_0)), (5392, .lst .t_aRep a3_1)]⟩) (group_Group_clone_v2.okE h3) ?_
 refine awp_seq ?_
 obtain ⟨g2, h⟩ := guard_some h
 obtain ⟨g3, h⟩ := guard_some h
 refine ar L 252 [] [] [] (cs := [(0 : Int) ≤ p1, (p1 : Int) < (a3_1.length : Int), (Int.toNat p1) < a3_1.length, True]) (S' := ⟨[(1, .I p1), (4, .cv (.ro .t_int p4)), (5, .P 200), (10, .P 201)], [(200, .raw [.own .t_aRep 5392, .ro .t_bool a3_0, .I p0.Leader, .I p0.Epoch]), (201, .raw [.N, .N, .I 0, .I 0]), (5392, .lst .t_aRep (a3_1.set (Int.toNat p1) a2_0))]⟩) (And.intro g1.1 (And.intro g2 (And.intro g3 trivial))) ?_
 refine awp_seq ?_
 obtain ⟨a4, h4, h⟩ := bind_some h
 refine ar L 259 [] [] [(3, { hids := [0], fx := [0], r := .tup [], H' := [(0, .lst .t_aRep a4)], σ := [(0, 5392)] })] (cs := [ECall V P 31 [.agg [.own .t_aRep 0, .ro .t_bool a3_0, .I p0.Leader, .I p0.Epoch], .I p1, .cv (.ro .t_int p4)] [(0, .lst .t_aRep (a3_1.set (Int.toNat p1) a2_0))] [0] (.tup []) [(0, .lst .t_aRep a4)]]) (S' := ⟨[(1, .I p1), (5, .P 200), (10, .P 201)], [(200, .raw [.own .t_aRep 5392, .ro .t_bool a3_0, .I p0.Leader, .I p0.Epoch]), (201, .raw [.N, .N, .I 0, .I 0]), (5392, .lst .t_aRep a4)]⟩) (group_Group_replicate_v2.okE h4) ?_
 refine awp_seq ?_
 obtain ⟨g4, h⟩ := guard_some h
 obtain ⟨g5, h⟩ := guard_some h
 refine ar L 264 [] [] [] (cs := [(0 : Int) ≤ p1, (p1 : Int) < (a4.length : Int), (Int.toNat p1) < a4.length]) (S' := ⟨[(1, .I p1), (5, .P 200), (10, .P 201), (17, .I (((a4.getD (Int.toNat p1) z_aRep).Log).length : Int))], [(200, .raw [.own .t_aRep 5392, .ro .t_bool a3_0, .I p0.Leader, .I p0.Epoch]), (201, .raw [.N, .N, .I 0, .I 0]), (5392, .lst .t_aRep a4)]⟩) (And.intro g1.1 (And.intro g4 g5)) ?_
 refine sd L mixed 273 [] [] [] [201] 14 (cs := [(0 : Int) ≤ p1, (p1 : Int) < (a4.length : Int), (Int.toNat p1) < a4.length]) (S' := ⟨[(10, .P 201), (11, .I (((a4.getD (Int.toNat p1) z_aRep).Log).length : Int)), (12, .B ((decide ((a4.getD (Int.toNat p1) z_aRep).Commit = (((a4.getD (Int.toNat p1) z_aRep).Log).length : Int))))), (13, .I 0)], [(201, .raw [.own .t_aRep 5392, .ro .t_bool a3_0, .I p0.Leader, .I p0.Epoch]), (5392, .lst .t_aRep a4)]⟩) (And.intro g1.1 (And.intro g4 g5)) ?_
 refine awp_turn (Turns.trans (Turns.frz 5392 (blk0 := .lst .t_aRep a4) (by kernel_rfl) (by kernel_rfl) (S' := ⟨[(10, .P 201), (11, .I (((a4.getD (Int.toNat p1) z_aRep).Log).length : Int)), (12, .B ((decide ((a4.getD (Int.toNat p1) z_aRep).Commit = (((a4.getD (Int.toNat p1) z_aRep).Log).length : Int))))), (13, .I 0)], [(201, .raw [.ro .t_aRep a4, .ro .t_bool a3_0, .I p0.Leader, .I p0.Epoch])]⟩) (by kernel_rfl)) (Turns.rn [(201, 100)] (S' := ⟨[(10, .P 100), (11, .I (((a4.getD (Int.toNat p1) z_aRep).Log).length : Int)), (12, .B ((decide ((a4.getD (Int.toNat p1) z_aRep).Commit = (((a4.getD (Int.toNat p1) z_aRep).Log).length : Int))))), (13, .I 0)], [(100, .raw [.ro .t_aRep a4, .ro .t_bool a3_0, .I p0.Leader, .I p0.Epoch])]⟩))) ?_
 refine awp_ret ?_
 obtain rfl := Option.some.inj h
 exact er (.tup [.agg [.ro .t_aRep a4, .ro .t_bool a3_0, .I p0.Leader, .I p0.Epoch], .I (((a4.getD (Int.toNat p1) z_aRep).Log).length : Int), .B ((decide ((a4.getD (Int.toNat p1) z_aRep).Commit = (((a4.getD (Int.toNat p1) z_aRep).Log).length : Int)))), .I 0])
theorem group_Propose.okE {K : Nat} {p0 : group_Group} {p1 : Int} {p2 : Int} {p3 : List UInt8} {p4 : List Int} {r : group_Group × Int × Bool × Int} (h : group_Propose K p0 p1 p2 p3 p4 = some r) : ECall V P 12 [.agg (d_group_Group p0), .I p1, .I p2, .cv (.ro .t_uint8 p3), .cv (.ro .t_int p4)] [] [] (.tup [.agg [.ro .t_aRep r.1.Replicas, .ro .t_bool r.1.Up, .I r.1.Leader, .I r.1.Epoch], .I r.2.1, .B r.2.2.1, .I r.2.2.2]) [] :=
 eo (fn := Tryz.f12) (n := 70) (m := 100) fun Γ => group_Propose.body h
theorem group_Propose.ok {K : Nat} {p0 : group_Group} {p1 : Int} {p2 : Int} {p3 : List UInt8} {p4 : List Int} {r : group_Group × Int × Bool × Int} (h : group_Propose K p0 p1 p2 p3 p4 = some r) : PCall V P 12 [.agg (d_group_Group p0), .I p1, .I p2, .cv (.ro .t_uint8 p3), .cv (.ro .t_int p4)] (.tup [.agg [.ro .t_aRep r.1.Replicas, .ro .t_bool r.1.Up, .I r.1.Leader, .I r.1.Epoch], .I r.2.1, .B r.2.2.1, .I r.2.2.2]) := (group_Propose.okE h).pcall (by kernel_rfl)
def wr55_fenced.l15 (K : Nat) (p0 : wr55_Group) (p2 : Int) (p3 : List Bool) : Nat → Int → Option (Out Bool Unit)
 | 0, _ => none
 | k + 1, xt9_15h => (if xt9_15h < (p3.length : Int) then (if (0 : Int) ≤ xt9_15h ∧ (xt9_15h : Int) < (p3.length : Int) then (if (p3.getD (Int.toNat xt9_15h) false) = true then (if (xt9_15h : Int) < (p0.Replicas.length : Int) then (if (p0.Replicas.getD (Int.toNat xt9_15h) z_aRep).Epoch > p2 then some (Out.done true) else wr55_fenced.l15 K p0 p2 p3 k (IntKind.i64.wrap (xt9_15h + 1))) else none) else wr55_fenced.l15 K p0 p2 p3 k (IntKind.i64.wrap (xt9_15h + 1))) else none) else some (Out.go ()))
def wr55_fenced (K : Nat) (p0 : wr55_Group) (p1 : Int) (p2 : Int) (p3 : List Bool) : Option Bool := (if p1 ≠ p0.Leader then some true else (if p2 ≠ p0.Epoch then some true else (if (0 : Int) ≤ p1 ∧ (p1 : Int) < (p0.Replicas.length : Int) then (if (p0.Replicas.getD (Int.toNat p1) z_aRep).Epoch ≠ p2 then some true else (obind (wr55_fenced.l15 K p0 p2 p3 K 0 : Option (Out Bool Unit)) (fun r => r) (fun _ => some false))) else none)))
theorem wr55_fenced.body {Γ : Ent} {K : Nat} {p0 : wr55_Group} {p1 : Int} {p2 : Int} {p3 : List Bool} {r : Bool} (h : wr55_fenced K p0 p1 p2 p3 = some r) : AWp V P 50 100 Γ (Tryz.f49.body.getD .skip) (EndsE P V Tryz.f49 (.B r) []) ⟨args0 0 [.agg (d_wr55_Group p0), .I p1, .I p2, .cv (.ro .t_bool p3)], []⟩ := by
 unfold wr55_fenced at h
 refine sr0 L 200 [] [] [] (S' := ⟨[(1, .I p1), (2, .I p2), (3, .cv (.ro .t_bool p3)), (4, .P 200)], [(200, .raw (d_wr55_Group p0))]⟩) ?_
 refine awp_seq ?_
 refine awp_seq ?_
 rcases ite_some h with ⟨c1, h⟩ | ⟨c1, h⟩
 ·refine ar L 203 [(4, true)] [] [] (cs := [(decide (p1 ≠ p0.Leader)) = true]) (S' := ⟨[(2, .I p2), (3, .cv (.ro .t_bool p3)), (4, .P 200), (29, .B true)], [(200, .raw (d_wr55_Group p0))]⟩) (decide_eq_true c1) ?_
  refine tt (b := true) (rfl) ?_
  refine sr0 L 224 [] [] [] (S' := ⟨[(8, .B true)], []⟩) ?_
  refine awp_ret ?_
  obtain rfl := Option.some.inj h
  exact er (.B true)
 rcases ite_some h with ⟨c2, h⟩ | ⟨c2, h⟩
 ·refine ar L 203 [(4, false), (10, true)] [] [] (cs := [(decide (p1 ≠ p0.Leader)) = false, (decide (p2 ≠ p0.Epoch)) = true]) (S' := ⟨[(2, .I p2), (3, .cv (.ro .t_bool p3)), (4, .P 200), (29, .B true)], [(200, .raw (d_wr55_Group p0))]⟩) (And.intro (decide_eq_false c1) (decide_eq_true c2)) ?_
  refine tt (b := true) (rfl) ?_
  refine sr0 L 224 [] [] [] (S' := ⟨[(8, .B true)], []⟩) ?_
  refine awp_ret ?_
  obtain rfl := Option.some.inj h
  exact er (.B true)
 obtain ⟨g1, h⟩ := guard_some h
 refine ar L 203 [(4, false), (10, false)] [] [] (cs := [(decide (p1 ≠ p0.Leader)) = false, (decide (p2 ≠ p0.Epoch)) = false, (0 : Int) ≤ p1, (p1 : Int) < (p0.Replicas.length : Int)]) (S' := ⟨[(2, .I p2), (3, .cv (.ro .t_bool p3)), (4, .P 200), (29, .B (decide ((p0.Replicas.getD (Int.toNat p1) z_aRep).Epoch ≠ p2)))], [(200, .raw (d_wr55_Group p0))]⟩) (And.intro (decide_eq_false c1) (And.intro (decide_eq_false c2) (And.intro g1.1 g1.2))) ?_
 rcases ite_some h with ⟨c3, h⟩ | ⟨c3, h⟩
 ·refine tt (b := (decide ((p0.Replicas.getD (Int.toNat p1) z_aRep).Epoch ≠ p2))) (decide_eq_true c3) ?_
  refine sr0 L 224 [] [] [] (S' := ⟨[(8, .B true)], []⟩) ?_
  refine awp_ret ?_
  obtain rfl := Option.some.inj h
  exact er (.B true)
 refine ff (b := (decide ((p0.Replicas.getD (Int.toNat p1) z_aRep).Epoch ≠ p2))) (decide_eq_false c3) ?_
 refine awp_skip' ?_
 refine awp_seq ?_
 refine sr0 L 226 [] [] [] (S' := ⟨[(2, .I p2), (3, .cv (.ro .t_bool p3)), (4, .P 200), (9, .I 0)], [(200, .raw (d_wr55_Group p0))]⟩) ?_
 refine awp_block ?_
 refine awp_turn (Turns.trans (Turns.kp (S' := ⟨[(2, .I p2), (3, .cv (.ro .t_bool p3)), (4, .P 200), (9, .I 0)], [(200, .raw (d_wr55_Group p0))]⟩)) (Turns.rn [(200, 23100)] (S' := ⟨[(2, .I p2), (3, .cv (.ro .t_bool p3)), (4, .P 23100), (9, .I 0)], [(23100, .raw (d_wr55_Group p0))]⟩))) ?_
 refine kp (S' := ⟨[(2, .I p2), (3, .cv (.ro .t_bool p3)), (4, .P 23100), (9, .I 0)], [(23100, .raw (d_wr55_Group p0))]⟩) ?_
 obtain ⟨o1, hp1, h⟩ := obind_some h
 refine awp_conseq (Q' := fun e S => (e = .exit 0 ∧ S = ⟨[], []⟩ ∧ Out.go () = o1) ∨ (e = .ret ∧ ∃ a, Out.done a = o1 ∧ EndsE P V Tryz.f49 (.B a) [] .ret S)) (awp_loop (fun k S => ∃ xt9_15h : Int, S = ⟨[(2, .I p2), (3, .cv (.ro .t_bool p3)), (4, .P 23100), (9, .I xt9_15h)], [(23100, .raw (d_wr55_Group p0))]⟩ ∧ wr55_fenced.l15 K p0 p2 p3 k xt9_15h = some o1) ?_ ⟨_, rfl, hp1⟩) ?_
 ·clear h hp1
  intro k S hS
  obtain ⟨xt9_15h, rfl, h⟩ := hS
  cases k with
  | zero => cases h
  | succ k =>
  unfold wr55_fenced.l15 at h
  refine awp_seq ?_
  refine sr0 L 228 [] [] [] (S' := ⟨[(2, .I p2), (3, .cv (.ro .t_bool p3)), (4, .P 23100), (9, .I xt9_15h), (33, .B (decide (xt9_15h < (p3.length : Int))))], [(23100, .raw (d_wr55_Group p0))]⟩) ?_
  rcases ite_some h with ⟨c4, h⟩ | ⟨c4, h⟩
  ·refine tt (b := (decide (xt9_15h < (p3.length : Int)))) (decide_eq_true c4) ?_
   refine awp_skip' ?_
   refine awp_seq ?_
   refine awp_block ?_
   refine awp_seq ?_
   obtain ⟨g2, h⟩ := guard_some h
   rcases ite_some h with ⟨c5, h⟩ | ⟨c5, h⟩
   ·obtain ⟨g3, h⟩ := guard_some h
    refine ar L 233 [(4, true)] [] [] (cs := [(0 : Int) ≤ xt9_15h, (xt9_15h : Int) < (p3.length : Int), (p3.getD (Int.toNat xt9_15h) false) = true, (0 : Int) ≤ xt9_15h, (xt9_15h : Int) < (p0.Replicas.length : Int)]) (S' := ⟨[(2, .I p2), (3, .cv (.ro .t_bool p3)), (4, .P 23100), (9, .I xt9_15h), (49, .B (decide ((p0.Replicas.getD (Int.toNat xt9_15h) z_aRep).Epoch > p2)))], [(23100, .raw (d_wr55_Group p0))]⟩) (And.intro g2.1 (And.intro g2.2 (And.intro c5 (And.intro g2.1 g3)))) ?_
    rcases ite_some h with ⟨c6, h⟩ | ⟨c6, h⟩
    ·refine tt (b := (decide ((p0.Replicas.getD (Int.toNat xt9_15h) z_aRep).Epoch > p2))) (decide_eq_true c6) ?_
     refine sr0 L 248 [] [] [] (S' := ⟨[(8, .B true)], []⟩) ?_
     refine awp_ret ?_
     obtain rfl := Option.some.inj h
     exact .inr ⟨rfl, _, rfl, er (.B true)⟩
    refine ff (b := (decide ((p0.Replicas.getD (Int.toNat xt9_15h) z_aRep).Epoch > p2))) (decide_eq_false c6) ?_
    refine awp_skip' ?_
    refine ar0 L 250 [] [] [] (S' := ⟨[(2, .I p2), (3, .cv (.ro .t_bool p3)), (4, .P 23100), (9, .I (IntKind.i64.wrap (xt9_15h + 1)))], [(23100, .raw (d_wr55_Group p0))]⟩) ?_
    exact ⟨k, Nat.lt_succ_self k, _, rfl, h⟩
   refine ar L 233 [(4, false)] [] [] (cs := [(0 : Int) ≤ xt9_15h, (xt9_15h : Int) < (p3.length : Int), (p3.getD (Int.toNat xt9_15h) false) = false]) (S' := ⟨[(2, .I p2), (3, .cv (.ro .t_bool p3)), (4, .P 23100), (9, .I xt9_15h), (49, .B false)], [(23100, .raw (d_wr55_Group p0))]⟩) (And.intro g2.1 (And.intro g2.2 (eq_false_of_ne_true c5))) ?_
   refine ff (b := false) (rfl) ?_
   refine awp_skip' ?_
   refine ar0 L 250 [] [] [] (S' := ⟨[(2, .I p2), (3, .cv (.ro .t_bool p3)), (4, .P 23100), (9, .I (IntKind.i64.wrap (xt9_15h + 1)))], [(23100, .raw (d_wr55_Group p0))]⟩) ?_
   exact ⟨k, Nat.lt_succ_self k, _, rfl, h⟩
  refine ff (b := (decide (xt9_15h < (p3.length : Int)))) (decide_eq_false c4) ?_
  refine ex (S' := ⟨[], []⟩) ?_
  obtain rfl := Option.some.inj h
  exact .inl ⟨rfl, rfl, rfl⟩
 ·rintro e S (⟨rfl, rfl, rfl⟩ | ⟨rfl, a, rfl, hr⟩)
  ·rcases h with ⟨_, e1, h⟩ | ⟨_, e1, h⟩
   ·cases e1
   ·have e2 := Out.go.inj e1
    subst e2
    refine ⟨_, Turns.refl, ?_⟩
    refine sr0 L 254 [] [] [] (S' := ⟨[(8, .B false)], []⟩) ?_
    refine awp_ret ?_
    obtain rfl := Option.some.inj h
    exact er (.B false)
  ·rcases h with ⟨_, e1, h⟩ | ⟨_, e1, h⟩
   ·have e2 := Out.done.inj e1
    subst e2
    subst h
    exact ⟨_, Turns.refl, hr⟩
   ·cases e1
theorem wr55_fenced.ok {K : Nat} {p0 : wr55_Group} {p1 : Int} {p2 : Int} {p3 : List Bool} {r : Bool} (h : wr55_fenced K p0 p1 p2 p3 = some r) : PCall V P 49 [.agg (d_wr55_Group p0), .I p1, .I p2, .cv (.ro .t_bool p3)] (.B r) := ECall.pcall (eo (fn := Tryz.f49) (n := 50) (m := 100) fun Γ => wr55_fenced.body h) (by kernel_rfl)
def wr52_Lead (K : Nat) (p0 : aRep) (p1 : Int) (p2 : List UInt8) : Option (aRep × Int) := (Option.bind (wr52_Right K p0) (fun a1 => (if a1 = true then (if p1 < 1 then some ((⟨0, 0, 0, ([] : List aEnt)⟩ : aRep), 2) else (if (p2.length : Int) > 65536 then some ((⟨0, 0, 0, ([] : List aEnt)⟩ : aRep), 6) else (if p1 ≠ p0.Epoch then some ((⟨0, 0, 0, ([] : List aEnt)⟩ : aRep), 25) else (if (p0.Log.length : Int) ≥ 5000 then some ((⟨0, 0, 0, ([] : List aEnt)⟩ : aRep), 18) else (if p0.Log.length * 32 ≤ 140737488355328 then (if (p0.Log.length + ([(⟨p1, p2⟩ : aEnt)] : List aEnt).length) * 32 ≤ 140737488355328 then some ((⟨p0.Epoch, p0.Vote, p0.Commit, (p0.Log ++ ([(⟨p1, p2⟩ : aEnt)] : List aEnt))⟩ : aRep), 0) else none) else none))))) else some ((⟨0, 0, 0, ([] : List aEnt)⟩ : aRep), 2))))
theorem wr52_Lead.body {Γ : Ent} {K : Nat} {p0 : aRep} {p1 : Int} {p2 : List UInt8} {r : aRep × Int} (h : wr52_Lead K p0 p1 p2 = some r) : AWp V P 53 100 Γ (Tryz.f50.body.getD .skip) (EndsE P V Tryz.f50 (.tup [.agg [.I r.1.Epoch, .I r.1.Vote, .I r.1.Commit, .ro .t_aEnt r.1.Log], .I r.2]) []) ⟨args0 0 [.agg (d_aRep p0), .I p1, .cv (.ro .t_uint8 p2)], []⟩ := by
 unfold wr52_Lead at h
 refine sr0 L 200 [] [] [] (S' := ⟨[(1, .I p1), (2, .cv (.ro .t_uint8 p2)), (3, .P 200), (6, .P 201)], [(200, .raw (d_aRep p0)), (201, .raw [.I 0, .I 0, .I 0, .N])]⟩) ?_
 refine awp_seq ?_
 refine awp_seq ?_
 obtain ⟨a1, h1, h⟩ := bind_some h
 rcases ite_some h with ⟨c1, h⟩ | ⟨c1, h⟩
 ·refine ar L 204 [(3, false)] [(1, .B a1)] [] (cs := [PCall V P 33 [.agg (d_aRep p0)] (.B a1), True, (!a1) = false]) (S' := ⟨[(1, .I p1), (2, .cv (.ro .t_uint8 p2)), (3, .P 200), (6, .P 201), (15, .B (decide (p1 < 1)))], [(200, .raw (d_aRep p0)), (201, .raw [.I 0, .I 0, .I 0, .N])]⟩) (And.intro (wr52_Right.ok h1) (And.intro trivial (congrArg Bool.not (c1)))) ?_
  rcases ite_some h with ⟨c2, h⟩ | ⟨c2, h⟩
  ·refine tt (b := (decide (p1 < 1))) (decide_eq_true c2) ?_
   refine sr0 L 212 [] [] [] (S' := ⟨[(6, .P 201), (7, .I 2)], [(201, .raw [.I 0, .I 0, .I 0, .N])]⟩) ?_
   refine awp_turn (Turns.rn [(201, 100)] (S' := ⟨[(6, .P 100), (7, .I 2)], [(100, .raw [.I 0, .I 0, .I 0, .N])]⟩)) ?_
   refine awp_ret ?_
   obtain rfl := Option.some.inj h
   exact er (.tup [.agg [.I 0, .I 0, .I 0, .N], .I 2])
  refine ff (b := (decide (p1 < 1))) (decide_eq_false c2) ?_
  refine awp_skip' ?_
  refine awp_seq ?_
  refine sr0 L 216 [] [] [] (S' := ⟨[(1, .I p1), (2, .cv (.ro .t_uint8 p2)), (3, .P 200), (6, .P 201), (19, .B (decide ((p2.length : Int) > 65536)))], [(200, .raw (d_aRep p0)), (201, .raw [.I 0, .I 0, .I 0, .N])]⟩) ?_
  rcases ite_some h with ⟨c3, h⟩ | ⟨c3, h⟩
  ·refine tt (b := (decide ((p2.length : Int) > 65536))) (decide_eq_true c3) ?_
   refine sr0 L 220 [] [] [] (S' := ⟨[(6, .P 201), (7, .I 6)], [(201, .raw [.I 0, .I 0, .I 0, .N])]⟩) ?_
   refine awp_turn (Turns.rn [(201, 100)] (S' := ⟨[(6, .P 100), (7, .I 6)], [(100, .raw [.I 0, .I 0, .I 0, .N])]⟩)) ?_
   refine awp_ret ?_
   obtain rfl := Option.some.inj h
   exact er (.tup [.agg [.I 0, .I 0, .I 0, .N], .I 6])
  refine ff (b := (decide ((p2.length : Int) > 65536))) (decide_eq_false c3) ?_
  refine awp_skip' ?_
  refine awp_seq ?_
  refine sr0 L 224 [] [] [] (S' := ⟨[(1, .I p1), (2, .cv (.ro .t_uint8 p2)), (3, .P 200), (6, .P 201), (24, .B (decide (p1 ≠ p0.Epoch)))], [(200, .raw (d_aRep p0)), (201, .raw [.I 0, .I 0, .I 0, .N])]⟩) ?_
  rcases ite_some h with ⟨c4, h⟩ | ⟨c4, h⟩
  ·refine tt (b := (decide (p1 ≠ p0.Epoch))) (decide_eq_true c4) ?_
   refine sr0 L 229 [] [] [] (S' := ⟨[(6, .P 201), (7, .I 25)], [(201, .raw [.I 0, .I 0, .I 0, .N])]⟩) ?_
   refine awp_turn (Turns.rn [(201, 100)] (S' := ⟨[(6, .P 100), (7, .I 25)], [(100, .raw [.I 0, .I 0, .I 0, .N])]⟩)) ?_
   refine awp_ret ?_
   obtain rfl := Option.some.inj h
   exact er (.tup [.agg [.I 0, .I 0, .I 0, .N], .I 25])
  refine ff (b := (decide (p1 ≠ p0.Epoch))) (decide_eq_false c4) ?_
  refine awp_skip' ?_
  refine awp_seq ?_
  refine sr0 L 233 [] [] [] (S' := ⟨[(1, .I p1), (2, .cv (.ro .t_uint8 p2)), (3, .P 200), (6, .P 201), (29, .B (decide ((p0.Log.length : Int) ≥ 5000)))], [(200, .raw (d_aRep p0)), (201, .raw [.I 0, .I 0, .I 0, .N])]⟩) ?_
  rcases ite_some h with ⟨c5, h⟩ | ⟨c5, h⟩
  ·refine tt (b := (decide ((p0.Log.length : Int) ≥ 5000))) (decide_eq_true c5) ?_
   refine sr0 L 238 [] [] [] (S' := ⟨[(6, .P 201), (7, .I 18)], [(201, .raw [.I 0, .I 0, .I 0, .N])]⟩) ?_
   refine awp_turn (Turns.rn [(201, 100)] (S' := ⟨[(6, .P 100), (7, .I 18)], [(100, .raw [.I 0, .I 0, .I 0, .N])]⟩)) ?_
   refine awp_ret ?_
   obtain rfl := Option.some.inj h
   exact er (.tup [.agg [.I 0, .I 0, .I 0, .N], .I 18])
  refine ff (b := (decide ((p0.Log.length : Int) ≥ 5000))) (decide_eq_false c5) ?_
  refine awp_skip' ?_
  refine sr0 L 242 [] [] [] (S' := ⟨[(1, .I p1), (2, .cv (.ro .t_uint8 p2)), (3, .P 200), (6, .P 201), (8, .P 249)], [(200, .raw (d_aRep p0)), (201, .raw [.I 0, .I 0, .I 0, .N]), (249, .raw [.I p0.Epoch, .I p0.Vote, .I p0.Commit, .N])]⟩) ?_
  refine awp_seq ?_
  obtain ⟨g1, h⟩ := guard_some h
  refine ar L 252 [] [] [] (cs := [p0.Log.length * 32 ≤ 140737488355328, True]) (S' := ⟨[(1, .I p1), (2, .cv (.ro .t_uint8 p2)), (6, .P 201), (8, .P 249)], [(201, .raw [.I 0, .I 0, .I 0, .N]), (249, .raw [.I p0.Epoch, .I p0.Vote, .I p0.Commit, .own .t_aEnt 256]), (256, .lst .t_aEnt p0.Log)]⟩) (And.intro g1 trivial) ?_
  refine awp_seq ?_
  obtain ⟨g2, h⟩ := guard_some h
  refine ar L 260 [] [] [] (cs := [(p0.Log.length + ([(⟨p1, p2⟩ : aEnt)] : List aEnt).length) * 32 ≤ 140737488355328, True]) (S' := ⟨[(6, .P 201), (8, .P 249)], [(201, .raw [.I 0, .I 0, .I 0, .N]), (249, .raw [.I p0.Epoch, .I p0.Vote, .I p0.Commit, .own .t_aEnt 256]), (256, .lst .t_aEnt (p0.Log ++ ([(⟨p1, p2⟩ : aEnt)] : List aEnt)))]⟩) (And.intro g2 trivial) ?_
  refine sr0 L 270 [] [] [] (S' := ⟨[(6, .P 201), (7, .I 0)], [(201, .raw [.I p0.Epoch, .I p0.Vote, .I p0.Commit, .own .t_aEnt 256]), (256, .lst .t_aEnt (p0.Log ++ ([(⟨p1, p2⟩ : aEnt)] : List aEnt)))]⟩) ?_
  refine awp_turn (Turns.trans (Turns.frz 256 (blk0 := .lst .t_aEnt (p0.Log ++ ([(⟨p1, p2⟩ : aEnt)] : List aEnt))) (by kernel_rfl) (by kernel_rfl) (S' := ⟨[(6, .P 201), (7, .I 0)], [(201, .raw [.I p0.Epoch, .I p0.Vote, .I p0.Commit, .ro .t_aEnt (p0.Log ++ ([(⟨p1, p2⟩ : aEnt)] : List aEnt))])]⟩) (by kernel_rfl)) (Turns.rn [(201, 100)] (S' := ⟨[(6, .P 100), (7, .I 0)], [(100, .raw [.I p0.Epoch, .I p0.Vote, .I p0.Commit, .ro .t_aEnt (p0.Log ++ ([(⟨p1, p2⟩ : aEnt)] : List aEnt))])]⟩))) ?_
  refine awp_ret ?_
  obtain rfl := Option.some.inj h
  exact er (.tup [.agg [.I p0.Epoch, .I p0.Vote, .I p0.Commit, .ro .t_aEnt (p0.Log ++ ([(⟨p1, p2⟩ : aEnt)] : List aEnt))], .I 0])
 refine ar L 204 [(3, true)] [(1, .B a1)] [] (cs := [PCall V P 33 [.agg (d_aRep p0)] (.B a1), True, (!a1) = true]) (S' := ⟨[(1, .I p1), (2, .cv (.ro .t_uint8 p2)), (3, .P 200), (6, .P 201), (15, .B true)], [(200, .raw (d_aRep p0)), (201, .raw [.I 0, .I 0, .I 0, .N])]⟩) (And.intro (wr52_Right.ok h1) (And.intro trivial (congrArg Bool.not (eq_false_of_ne_true c1)))) ?_
 refine tt (b := true) (rfl) ?_
 refine sr0 L 212 [] [] [] (S' := ⟨[(6, .P 201), (7, .I 2)], [(201, .raw [.I 0, .I 0, .I 0, .N])]⟩) ?_
 refine awp_turn (Turns.rn [(201, 100)] (S' := ⟨[(6, .P 100), (7, .I 2)], [(100, .raw [.I 0, .I 0, .I 0, .N])]⟩)) ?_
 refine awp_ret ?_
 obtain rfl := Option.some.inj h
 exact er (.tup [.agg [.I 0, .I 0, .I 0, .N], .I 2])
theorem wr52_Lead.ok {K : Nat} {p0 : aRep} {p1 : Int} {p2 : List UInt8} {r : aRep × Int} (h : wr52_Lead K p0 p1 p2 = some r) : PCall V P 50 [.agg (d_aRep p0), .I p1, .cv (.ro .t_uint8 p2)] (.tup [.agg [.I r.1.Epoch, .I r.1.Vote, .I r.1.Commit, .ro .t_aEnt r.1.Log], .I r.2]) := ECall.pcall (eo (fn := Tryz.f50) (n := 53) (m := 100) fun Γ => wr52_Lead.body h) (by kernel_rfl)
def wr52_rising.l7 (K : Nat) (p2 : List aEnt) : Nat → Int → Int → Option (Out Bool Int)
 | 0, _, _ => none
 | k + 1, xt0_7h, xt7_7h => (if xt7_7h < (p2.length : Int) then (if (0 : Int) ≤ xt7_7h ∧ (xt7_7h : Int) < (p2.length : Int) then (if (p2.getD (Int.toNat xt7_7h) z_aEnt).Epoch < xt0_7h then some (Out.done false) else (if (p2.getD (Int.toNat xt7_7h) z_aEnt).Epoch < 1 then some (Out.done false) else (if (((p2.getD (Int.toNat xt7_7h) z_aEnt).Data).length : Int) > 65536 then some (Out.done false) else wr52_rising.l7 K p2 k ((p2.getD (Int.toNat xt7_7h) z_aEnt).Epoch) (IntKind.i64.wrap (xt7_7h + 1))))) else none) else some (Out.go xt0_7h))
def wr52_rising (K : Nat) (p0 : Int) (p1 : Int) (p2 : List aEnt) : Option Bool := (obind (wr52_rising.l7 K p2 K p0 0 : Option (Out Bool Int)) (fun r => r) (fun xt0_7 => some (decide (xt0_7 ≤ p1))))
theorem wr52_rising.body {Γ : Ent} {K : Nat} {p0 : Int} {p1 : Int} {p2 : List aEnt} {r : Bool} (h : wr52_rising K p0 p1 p2 = some r) : AWp V P 46 100 Γ (Tryz.f94.body.getD .skip) (EndsE P V Tryz.f94 (.B r) []) ⟨args0 0 [.I p0, .I p1, .cv (.ro .t_aEnt p2)], []⟩ := by
 unfold wr52_rising at h
 refine sr0 L 200 [] [] [] (S' := ⟨[(0, .I p0), (1, .I p1), (2, .cv (.ro .t_aEnt p2))], []⟩) ?_
 refine awp_seq ?_
 refine sr0 L 202 [] [] [] (S' := ⟨[(0, .I p0), (1, .I p1), (2, .cv (.ro .t_aEnt p2)), (7, .I 0)], []⟩) ?_
 refine awp_block ?_
 refine kp (S' := ⟨[(0, .I p0), (1, .I p1), (2, .cv (.ro .t_aEnt p2)), (7, .I 0)], []⟩) ?_
 obtain ⟨o1, hp1, h⟩ := obind_some h
 refine awp_conseq (Q' := fun e S => (e = .exit 0 ∧ ∃ xt0_7 : Int, S = ⟨[(0, .I xt0_7), (1, .I p1)], []⟩ ∧ Out.go xt0_7 = o1) ∨ (e = .ret ∧ ∃ a, Out.done a = o1 ∧ EndsE P V Tryz.f94 (.B a) [] .ret S)) (awp_loop (fun k S => ∃ xt0_7h : Int, ∃ xt7_7h : Int, S = ⟨[(0, .I xt0_7h), (1, .I p1), (2, .cv (.ro .t_aEnt p2)), (7, .I xt7_7h)], []⟩ ∧ wr52_rising.l7 K p2 k xt0_7h xt7_7h = some o1) ?_ ⟨_, _, rfl, hp1⟩) ?_
 ·clear h hp1
  intro k S hS
  obtain ⟨xt0_7h, xt7_7h, rfl, h⟩ := hS
  cases k with
  | zero => cases h
  | succ k =>
  unfold wr52_rising.l7 at h
  refine awp_seq ?_
  refine sr0 L 204 [] [] [] (S' := ⟨[(0, .I xt0_7h), (1, .I p1), (2, .cv (.ro .t_aEnt p2)), (7, .I xt7_7h), (11, .B (decide (xt7_7h < (p2.length : Int))))], []⟩) ?_
  rcases ite_some h with ⟨c1, h⟩ | ⟨c1, h⟩
  ·refine tt (b := (decide (xt7_7h < (p2.length : Int)))) (decide_eq_true c1) ?_
   refine awp_skip' ?_
   refine awp_seq ?_
   refine awp_block ?_
   refine awp_seq ?_
   refine awp_seq ?_
   obtain ⟨g1, h⟩ := guard_some h
   rcases ite_some h with ⟨c2, h⟩ | ⟨c2, h⟩
   ·refine ar L 209 [(7, true)] [] [] (cs := [(0 : Int) ≤ xt7_7h, (xt7_7h : Int) < (p2.length : Int), (decide ((p2.getD (Int.toNat xt7_7h) z_aEnt).Epoch < xt0_7h)) = true]) (S' := ⟨[(1, .I p1), (2, .cv (.ro .t_aEnt p2)), (7, .I xt7_7h), (37, .B true)], []⟩) (And.intro g1.1 (And.intro g1.2 (decide_eq_true c2))) ?_
    refine tt (b := true) (rfl) ?_
    refine sr0 L 234 [] [] [] (S' := ⟨[(6, .B false)], []⟩) ?_
    refine awp_ret ?_
    obtain rfl := Option.some.inj h
    exact .inr ⟨rfl, _, rfl, er (.B false)⟩
   rcases ite_some h with ⟨c3, h⟩ | ⟨c3, h⟩
   ·refine ar L 209 [(7, false), (15, true)] [] [] (cs := [(0 : Int) ≤ xt7_7h, (xt7_7h : Int) < (p2.length : Int), (decide ((p2.getD (Int.toNat xt7_7h) z_aEnt).Epoch < xt0_7h)) = false, (0 : Int) ≤ xt7_7h, (xt7_7h : Int) < (p2.length : Int), (decide ((p2.getD (Int.toNat xt7_7h) z_aEnt).Epoch < 1)) = true]) (S' := ⟨[(1, .I p1), (2, .cv (.ro .t_aEnt p2)), (7, .I xt7_7h), (37, .B true)], []⟩) (And.intro g1.1 (And.intro g1.2 (And.intro (decide_eq_false c2) (And.intro g1.1 (And.intro g1.2 (decide_eq_true c3)))))) ?_
    refine tt (b := true) (rfl) ?_
    refine sr0 L 234 [] [] [] (S' := ⟨[(6, .B false)], []⟩) ?_
    refine awp_ret ?_
    obtain rfl := Option.some.inj h
    exact .inr ⟨rfl, _, rfl, er (.B false)⟩
   refine ar L 209 [(7, false), (15, false)] [] [] (cs := [(0 : Int) ≤ xt7_7h, (xt7_7h : Int) < (p2.length : Int), (decide ((p2.getD (Int.toNat xt7_7h) z_aEnt).Epoch < xt0_7h)) = false, (0 : Int) ≤ xt7_7h, (xt7_7h : Int) < (p2.length : Int), (decide ((p2.getD (Int.toNat xt7_7h) z_aEnt).Epoch < 1)) = false, (0 : Int) ≤ xt7_7h, (xt7_7h : Int) < (p2.length : Int)]) (S' := ⟨[(1, .I p1), (2, .cv (.ro .t_aEnt p2)), (7, .I xt7_7h), (37, .B ((decide ((((p2.getD (Int.toNat xt7_7h) z_aEnt).Data).length : Int) > 65536))))], []⟩) (And.intro g1.1 (And.intro g1.2 (And.intro (decide_eq_false c2) (And.intro g1.1 (And.intro g1.2 (And.intro (decide_eq_false c3) (And.intro g1.1 g1.2))))))) ?_
   rcases ite_some h with ⟨c4, h⟩ | ⟨c4, h⟩
   ·refine tt (b := (decide ((((p2.getD (Int.toNat xt7_7h) z_aEnt).Data).length : Int) > 65536))) (decide_eq_true c4) ?_
    refine sr0 L 234 [] [] [] (S' := ⟨[(6, .B false)], []⟩) ?_
    refine awp_ret ?_
    obtain rfl := Option.some.inj h
    exact .inr ⟨rfl, _, rfl, er (.B false)⟩
   refine ff (b := (decide ((((p2.getD (Int.toNat xt7_7h) z_aEnt).Data).length : Int) > 65536))) (decide_eq_false c4) ?_
   refine awp_skip' ?_
   refine ar L 236 [] [] [] (cs := [(0 : Int) ≤ xt7_7h, (xt7_7h : Int) < (p2.length : Int)]) (S' := ⟨[(0, .I ((p2.getD (Int.toNat xt7_7h) z_aEnt).Epoch)), (1, .I p1), (2, .cv (.ro .t_aEnt p2)), (7, .I xt7_7h)], []⟩) (And.intro g1.1 g1.2) ?_
   refine ar0 L 243 [] [] [] (S' := ⟨[(0, .I ((p2.getD (Int.toNat xt7_7h) z_aEnt).Epoch)), (1, .I p1), (2, .cv (.ro .t_aEnt p2)), (7, .I (IntKind.i64.wrap (xt7_7h + 1)))], []⟩) ?_
   exact ⟨k, Nat.lt_succ_self k, _, _, rfl, h⟩
  refine ff (b := (decide (xt7_7h < (p2.length : Int)))) (decide_eq_false c1) ?_
  refine ex (S' := ⟨[(0, .I xt0_7h), (1, .I p1)], []⟩) ?_
  obtain rfl := Option.some.inj h
  exact .inl ⟨rfl, _, rfl, rfl⟩
 ·rintro e S (⟨rfl, xt0_7, rfl, rfl⟩ | ⟨rfl, a, rfl, hr⟩)
  ·rcases h with ⟨_, e1, h⟩ | ⟨_, e1, h⟩
   ·cases e1
   ·have e2 := Out.go.inj e1
    subst e2
    refine ⟨_, Turns.refl, ?_⟩
    refine sr0 L 247 [] [] [] (S' := ⟨[(6, .B (decide (xt0_7 ≤ p1)))], []⟩) ?_
    refine awp_ret ?_
    obtain rfl := Option.some.inj h
    exact er (.B (decide (xt0_7 ≤ p1)))
  ·rcases h with ⟨_, e1, h⟩ | ⟨_, e1, h⟩
   ·have e2 := Out.done.inj e1
    subst e2
    subst h
    exact ⟨_, Turns.refl, hr⟩
   ·cases e1
theorem wr52_rising.ok {K : Nat} {p0 : Int} {p1 : Int} {p2 : List aEnt} {r : Bool} (h : wr52_rising K p0 p1 p2 = some r) : PCall V P 94 [.I p0, .I p1, .cv (.ro .t_aEnt p2)] (.B r) := ECall.pcall (eo (fn := Tryz.f94) (n := 46) (m := 100) fun Γ => wr52_rising.body h) (by kernel_rfl)
def wr52_Accept.l33 (K : Nat) (p0 : aRep) (p2 : Int) (p4 : List aEnt) : Nat → Bool → Int → Option (Out (aRep × Int) Bool)
 | 0, _, _ => none
 | k + 1, xt14_33h, xt15_33h => (if xt15_33h < (p4.length : Int) then (if (IntKind.i64.wrap (p2 + xt15_33h)) < (p0.Log.length : Int) then (if (0 : Int) ≤ (IntKind.i64.wrap (p2 + xt15_33h)) ∧ ((IntKind.i64.wrap (p2 + xt15_33h)) : Int) < (p0.Log.length : Int) then (if (0 : Int) ≤ xt15_33h ∧ (xt15_33h : Int) < (p4.length : Int) then (Option.bind (wr52_Agree K (p0.Log.getD (Int.toNat (IntKind.i64.wrap (p2 + xt15_33h))) z_aEnt) (p4.getD (Int.toNat xt15_33h) z_aEnt)) (fun a5 => (if a5 = true then wr52_Accept.l33 K p0 p2 p4 k xt14_33h (IntKind.i64.wrap (xt15_33h + 1)) else (if (IntKind.i64.wrap (p2 + xt15_33h)) < p0.Commit then some (Out.done ((⟨0, 0, 0, ([] : List aEnt)⟩ : aRep), 16)) else wr52_Accept.l33 K p0 p2 p4 k false (IntKind.i64.wrap (xt15_33h + 1)))))) else none) else none) else some (Out.go xt14_33h)) else some (Out.go xt14_33h))
def wr52_Accept (K : Nat) (p0 : aRep) (p1 : Int) (p2 : Int) (p3 : Int) (p4 : List aEnt) (p5 : Int) : Option (aRep × Int) := (Option.bind (wr52_Right K p0) (fun a1 => (if a1 = true then (Option.bind (wr52_in K p1 1 1099511627776) (fun a2 => (if a2 = true then (Option.bind (wr52_in K p2 0 5000) (fun a3 => (if a3 = true then (if p3 < 0 then some ((⟨0, 0, 0, ([] : List aEnt)⟩ : aRep), 2) else (if ((decide (p2 = 0)) == (decide (p3 = 0))) = true then (if p5 < 0 then some ((⟨0, 0, 0, ([] : List aEnt)⟩ : aRep), 2) else (Option.bind (wr52_rising K p3 p1 p4) (fun a4 => (if a4 = true then (if p1 < p0.Epoch then some ((⟨0, 0, 0, ([] : List aEnt)⟩ : aRep), 25) else (obind (((if (p0.Log.length : Int) < p2 then some (Out.done ((⟨0, 0, 0, ([] : List aEnt)⟩ : aRep), 26)) else (if p2 > 0 then (if (0 : Int) ≤ (IntKind.i64.wrap (p2 - 1)) ∧ ((IntKind.i64.wrap (p2 - 1)) : Int) < (p0.Log.length : Int) then (if (p0.Log.getD (Int.toNat (IntKind.i64.wrap (p2 - 1))) z_aEnt).Epoch ≠ p3 then some (Out.done ((⟨0, 0, 0, ([] : List aEnt)⟩ : aRep), 26)) else some (Out.go ())) else none) else some (Out.go ())))) : Option (Out (aRep × Int) Unit)) (fun r => r) (fun _ => (obind (wr52_Accept.l33 K p0 p2 p4 K true 0 : Option (Out (aRep × Int) Bool)) (fun r => r) (fun xt14_33 => (if (IntKind.i64.wrap (p2 + (p4.length : Int))) > 5000 then some ((⟨0, 0, 0, ([] : List aEnt)⟩ : aRep), 18) else (Option.bind ((if p1 > p0.Epoch then some (-1) else some p0.Vote) : Option Int) (fun x33202_1 => (if (0 : Int) ≤ p2 ∧ p2 ≤ (p0.Log.length : Int) then (if (slc p0.Log 0 p2).length * 32 ≤ 140737488355328 then (if ((slc p0.Log 0 p2).length + p4.length) * 32 ≤ 140737488355328 then (Option.bind (((Option.bind (((if xt14_33 = true then some (decide ((p0.Log.length : Int) > (IntKind.i64.wrap (p2 + (p4.length : Int))))) else some false)) : Option Bool) (fun xt154_77 => (if xt154_77 = true then (if (0 : Int) ≤ (IntKind.i64.wrap (p2 + (p4.length : Int))) ∧ (IntKind.i64.wrap (p2 + (p4.length : Int))) ≤ (p0.Log.length : Int) then (if (((slc p0.Log 0 p2) ++ p4).length + (slc p0.Log (IntKind.i64.wrap (p2 + (p4.length : Int))) (p0.Log.length : Int)).length) * 32 ≤ 140737488355328 then some (((slc p0.Log 0 p2) ++ p4) ++ (slc p0.Log (IntKind.i64.wrap (p2 + (p4.length : Int))) (p0.Log.length : Int))) else none) else none) else some ((slc p0.Log 0 p2) ++ p4))))) : Option (List aEnt)) (fun x35202 => (Option.bind ((if p5 > (IntKind.i64.wrap (p2 + (p4.length : Int))) then some (IntKind.i64.wrap (p2 + (p4.length : Int))) else some p5) : Option Int) (fun xt5_82 => (if xt5_82 > p0.Commit then some ((⟨p1, x33202_1, xt5_82, x35202⟩ : aRep), 0) else some ((⟨p1, x33202_1, p0.Commit, x35202⟩ : aRep), 0)))))) else none) else none) else none))))))))) else some ((⟨0, 0, 0, ([] : List aEnt)⟩ : aRep), 2))))) else some ((⟨0, 0, 0, ([] : List aEnt)⟩ : aRep), 2))) else some ((⟨0, 0, 0, ([] : List aEnt)⟩ : aRep), 2)))) else some ((⟨0, 0, 0, ([] : List aEnt)⟩ : aRep), 2)))) else some ((⟨0, 0, 0, ([] : List aEnt)⟩ : aRep), 2))))
theorem wr52_Accept.body {Γ : Ent} {K : Nat} {p0 : aRep} {p1 : Int} {p2 : Int} {p3 : Int} {p4 : List aEnt} {p5 : Int} {r : aRep × Int} (h : wr52_Accept K p0 p1 p2 p3 p4 p5 = some r) : AWp V P 183 100 Γ (Tryz.f82.body.getD .skip) (EndsE P V Tryz.f82 (.tup [.agg [.I r.1.Epoch, .I r.1.Vote, .I r.1.Commit, .ro .t_aEnt r.1.Log], .I r.2]) []) ⟨args0 0 [.agg (d_aRep p0), .I p1, .I p2, .I p3, .cv (.ro .t_aEnt p4), .I p5], []⟩ := by
 unfold wr52_Accept at h
 refine sr0 L 200 [] [] [] (S' := ⟨[(1, .I p1), (2, .I p2), (3, .I p3), (4, .cv (.ro .t_aEnt p4)), (5, .I p5), (6, .P 200), (12, .P 201)], [(200, .raw (d_aRep p0)), (201, .raw [.I 0, .I 0, .I 0, .N])]⟩) ?_
 refine awp_seq ?_
 refine awp_seq ?_
 obtain ⟨a1, h1, h⟩ := bind_some h
 rcases ite_some h with ⟨c1, h⟩ | ⟨c1, h⟩
 ·obtain ⟨a2, h2, h⟩ := bind_some h
  rcases ite_some h with ⟨c2, h⟩ | ⟨c2, h⟩
  ·obtain ⟨a3, h3, h⟩ := bind_some h
   rcases ite_some h with ⟨c3, h⟩ | ⟨c3, h⟩
   ·rcases ite_some h with ⟨c4, h⟩ | ⟨c4, h⟩
    ·refine ar L 204 [(3, false), (8, false), (13, false), (17, true)] [(1, .B a1), (5, .B a2), (10, .B a3)] [] (cs := [PCall V P 33 [.agg (d_aRep p0)] (.B a1), True, (!a1) = false, PCall V P 66 [.I p1, .I 1, .I 1099511627776] (.B a2), True, (!a2) = false, PCall V P 66 [.I p2, .I 0, .I 5000] (.B a3), True, (!a3) = false, (decide (p3 < 0)) = true]) (S' := ⟨[(1, .I p1), (2, .I p2), (3, .I p3), (4, .cv (.ro .t_aEnt p4)), (5, .I p5), (6, .P 200), (12, .P 201), (51, .B true)], [(200, .raw (d_aRep p0)), (201, .raw [.I 0, .I 0, .I 0, .N])]⟩) (And.intro (wr52_Right.ok h1) (And.intro trivial (And.intro (congrArg Bool.not (c1)) (And.intro (wr52_in.ok h2) (And.intro trivial (And.intro (congrArg Bool.not (c2)) (And.intro (wr52_in.ok h3) (And.intro trivial (And.intro (congrArg Bool.not (c3)) (decide_eq_true c4)))))))))) ?_
     refine tt (b := true) (rfl) ?_
     refine sr0 L 240 [] [] [] (S' := ⟨[(12, .P 201), (13, .I 2)], [(201, .raw [.I 0, .I 0, .I 0, .N])]⟩) ?_
     refine awp_turn (Turns.rn [(201, 100)] (S' := ⟨[(12, .P 100), (13, .I 2)], [(100, .raw [.I 0, .I 0, .I 0, .N])]⟩)) ?_
     refine awp_ret ?_
     obtain rfl := Option.some.inj h
     exact er (.tup [.agg [.I 0, .I 0, .I 0, .N], .I 2])
    rcases ite_some h with ⟨c5, h⟩ | ⟨c5, h⟩
    ·rcases ite_some h with ⟨c6, h⟩ | ⟨c6, h⟩
     ·refine ar L 204 [(3, false), (8, false), (13, false), (17, false), (24, false), (28, true)] [(1, .B a1), (5, .B a2), (10, .B a3)] [] (cs := [PCall V P 33 [.agg (d_aRep p0)] (.B a1), True, (!a1) = false, PCall V P 66 [.I p1, .I 1, .I 1099511627776] (.B a2), True, (!a2) = false, PCall V P 66 [.I p2, .I 0, .I 5000] (.B a3), True, (!a3) = false, (decide (p3 < 0)) = false, (!((decide (p2 = 0)) == (decide (p3 = 0)))) = false, (decide (p5 < 0)) = true]) (S' := ⟨[(1, .I p1), (2, .I p2), (3, .I p3), (4, .cv (.ro .t_aEnt p4)), (5, .I p5), (6, .P 200), (12, .P 201), (51, .B true)], [(200, .raw (d_aRep p0)), (201, .raw [.I 0, .I 0, .I 0, .N])]⟩) (And.intro (wr52_Right.ok h1) (And.intro trivial (And.intro (congrArg Bool.not (c1)) (And.intro (wr52_in.ok h2) (And.intro trivial (And.intro (congrArg Bool.not (c2)) (And.intro (wr52_in.ok h3) (And.intro trivial (And.intro (congrArg Bool.not (c3)) (And.intro (decide_eq_false c4) (And.intro (congrArg Bool.not (c5)) (decide_eq_true c6)))))))))))) ?_
      refine tt (b := true) (rfl) ?_
      refine sr0 L 240 [] [] [] (S' := ⟨[(12, .P 201), (13, .I 2)], [(201, .raw [.I 0, .I 0, .I 0, .N])]⟩) ?_
      refine awp_turn (Turns.rn [(201, 100)] (S' := ⟨[(12, .P 100), (13, .I 2)], [(100, .raw [.I 0, .I 0, .I 0, .N])]⟩)) ?_
      refine awp_ret ?_
      obtain rfl := Option.some.inj h
      exact er (.tup [.agg [.I 0, .I 0, .I 0, .N], .I 2])
     obtain ⟨a4, h4, h⟩ := bind_some h
     refine ar L 204 [(3, false), (8, false), (13, false), (17, false), (24, false), (28, false)] [(1, .B a1), (5, .B a2), (10, .B a3), (32, .B a4)] [] (cs := [PCall V P 33 [.agg (d_aRep p0)] (.B a1), True, (!a1) = false, PCall V P 66 [.I p1, .I 1, .I 1099511627776] (.B a2), True, (!a2) = false, PCall V P 66 [.I p2, .I 0, .I 5000] (.B a3), True, (!a3) = false, (decide (p3 < 0)) = false, (!((decide (p2 = 0)) == (decide (p3 = 0)))) = false, (decide (p5 < 0)) = false, PCall V P 94 [.I p3, .I p1, .cv (.ro .t_aEnt p4)] (.B a4), True]) (S' := ⟨[(1, .I p1), (2, .I p2), (3, .I p3), (4, .cv (.ro .t_aEnt p4)), (5, .I p5), (6, .P 200), (12, .P 201), (51, .B (!a4))], [(200, .raw (d_aRep p0)), (201, .raw [.I 0, .I 0, .I 0, .N])]⟩) (And.intro (wr52_Right.ok h1) (And.intro trivial (And.intro (congrArg Bool.not (c1)) (And.intro (wr52_in.ok h2) (And.intro trivial (And.intro (congrArg Bool.not (c2)) (And.intro (wr52_in.ok h3) (And.intro trivial (And.intro (congrArg Bool.not (c3)) (And.intro (decide_eq_false c4) (And.intro (congrArg Bool.not (c5)) (And.intro (decide_eq_false c6) (And.intro (wr52_rising.ok h4) trivial))))))))))))) ?_
     rcases ite_some h with ⟨c7, h⟩ | ⟨c7, h⟩
     ·refine ff (b := (!a4)) (congrArg Bool.not (c7)) ?_
      refine awp_skip' ?_
      refine awp_seq ?_
      refine sr0 L 244 [] [] [] (S' := ⟨[(1, .I p1), (2, .I p2), (3, .I p3), (4, .cv (.ro .t_aEnt p4)), (5, .I p5), (6, .P 200), (12, .P 201), (56, .B (decide (p1 < p0.Epoch)))], [(200, .raw (d_aRep p0)), (201, .raw [.I 0, .I 0, .I 0, .N])]⟩) ?_
      rcases ite_some h with ⟨c8, h⟩ | ⟨c8, h⟩
      ·refine tt (b := (decide (p1 < p0.Epoch))) (decide_eq_true c8) ?_
       refine sr0 L 249 [] [] [] (S' := ⟨[(12, .P 201), (13, .I 25)], [(201, .raw [.I 0, .I 0, .I 0, .N])]⟩) ?_
       refine awp_turn (Turns.rn [(201, 100)] (S' := ⟨[(12, .P 100), (13, .I 25)], [(100, .raw [.I 0, .I 0, .I 0, .N])]⟩)) ?_
       refine awp_ret ?_
       obtain rfl := Option.some.inj h
       exact er (.tup [.agg [.I 0, .I 0, .I 0, .N], .I 25])
      refine ff (b := (decide (p1 < p0.Epoch))) (decide_eq_false c8) ?_
      refine awp_skip' ?_
      obtain ⟨o1, hp1, h⟩ := obind_some h
      refine awp_seq (awp_mono (Q' := fun e S => (e = .normal ∧ S = ⟨[(1, .I p1), (2, .I p2), (4, .cv (.ro .t_aEnt p4)), (5, .I p5), (6, .P 23800), (12, .P 23801)], [(23800, .raw (d_aRep p0)), (23801, .raw [.I 0, .I 0, .I 0, .N])]⟩ ∧ Out.go () = o1) ∨ (e = .ret ∧ ∃ a, Out.done a = o1 ∧ EndsE P V Tryz.f82 (.tup [.agg [.I a.1.Epoch, .I a.1.Vote, .I a.1.Commit, .ro .t_aEnt a.1.Log], .I a.2]) [] .ret S)) ?_ ?_)
      ·clear h
       replace h := hp1
       refine awp_seq ?_
       rcases ite_some h with ⟨c9, h⟩ | ⟨c9, h⟩
       ·refine ar L 253 [(5, true)] [] [] (cs := [(decide ((p0.Log.length : Int) < p2)) = true]) (S' := ⟨[(1, .I p1), (2, .I p2), (4, .cv (.ro .t_aEnt p4)), (5, .I p5), (6, .P 200), (12, .P 201), (77, .B true)], [(200, .raw (d_aRep p0)), (201, .raw [.I 0, .I 0, .I 0, .N])]⟩) (decide_eq_true c9) ?_
        refine tt (b := true) (rfl) ?_
        refine sr0 L 274 [] [] [] (S' := ⟨[(12, .P 201), (13, .I 26)], [(201, .raw [.I 0, .I 0, .I 0, .N])]⟩) ?_
        refine awp_turn (Turns.rn [(201, 100)] (S' := ⟨[(12, .P 100), (13, .I 26)], [(100, .raw [.I 0, .I 0, .I 0, .N])]⟩)) ?_
        refine awp_ret ?_
        obtain rfl := Option.some.inj h
        exact .inr ⟨rfl, _, rfl, er (.tup [.agg [.I 0, .I 0, .I 0, .N], .I 26])⟩
       rcases ite_some h with ⟨c10, h⟩ | ⟨c10, h⟩
       ·obtain ⟨g1, h⟩ := guard_some h
        refine ar L 253 [(5, false), (8, true)] [] [] (cs := [(decide ((p0.Log.length : Int) < p2)) = false, (decide (p2 > 0)) = true, (0 : Int) ≤ (IntKind.i64.wrap (p2 - 1)), ((IntKind.i64.wrap (p2 - 1)) : Int) < (p0.Log.length : Int)]) (S' := ⟨[(1, .I p1), (2, .I p2), (4, .cv (.ro .t_aEnt p4)), (5, .I p5), (6, .P 200), (12, .P 201), (77, .B ((decide ((p0.Log.getD (Int.toNat (IntKind.i64.wrap (p2 - 1))) z_aEnt).Epoch ≠ p3))))], [(200, .raw (d_aRep p0)), (201, .raw [.I 0, .I 0, .I 0, .N])]⟩) (And.intro (decide_eq_false c9) (And.intro (decide_eq_true c10) (And.intro g1.1 g1.2))) ?_
        rcases ite_some h with ⟨c11, h⟩ | ⟨c11, h⟩
        ·refine tt (b := (decide ((p0.Log.getD (Int.toNat (IntKind.i64.wrap (p2 - 1))) z_aEnt).Epoch ≠ p3))) (decide_eq_true c11) ?_
         refine sr0 L 274 [] [] [] (S' := ⟨[(12, .P 201), (13, .I 26)], [(201, .raw [.I 0, .I 0, .I 0, .N])]⟩) ?_
         refine awp_turn (Turns.rn [(201, 100)] (S' := ⟨[(12, .P 100), (13, .I 26)], [(100, .raw [.I 0, .I 0, .I 0, .N])]⟩)) ?_
         refine awp_ret ?_
         obtain rfl := Option.some.inj h
         exact .inr ⟨rfl, _, rfl, er (.tup [.agg [.I 0, .I 0, .I 0, .N], .I 26])⟩
        refine ff (b := (decide ((p0.Log.getD (Int.toNat (IntKind.i64.wrap (p2 - 1))) z_aEnt).Epoch ≠ p3))) (decide_eq_false c11) ?_
        refine awp_turn (Turns.trans (Turns.kp (S' := ⟨[(1, .I p1), (2, .I p2), (4, .cv (.ro .t_aEnt p4)), (5, .I p5), (6, .P 200), (12, .P 201)], [(200, .raw (d_aRep p0)), (201, .raw [.I 0, .I 0, .I 0, .N])]⟩)) (Turns.rn [(200, 23800), (201, 23801)] (S' := ⟨[(1, .I p1), (2, .I p2), (4, .cv (.ro .t_aEnt p4)), (5, .I p5), (6, .P 23800), (12, .P 23801)], [(23800, .raw (d_aRep p0)), (23801, .raw [.I 0, .I 0, .I 0, .N])]⟩))) ?_
        refine sk (S' := ⟨[(1, .I p1), (2, .I p2), (4, .cv (.ro .t_aEnt p4)), (5, .I p5), (6, .P 23800), (12, .P 23801)], [(23800, .raw (d_aRep p0)), (23801, .raw [.I 0, .I 0, .I 0, .N])]⟩) ?_
        obtain rfl := Option.some.inj h
        exact .inl ⟨rfl, rfl, rfl⟩
       refine ar L 253 [(5, false), (8, false)] [] [] (cs := [(decide ((p0.Log.length : Int) < p2)) = false, (decide (p2 > 0)) = false]) (S' := ⟨[(1, .I p1), (2, .I p2), (4, .cv (.ro .t_aEnt p4)), (5, .I p5), (6, .P 200), (12, .P 201), (77, .B false)], [(200, .raw (d_aRep p0)), (201, .raw [.I 0, .I 0, .I 0, .N])]⟩) (And.intro (decide_eq_false c9) (decide_eq_false c10)) ?_
       refine ff (b := false) (rfl) ?_
       refine awp_turn (Turns.trans (Turns.kp (S' := ⟨[(1, .I p1), (2, .I p2), (4, .cv (.ro .t_aEnt p4)), (5, .I p5), (6, .P 200), (12, .P 201)], [(200, .raw (d_aRep p0)), (201, .raw [.I 0, .I 0, .I 0, .N])]⟩)) (Turns.rn [(200, 23800), (201, 23801)] (S' := ⟨[(1, .I p1), (2, .I p2), (4, .cv (.ro .t_aEnt p4)), (5, .I p5), (6, .P 23800), (12, .P 23801)], [(23800, .raw (d_aRep p0)), (23801, .raw [.I 0, .I 0, .I 0, .N])]⟩))) ?_
       refine sk (S' := ⟨[(1, .I p1), (2, .I p2), (4, .cv (.ro .t_aEnt p4)), (5, .I p5), (6, .P 23800), (12, .P 23801)], [(23800, .raw (d_aRep p0)), (23801, .raw [.I 0, .I 0, .I 0, .N])]⟩) ?_
       obtain rfl := Option.some.inj h
       exact .inl ⟨rfl, rfl, rfl⟩
      ·rintro e S (⟨rfl, rfl, rfl⟩ | ⟨rfl, a, rfl, hr⟩)
       ·rcases h with ⟨_, e1, h⟩ | ⟨_, e1, h⟩
        ·cases e1
        ·have e2 := Out.go.inj e1
         subst e2
         refine sr0 L 278 [] [] [] (S' := ⟨[(1, .I p1), (2, .I p2), (4, .cv (.ro .t_aEnt p4)), (5, .I p5), (6, .P 23800), (12, .P 23801), (14, .B true)], [(23800, .raw (d_aRep p0)), (23801, .raw [.I 0, .I 0, .I 0, .N])]⟩) ?_
         refine awp_seq ?_
         refine sr0 L 280 [] [] [] (S' := ⟨[(1, .I p1), (2, .I p2), (4, .cv (.ro .t_aEnt p4)), (5, .I p5), (6, .P 23800), (12, .P 23801), (14, .B true), (15, .I 0)], [(23800, .raw (d_aRep p0)), (23801, .raw [.I 0, .I 0, .I 0, .N])]⟩) ?_
         refine awp_block ?_
         refine awp_turn (Turns.trans (Turns.kp (S' := ⟨[(1, .I p1), (2, .I p2), (4, .cv (.ro .t_aEnt p4)), (5, .I p5), (6, .P 23800), (12, .P 23801), (14, .B true), (15, .I 0)], [(23800, .raw (d_aRep p0)), (23801, .raw [.I 0, .I 0, .I 0, .N])]⟩)) (Turns.rn [(23800, 26700), (23801, 26701)] (S' := ⟨[(1, .I p1), (2, .I p2), (4, .cv (.ro .t_aEnt p4)), (5, .I p5), (6, .P 26700), (12, .P 26701), (14, .B true), (15, .I 0)], [(26700, .raw (d_aRep p0)), (26701, .raw [.I 0, .I 0, .I 0, .N])]⟩))) ?_
         refine kp (S' := ⟨[(1, .I p1), (2, .I p2), (4, .cv (.ro .t_aEnt p4)), (5, .I p5), (6, .P 26700), (12, .P 26701), (14, .B true), (15, .I 0)], [(26700, .raw (d_aRep p0)), (26701, .raw [.I 0, .I 0, .I 0, .N])]⟩) ?_
         obtain ⟨o2, hp2, h⟩ := obind_some h
         refine awp_conseq (Q' := fun e S => (e = .exit 0 ∧ ∃ xt14_33 : Bool, S = ⟨[(1, .I p1), (2, .I p2), (4, .cv (.ro .t_aEnt p4)), (5, .I p5), (6, .P 26600), (12, .P 26601), (14, .B xt14_33)], [(26600, .raw (d_aRep p0)), (26601, .raw [.I 0, .I 0, .I 0, .N])]⟩ ∧ Out.go xt14_33 = o2) ∨ (e = .ret ∧ ∃ a, Out.done a = o2 ∧ EndsE P V Tryz.f82 (.tup [.agg [.I a.1.Epoch, .I a.1.Vote, .I a.1.Commit, .ro .t_aEnt a.1.Log], .I a.2]) [] .ret S)) (awp_loop (fun k S => ∃ xt14_33h : Bool, ∃ xt15_33h : Int, S = ⟨[(1, .I p1), (2, .I p2), (4, .cv (.ro .t_aEnt p4)), (5, .I p5), (6, .P 26700), (12, .P 26701), (14, .B xt14_33h), (15, .I xt15_33h)], [(26700, .raw (d_aRep p0)), (26701, .raw [.I 0, .I 0, .I 0, .N])]⟩ ∧ wr52_Accept.l33 K p0 p2 p4 k xt14_33h xt15_33h = some o2) ?_ ⟨_, _, rfl, hp2⟩) ?_
         ·clear h hp2
          intro k S hS
          obtain ⟨xt14_33h, xt15_33h, rfl, h⟩ := hS
          cases k with
          | zero => cases h
          | succ k =>
          unfold wr52_Accept.l33 at h
          refine awp_seq ?_
          refine awp_seq ?_
          rcases ite_some h with ⟨c12, h⟩ | ⟨c12, h⟩
          ·refine ar L 282 [(4, true)] [] [] (cs := [(decide (xt15_33h < (p4.length : Int))) = true]) (S' := ⟨[(1, .I p1), (2, .I p2), (4, .cv (.ro .t_aEnt p4)), (5, .I p5), (6, .P 26700), (12, .P 26701), (14, .B xt14_33h), (15, .I xt15_33h), (91, .B (decide ((IntKind.i64.wrap (p2 + xt15_33h)) < (p0.Log.length : Int))))], [(26700, .raw (d_aRep p0)), (26701, .raw [.I 0, .I 0, .I 0, .N])]⟩) (decide_eq_true c12) ?_
           rcases ite_some h with ⟨c13, h⟩ | ⟨c13, h⟩
           ·refine tt (b := (decide ((IntKind.i64.wrap (p2 + xt15_33h)) < (p0.Log.length : Int)))) (decide_eq_true c13) ?_
            refine awp_skip' ?_
            refine awp_seq ?_
            refine awp_block ?_
            refine awp_seq ?_
            obtain ⟨g2, h⟩ := guard_some h
            obtain ⟨g3, h⟩ := guard_some h
            obtain ⟨a5, h5, h⟩ := bind_some h
            refine ad L mixed 296 [] [(11, .B a5)] [] [] 13 (cs := [(0 : Int) ≤ (IntKind.i64.wrap (p2 + xt15_33h)), ((IntKind.i64.wrap (p2 + xt15_33h)) : Int) < (p0.Log.length : Int), (0 : Int) ≤ xt15_33h, (xt15_33h : Int) < (p4.length : Int), PCall V P 35 [.agg (d_aEnt (p0.Log.getD (Int.toNat (IntKind.i64.wrap (p2 + xt15_33h))) z_aEnt)), .agg (d_aEnt (p4.getD (Int.toNat xt15_33h) z_aEnt))] (.B a5), True]) (S' := ⟨[(1, .I p1), (2, .I p2), (4, .cv (.ro .t_aEnt p4)), (5, .I p5), (6, .P 26700), (12, .P 26701), (14, .B xt14_33h), (15, .I xt15_33h), (106, .B (!a5))], [(26700, .raw (d_aRep p0)), (26701, .raw [.I 0, .I 0, .I 0, .N])]⟩) (And.intro g2.1 (And.intro g2.2 (And.intro g3.1 (And.intro g3.2 (And.intro (wr52_Agree.ok h5) trivial))))) ?_
            rcases ite_some h with ⟨c14, h⟩ | ⟨c14, h⟩
            ·refine ff (b := (!a5)) (congrArg Bool.not (c14)) ?_
             refine awp_skip' ?_
             refine ar0 L 323 [] [] [] (S' := ⟨[(1, .I p1), (2, .I p2), (4, .cv (.ro .t_aEnt p4)), (5, .I p5), (6, .P 26700), (12, .P 26701), (14, .B xt14_33h), (15, .I (IntKind.i64.wrap (xt15_33h + 1)))], [(26700, .raw (d_aRep p0)), (26701, .raw [.I 0, .I 0, .I 0, .N])]⟩) ?_
             exact ⟨k, Nat.lt_succ_self k, _, _, rfl, h⟩
            refine tt (b := (!a5)) (congrArg Bool.not (eq_false_of_ne_true c14)) ?_
            refine sr0 L 310 [] [] [] (S' := ⟨[(1, .I p1), (2, .I p2), (4, .cv (.ro .t_aEnt p4)), (5, .I p5), (6, .P 26700), (12, .P 26701), (14, .B false), (15, .I xt15_33h)], [(26700, .raw (d_aRep p0)), (26701, .raw [.I 0, .I 0, .I 0, .N])]⟩) ?_
            refine sr0 L 312 [] [] [] (S' := ⟨[(1, .I p1), (2, .I p2), (4, .cv (.ro .t_aEnt p4)), (5, .I p5), (6, .P 26700), (12, .P 26701), (14, .B false), (15, .I xt15_33h), (112, .B (decide ((IntKind.i64.wrap (p2 + xt15_33h)) < p0.Commit)))], [(26700, .raw (d_aRep p0)), (26701, .raw [.I 0, .I 0, .I 0, .N])]⟩) ?_
            rcases ite_some h with ⟨c15, h⟩ | ⟨c15, h⟩
            ·refine tt (b := (decide ((IntKind.i64.wrap (p2 + xt15_33h)) < p0.Commit))) (decide_eq_true c15) ?_
             refine sr0 L 319 [] [] [] (S' := ⟨[(12, .P 26701), (13, .I 16)], [(26701, .raw [.I 0, .I 0, .I 0, .N])]⟩) ?_
             refine awp_turn (Turns.rn [(26701, 100)] (S' := ⟨[(12, .P 100), (13, .I 16)], [(100, .raw [.I 0, .I 0, .I 0, .N])]⟩)) ?_
             refine awp_ret ?_
             obtain rfl := Option.some.inj h
             exact .inr ⟨rfl, _, rfl, er (.tup [.agg [.I 0, .I 0, .I 0, .N], .I 16])⟩
            refine ff (b := (decide ((IntKind.i64.wrap (p2 + xt15_33h)) < p0.Commit))) (decide_eq_false c15) ?_
            refine awp_skip' ?_
            refine ar0 L 323 [] [] [] (S' := ⟨[(1, .I p1), (2, .I p2), (4, .cv (.ro .t_aEnt p4)), (5, .I p5), (6, .P 26700), (12, .P 26701), (14, .B false), (15, .I (IntKind.i64.wrap (xt15_33h + 1)))], [(26700, .raw (d_aRep p0)), (26701, .raw [.I 0, .I 0, .I 0, .N])]⟩) ?_
            exact ⟨k, Nat.lt_succ_self k, _, _, rfl, h⟩
           refine ff (b := (decide ((IntKind.i64.wrap (p2 + xt15_33h)) < (p0.Log.length : Int)))) (decide_eq_false c13) ?_
           refine awp_turn (Turns.trans (Turns.kp (S' := ⟨[(1, .I p1), (2, .I p2), (4, .cv (.ro .t_aEnt p4)), (5, .I p5), (6, .P 26700), (12, .P 26701), (14, .B xt14_33h)], [(26700, .raw (d_aRep p0)), (26701, .raw [.I 0, .I 0, .I 0, .N])]⟩)) (Turns.rn [(26700, 26600), (26701, 26601)] (S' := ⟨[(1, .I p1), (2, .I p2), (4, .cv (.ro .t_aEnt p4)), (5, .I p5), (6, .P 26600), (12, .P 26601), (14, .B xt14_33h)], [(26600, .raw (d_aRep p0)), (26601, .raw [.I 0, .I 0, .I 0, .N])]⟩))) ?_
           refine ex (S' := ⟨[(1, .I p1), (2, .I p2), (4, .cv (.ro .t_aEnt p4)), (5, .I p5), (6, .P 26600), (12, .P 26601), (14, .B xt14_33h)], [(26600, .raw (d_aRep p0)), (26601, .raw [.I 0, .I 0, .I 0, .N])]⟩) ?_
           obtain rfl := Option.some.inj h
           exact .inl ⟨rfl, _, rfl, rfl⟩
          refine ar L 282 [(4, false)] [] [] (cs := [(decide (xt15_33h < (p4.length : Int))) = false]) (S' := ⟨[(1, .I p1), (2, .I p2), (4, .cv (.ro .t_aEnt p4)), (5, .I p5), (6, .P 26700), (12, .P 26701), (14, .B xt14_33h), (15, .I xt15_33h), (91, .B false)], [(26700, .raw (d_aRep p0)), (26701, .raw [.I 0, .I 0, .I 0, .N])]⟩) (decide_eq_false c12) ?_
          refine ff (b := false) (rfl) ?_
          refine awp_turn (Turns.trans (Turns.kp (S' := ⟨[(1, .I p1), (2, .I p2), (4, .cv (.ro .t_aEnt p4)), (5, .I p5), (6, .P 26700), (12, .P 26701), (14, .B xt14_33h)], [(26700, .raw (d_aRep p0)), (26701, .raw [.I 0, .I 0, .I 0, .N])]⟩)) (Turns.rn [(26700, 26600), (26701, 26601)] (S' := ⟨[(1, .I p1), (2, .I p2), (4, .cv (.ro .t_aEnt p4)), (5, .I p5), (6, .P 26600), (12, .P 26601), (14, .B xt14_33h)], [(26600, .raw (d_aRep p0)), (26601, .raw [.I 0, .I 0, .I 0, .N])]⟩))) ?_
          refine ex (S' := ⟨[(1, .I p1), (2, .I p2), (4, .cv (.ro .t_aEnt p4)), (5, .I p5), (6, .P 26600), (12, .P 26601), (14, .B xt14_33h)], [(26600, .raw (d_aRep p0)), (26601, .raw [.I 0, .I 0, .I 0, .N])]⟩) ?_
          obtain rfl := Option.some.inj h
          exact .inl ⟨rfl, _, rfl, rfl⟩
         ·rintro e S (⟨rfl, xt14_33, rfl, rfl⟩ | ⟨rfl, a, rfl, hr⟩)
          ·rcases h with ⟨_, e1, h⟩ | ⟨_, e1, h⟩
           ·cases e1
           ·have e2 := Out.go.inj e1
            subst e2
            refine ⟨_, Turns.refl, ?_⟩
            refine awp_seq ?_
            refine sr0 L 327 [] [] [] (S' := ⟨[(1, .I p1), (2, .I p2), (4, .cv (.ro .t_aEnt p4)), (5, .I p5), (6, .P 26600), (12, .P 26601), (14, .B xt14_33), (118, .B (decide ((IntKind.i64.wrap (p2 + (p4.length : Int))) > 5000)))], [(26600, .raw (d_aRep p0)), (26601, .raw [.I 0, .I 0, .I 0, .N])]⟩) ?_
            rcases ite_some h with ⟨c16, h⟩ | ⟨c16, h⟩
            ·refine tt (b := (decide ((IntKind.i64.wrap (p2 + (p4.length : Int))) > 5000))) (decide_eq_true c16) ?_
             refine sr0 L 333 [] [] [] (S' := ⟨[(12, .P 26601), (13, .I 18)], [(26601, .raw [.I 0, .I 0, .I 0, .N])]⟩) ?_
             refine awp_turn (Turns.rn [(26601, 100)] (S' := ⟨[(12, .P 100), (13, .I 18)], [(100, .raw [.I 0, .I 0, .I 0, .N])]⟩)) ?_
             refine awp_ret ?_
             obtain rfl := Option.some.inj h
             exact er (.tup [.agg [.I 0, .I 0, .I 0, .N], .I 18])
            refine ff (b := (decide ((IntKind.i64.wrap (p2 + (p4.length : Int))) > 5000))) (decide_eq_false c16) ?_
            refine awp_skip' ?_
            refine sr0 L 337 [] [] [] (S' := ⟨[(1, .I p1), (2, .I p2), (4, .cv (.ro .t_aEnt p4)), (5, .I p5), (6, .P 26600), (12, .P 26601), (14, .B xt14_33), (16, .P 343)], [(343, .raw [.I p1, .I p0.Vote, .I p0.Commit, .N]), (26600, .raw (d_aRep p0)), (26601, .raw [.I 0, .I 0, .I 0, .N])]⟩) ?_
            obtain ⟨o3, hp3, h⟩ := bind_some h
            refine awp_seq (awp_mono (Q' := fun e S => (e = .normal ∧ ∃ x33202_1 : Int, S = ⟨[(2, .I p2), (4, .cv (.ro .t_aEnt p4)), (5, .I p5), (6, .P 33200), (12, .P 33201), (14, .B xt14_33), (16, .P 33202)], [(33200, .raw (d_aRep p0)), (33201, .raw [.I 0, .I 0, .I 0, .N]), (33202, .raw [.I p1, .I x33202_1, .I p0.Commit, .N])]⟩ ∧ x33202_1 = o3)) ?_ ?_)
            ·clear h
             replace h := hp3
             refine sr0 L 346 [] [] [] (S' := ⟨[(2, .I p2), (4, .cv (.ro .t_aEnt p4)), (5, .I p5), (6, .P 26600), (12, .P 26601), (14, .B xt14_33), (16, .P 343), (129, .B (decide (p1 > p0.Epoch)))], [(343, .raw [.I p1, .I p0.Vote, .I p0.Commit, .N]), (26600, .raw (d_aRep p0)), (26601, .raw [.I 0, .I 0, .I 0, .N])]⟩) ?_
             rcases ite_some h with ⟨c17, h⟩ | ⟨c17, h⟩
             ·refine tt (b := (decide (p1 > p0.Epoch))) (decide_eq_true c17) ?_
              refine awp_post (ar0 L 351 [] [] [] (S' := ⟨[(2, .I p2), (4, .cv (.ro .t_aEnt p4)), (5, .I p5), (6, .P 26600), (12, .P 26601), (14, .B xt14_33), (16, .P 343)], [(343, .raw [.I p1, .I (-1), .I p0.Commit, .N]), (26600, .raw (d_aRep p0)), (26601, .raw [.I 0, .I 0, .I 0, .N])]⟩) ⟨rfl, rfl⟩) (Turns.trans (Turns.kp (S' := ⟨[(2, .I p2), (4, .cv (.ro .t_aEnt p4)), (5, .I p5), (6, .P 26600), (12, .P 26601), (14, .B xt14_33), (16, .P 343)], [(343, .raw [.I p1, .I (-1), .I p0.Commit, .N]), (26600, .raw (d_aRep p0)), (26601, .raw [.I 0, .I 0, .I 0, .N])]⟩)) (Turns.trans (Turns.rn [(343, 33202), (26600, 33200), (26601, 33201)] (S' := ⟨[(2, .I p2), (4, .cv (.ro .t_aEnt p4)), (5, .I p5), (6, .P 33200), (12, .P 33201), (14, .B xt14_33), (16, .P 33202)], [(33202, .raw [.I p1, .I (-1), .I p0.Commit, .N]), (33200, .raw (d_aRep p0)), (33201, .raw [.I 0, .I 0, .I 0, .N])]⟩)) (Turns.kp (S' := ⟨[(2, .I p2), (4, .cv (.ro .t_aEnt p4)), (5, .I p5), (6, .P 33200), (12, .P 33201), (14, .B xt14_33), (16, .P 33202)], [(33200, .raw (d_aRep p0)), (33201, .raw [.I 0, .I 0, .I 0, .N]), (33202, .raw [.I p1, .I (-1), .I p0.Commit, .N])]⟩)))) ?_
              obtain rfl := Option.some.inj h
              exact ⟨rfl, _, rfl, rfl⟩
             refine ff (b := (decide (p1 > p0.Epoch))) (decide_eq_false c17) ?_
             refine awp_turn (Turns.trans (Turns.kp (S' := ⟨[(2, .I p2), (4, .cv (.ro .t_aEnt p4)), (5, .I p5), (6, .P 26600), (12, .P 26601), (14, .B xt14_33), (16, .P 343)], [(343, .raw [.I p1, .I p0.Vote, .I p0.Commit, .N]), (26600, .raw (d_aRep p0)), (26601, .raw [.I 0, .I 0, .I 0, .N])]⟩)) (Turns.rn [(343, 33202), (26600, 33200), (26601, 33201)] (S' := ⟨[(2, .I p2), (4, .cv (.ro .t_aEnt p4)), (5, .I p5), (6, .P 33200), (12, .P 33201), (14, .B xt14_33), (16, .P 33202)], [(33202, .raw [.I p1, .I p0.Vote, .I p0.Commit, .N]), (33200, .raw (d_aRep p0)), (33201, .raw [.I 0, .I 0, .I 0, .N])]⟩))) ?_
             refine sk (S' := ⟨[(2, .I p2), (4, .cv (.ro .t_aEnt p4)), (5, .I p5), (6, .P 33200), (12, .P 33201), (14, .B xt14_33), (16, .P 33202)], [(33200, .raw (d_aRep p0)), (33201, .raw [.I 0, .I 0, .I 0, .N]), (33202, .raw [.I p1, .I p0.Vote, .I p0.Commit, .N])]⟩) ?_
             obtain rfl := Option.some.inj h
             exact ⟨rfl, _, rfl, rfl⟩
            ·rintro e S ⟨rfl, x33202_1, rfl, rfl⟩
             refine awp_seq ?_
             obtain ⟨g4, h⟩ := guard_some h
             obtain ⟨g5, h⟩ := guard_some h
             refine ad L mixed 354 [] [] [] [] 6 (cs := [(0 : Int) ≤ 0, (0 : Int) ≤ p2, p2 ≤ (p0.Log.length : Int), (slc p0.Log 0 p2).length * 32 ≤ 140737488355328, True]) (S' := ⟨[(2, .I p2), (4, .cv (.ro .t_aEnt p4)), (5, .I p5), (6, .P 33200), (12, .P 33201), (14, .B xt14_33), (16, .P 33202)], [(360, .lst .t_aEnt (slc p0.Log 0 p2)), (33200, .raw (d_aRep p0)), (33201, .raw [.I 0, .I 0, .I 0, .N]), (33202, .raw [.I p1, .I x33202_1, .I p0.Commit, .own .t_aEnt 360])]⟩) (And.intro (Int.le_refl _) (And.intro g4.1 (And.intro g4.2 (And.intro g5 trivial)))) ?_
             refine awp_seq ?_
             obtain ⟨g6, h⟩ := guard_some h
             refine ar L 364 [] [] [] (cs := [((slc p0.Log 0 p2).length + p4.length) * 32 ≤ 140737488355328, True]) (S' := ⟨[(2, .I p2), (4, .cv (.ro .t_aEnt p4)), (5, .I p5), (6, .P 33200), (12, .P 33201), (14, .B xt14_33), (16, .P 33202)], [(360, .lst .t_aEnt ((slc p0.Log 0 p2) ++ p4)), (33200, .raw (d_aRep p0)), (33201, .raw [.I 0, .I 0, .I 0, .N]), (33202, .raw [.I p1, .I x33202_1, .I p0.Commit, .own .t_aEnt 360])]⟩) (And.intro g6 trivial) ?_
             obtain ⟨o5, hp5, h⟩ := bind_some h
             refine awp_seq (awp_mono (Q' := fun e S => (e = .normal ∧ ∃ x35202 : List aEnt, S = ⟨[(2, .I p2), (4, .cv (.ro .t_aEnt p4)), (5, .I p5), (12, .P 35200), (16, .P 35201)], [(35200, .raw [.I 0, .I 0, .I 0, .N]), (35201, .raw [.I p1, .I x33202_1, .I p0.Commit, .own .t_aEnt 35202]), (35202, .lst .t_aEnt x35202)]⟩ ∧ x35202 = o5)) ?_ ?_)
             ·clear h
              replace h := hp5
              obtain ⟨o4, hp4, h⟩ := bind_some h
              refine awp_seq (awp_mono (Q' := fun e S => (e = .normal ∧ ∃ xt154_77 : Bool, S = ⟨[(2, .I p2), (4, .cv (.ro .t_aEnt p4)), (5, .I p5), (6, .P 35400), (12, .P 35401), (16, .P 35402), (154, .B xt154_77)], [(35400, .raw (d_aRep p0)), (35401, .raw [.I 0, .I 0, .I 0, .N]), (35402, .raw [.I p1, .I x33202_1, .I p0.Commit, .own .t_aEnt 35403]), (35403, .lst .t_aEnt ((slc p0.Log 0 p2) ++ p4))]⟩ ∧ xt154_77 = o4)) ?_ ?_)
              ·clear h
               replace h := hp4
               rcases ite_some h with ⟨c18, h⟩ | ⟨c18, h⟩
               ·refine awp_post (ar L 371 [(1, true)] [] [] (cs := [xt14_33 = true]) (S' := ⟨[(2, .I p2), (4, .cv (.ro .t_aEnt p4)), (5, .I p5), (6, .P 33200), (12, .P 33201), (16, .P 33202), (154, .B (decide ((p0.Log.length : Int) > (IntKind.i64.wrap (p2 + (p4.length : Int))))))], [(360, .lst .t_aEnt ((slc p0.Log 0 p2) ++ p4)), (33200, .raw (d_aRep p0)), (33201, .raw [.I 0, .I 0, .I 0, .N]), (33202, .raw [.I p1, .I x33202_1, .I p0.Commit, .own .t_aEnt 360])]⟩) c18 ⟨rfl, rfl⟩) (Turns.trans (Turns.kp (S' := ⟨[(2, .I p2), (4, .cv (.ro .t_aEnt p4)), (5, .I p5), (6, .P 33200), (12, .P 33201), (16, .P 33202), (154, .B (decide ((p0.Log.length : Int) > (IntKind.i64.wrap (p2 + (p4.length : Int))))))], [(360, .lst .t_aEnt ((slc p0.Log 0 p2) ++ p4)), (33200, .raw (d_aRep p0)), (33201, .raw [.I 0, .I 0, .I 0, .N]), (33202, .raw [.I p1, .I x33202_1, .I p0.Commit, .own .t_aEnt 360])]⟩)) (Turns.trans (Turns.rn [(360, 35403), (33200, 35400), (33201, 35401), (33202, 35402)] (S' := ⟨[(2, .I p2), (4, .cv (.ro .t_aEnt p4)), (5, .I p5), (6, .P 35400), (12, .P 35401), (16, .P 35402), (154, .B (decide ((p0.Log.length : Int) > (IntKind.i64.wrap (p2 + (p4.length : Int))))))], [(35403, .lst .t_aEnt ((slc p0.Log 0 p2) ++ p4)), (35400, .raw (d_aRep p0)), (35401, .raw [.I 0, .I 0, .I 0, .N]), (35402, .raw [.I p1, .I x33202_1, .I p0.Commit, .own .t_aEnt 35403])]⟩)) (Turns.kp (S' := ⟨[(2, .I p2), (4, .cv (.ro .t_aEnt p4)), (5, .I p5), (6, .P 35400), (12, .P 35401), (16, .P 35402), (154, .B (decide ((p0.Log.length : Int) > (IntKind.i64.wrap (p2 + (p4.length : Int))))))], [(35400, .raw (d_aRep p0)), (35401, .raw [.I 0, .I 0, .I 0, .N]), (35402, .raw [.I p1, .I x33202_1, .I p0.Commit, .own .t_aEnt 35403]), (35403, .lst .t_aEnt ((slc p0.Log 0 p2) ++ p4))]⟩)))) ?_
                obtain rfl := Option.some.inj h
                exact ⟨rfl, _, rfl, rfl⟩
               refine awp_post (ar L 371 [(1, false)] [] [] (cs := [xt14_33 = false]) (S' := ⟨[(2, .I p2), (4, .cv (.ro .t_aEnt p4)), (5, .I p5), (6, .P 33200), (12, .P 33201), (16, .P 33202), (154, .B false)], [(360, .lst .t_aEnt ((slc p0.Log 0 p2) ++ p4)), (33200, .raw (d_aRep p0)), (33201, .raw [.I 0, .I 0, .I 0, .N]), (33202, .raw [.I p1, .I x33202_1, .I p0.Commit, .own .t_aEnt 360])]⟩) (eq_false_of_ne_true c18) ⟨rfl, rfl⟩) (Turns.trans (Turns.kp (S' := ⟨[(2, .I p2), (4, .cv (.ro .t_aEnt p4)), (5, .I p5), (6, .P 33200), (12, .P 33201), (16, .P 33202), (154, .B false)], [(360, .lst .t_aEnt ((slc p0.Log 0 p2) ++ p4)), (33200, .raw (d_aRep p0)), (33201, .raw [.I 0, .I 0, .I 0, .N]), (33202, .raw [.I p1, .I x33202_1, .I p0.Commit, .own .t_aEnt 360])]⟩)) (Turns.trans (Turns.rn [(360, 35403), (33200, 35400), (33201, 35401), (33202, 35402)] (S' := ⟨[(2, .I p2), (4, .cv (.ro .t_aEnt p4)), (5, .I p5), (6, .P 35400), (12, .P 35401), (16, .P 35402), (154, .B false)], [(35403, .lst .t_aEnt ((slc p0.Log 0 p2) ++ p4)), (35400, .raw (d_aRep p0)), (35401, .raw [.I 0, .I 0, .I 0, .N]), (35402, .raw [.I p1, .I x33202_1, .I p0.Commit, .own .t_aEnt 35403])]⟩)) (Turns.kp (S' := ⟨[(2, .I p2), (4, .cv (.ro .t_aEnt p4)), (5, .I p5), (6, .P 35400), (12, .P 35401), (16, .P 35402), (154, .B false)], [(35400, .raw (d_aRep p0)), (35401, .raw [.I 0, .I 0, .I 0, .N]), (35402, .raw [.I p1, .I x33202_1, .I p0.Commit, .own .t_aEnt 35403]), (35403, .lst .t_aEnt ((slc p0.Log 0 p2) ++ p4))]⟩)))) ?_
               obtain rfl := Option.some.inj h
               exact ⟨rfl, _, rfl, rfl⟩
              ·rintro e S ⟨rfl, xt154_77, rfl, rfl⟩
               rcases ite_some h with ⟨c19, h⟩ | ⟨c19, h⟩
               ·refine tt (b := xt154_77) (c19) ?_
                obtain ⟨g7, h⟩ := guard_some h
                obtain ⟨g8, h⟩ := guard_some h
                refine awp_post (ad L mixed 383 [] [] [] [] 9 (cs := [(0 : Int) ≤ (IntKind.i64.wrap (p2 + (p4.length : Int))), (IntKind.i64.wrap (p2 + (p4.length : Int))) ≤ (p0.Log.length : Int), (p0.Log.length : Int) ≤ (p0.Log.length : Int), (((slc p0.Log 0 p2) ++ p4).length + (slc p0.Log (IntKind.i64.wrap (p2 + (p4.length : Int))) (p0.Log.length : Int)).length) * 32 ≤ 140737488355328, True]) (S' := ⟨[(2, .I p2), (4, .cv (.ro .t_aEnt p4)), (5, .I p5), (12, .P 35401), (16, .P 35402)], [(35401, .raw [.I 0, .I 0, .I 0, .N]), (35402, .raw [.I p1, .I x33202_1, .I p0.Commit, .own .t_aEnt 35403]), (35403, .lst .t_aEnt (((slc p0.Log 0 p2) ++ p4) ++ (slc p0.Log (IntKind.i64.wrap (p2 + (p4.length : Int))) (p0.Log.length : Int))))]⟩) (And.intro g7.1 (And.intro g7.2 (And.intro (Int.le_refl _) (And.intro g8 trivial)))) ⟨rfl, rfl⟩) (Turns.trans (Turns.kp (S' := ⟨[(2, .I p2), (4, .cv (.ro .t_aEnt p4)), (5, .I p5), (12, .P 35401), (16, .P 35402)], [(35401, .raw [.I 0, .I 0, .I 0, .N]), (35402, .raw [.I p1, .I x33202_1, .I p0.Commit, .own .t_aEnt 35403]), (35403, .lst .t_aEnt (((slc p0.Log 0 p2) ++ p4) ++ (slc p0.Log (IntKind.i64.wrap (p2 + (p4.length : Int))) (p0.Log.length : Int))))]⟩)) (Turns.trans (Turns.rn [(35401, 35200), (35402, 35201), (35403, 35202)] (S' := ⟨[(2, .I p2), (4, .cv (.ro .t_aEnt p4)), (5, .I p5), (12, .P 35200), (16, .P 35201)], [(35200, .raw [.I 0, .I 0, .I 0, .N]), (35201, .raw [.I p1, .I x33202_1, .I p0.Commit, .own .t_aEnt 35202]), (35202, .lst .t_aEnt (((slc p0.Log 0 p2) ++ p4) ++ (slc p0.Log (IntKind.i64.wrap (p2 + (p4.length : Int))) (p0.Log.length : Int))))]⟩)) (Turns.kp (S' := ⟨[(2, .I p2), (4, .cv (.ro .t_aEnt p4)), (5, .I p5), (12, .P 35200), (16, .P 35201)], [(35200, .raw [.I 0, .I 0, .I 0, .N]), (35201, .raw [.I p1, .I x33202_1, .I p0.Commit, .own .t_aEnt 35202]), (35202, .lst .t_aEnt (((slc p0.Log 0 p2) ++ p4) ++ (slc p0.Log (IntKind.i64.wrap (p2 + (p4.length : Int))) (p0.Log.length : Int))))]⟩)))) ?_
                obtain rfl := Option.some.inj h
                exact ⟨rfl, _, rfl, rfl⟩
               refine ff (b := xt154_77) (eq_false_of_ne_true c19) ?_
               refine awp_turn (Turns.trans (Turns.kp (S' := ⟨[(2, .I p2), (4, .cv (.ro .t_aEnt p4)), (5, .I p5), (12, .P 35401), (16, .P 35402)], [(35401, .raw [.I 0, .I 0, .I 0, .N]), (35402, .raw [.I p1, .I x33202_1, .I p0.Commit, .own .t_aEnt 35403]), (35403, .lst .t_aEnt ((slc p0.Log 0 p2) ++ p4))]⟩)) (Turns.rn [(35401, 35200), (35402, 35201), (35403, 35202)] (S' := ⟨[(2, .I p2), (4, .cv (.ro .t_aEnt p4)), (5, .I p5), (12, .P 35200), (16, .P 35201)], [(35200, .raw [.I 0, .I 0, .I 0, .N]), (35201, .raw [.I p1, .I x33202_1, .I p0.Commit, .own .t_aEnt 35202]), (35202, .lst .t_aEnt ((slc p0.Log 0 p2) ++ p4))]⟩))) ?_
               refine sk (S' := ⟨[(2, .I p2), (4, .cv (.ro .t_aEnt p4)), (5, .I p5), (12, .P 35200), (16, .P 35201)], [(35200, .raw [.I 0, .I 0, .I 0, .N]), (35201, .raw [.I p1, .I x33202_1, .I p0.Commit, .own .t_aEnt 35202]), (35202, .lst .t_aEnt ((slc p0.Log 0 p2) ++ p4))]⟩) ?_
               obtain rfl := Option.some.inj h
               exact ⟨rfl, _, rfl, rfl⟩
             ·rintro e S ⟨rfl, x35202, rfl, rfl⟩
              obtain ⟨o6, hp6, h⟩ := bind_some h
              refine awp_seq (awp_mono (Q' := fun e S => (e = .normal ∧ ∃ xt5_82 : Int, S = ⟨[(5, .I xt5_82), (12, .P 36400), (16, .P 36401)], [(36400, .raw [.I 0, .I 0, .I 0, .N]), (36401, .raw [.I p1, .I x33202_1, .I p0.Commit, .own .t_aEnt 36402]), (36402, .lst .t_aEnt x35202)]⟩ ∧ xt5_82 = o6)) ?_ ?_)
              ·clear h
               replace h := hp6
               refine sr0 L 396 [] [] [] (S' := ⟨[(2, .I p2), (4, .cv (.ro .t_aEnt p4)), (5, .I p5), (12, .P 35200), (16, .P 35201), (171, .B (decide (p5 > (IntKind.i64.wrap (p2 + (p4.length : Int))))))], [(35200, .raw [.I 0, .I 0, .I 0, .N]), (35201, .raw [.I p1, .I x33202_1, .I p0.Commit, .own .t_aEnt 35202]), (35202, .lst .t_aEnt x35202)]⟩) ?_
               rcases ite_some h with ⟨c20, h⟩ | ⟨c20, h⟩
               ·refine tt (b := (decide (p5 > (IntKind.i64.wrap (p2 + (p4.length : Int)))))) (decide_eq_true c20) ?_
                refine awp_post (ar0 L 403 [] [] [] (S' := ⟨[(5, .I (IntKind.i64.wrap (p2 + (p4.length : Int)))), (12, .P 35200), (16, .P 35201)], [(35200, .raw [.I 0, .I 0, .I 0, .N]), (35201, .raw [.I p1, .I x33202_1, .I p0.Commit, .own .t_aEnt 35202]), (35202, .lst .t_aEnt x35202)]⟩) ⟨rfl, rfl⟩) (Turns.trans (Turns.kp (S' := ⟨[(5, .I (IntKind.i64.wrap (p2 + (p4.length : Int)))), (12, .P 35200), (16, .P 35201)], [(35200, .raw [.I 0, .I 0, .I 0, .N]), (35201, .raw [.I p1, .I x33202_1, .I p0.Commit, .own .t_aEnt 35202]), (35202, .lst .t_aEnt x35202)]⟩)) (Turns.trans (Turns.rn [(35200, 36400), (35201, 36401), (35202, 36402)] (S' := ⟨[(5, .I (IntKind.i64.wrap (p2 + (p4.length : Int)))), (12, .P 36400), (16, .P 36401)], [(36400, .raw [.I 0, .I 0, .I 0, .N]), (36401, .raw [.I p1, .I x33202_1, .I p0.Commit, .own .t_aEnt 36402]), (36402, .lst .t_aEnt x35202)]⟩)) (Turns.kp (S' := ⟨[(5, .I (IntKind.i64.wrap (p2 + (p4.length : Int)))), (12, .P 36400), (16, .P 36401)], [(36400, .raw [.I 0, .I 0, .I 0, .N]), (36401, .raw [.I p1, .I x33202_1, .I p0.Commit, .own .t_aEnt 36402]), (36402, .lst .t_aEnt x35202)]⟩)))) ?_
                obtain rfl := Option.some.inj h
                exact ⟨rfl, _, rfl, rfl⟩
               refine ff (b := (decide (p5 > (IntKind.i64.wrap (p2 + (p4.length : Int)))))) (decide_eq_false c20) ?_
               refine awp_turn (Turns.trans (Turns.kp (S' := ⟨[(5, .I p5), (12, .P 35200), (16, .P 35201)], [(35200, .raw [.I 0, .I 0, .I 0, .N]), (35201, .raw [.I p1, .I x33202_1, .I p0.Commit, .own .t_aEnt 35202]), (35202, .lst .t_aEnt x35202)]⟩)) (Turns.rn [(35200, 36400), (35201, 36401), (35202, 36402)] (S' := ⟨[(5, .I p5), (12, .P 36400), (16, .P 36401)], [(36400, .raw [.I 0, .I 0, .I 0, .N]), (36401, .raw [.I p1, .I x33202_1, .I p0.Commit, .own .t_aEnt 36402]), (36402, .lst .t_aEnt x35202)]⟩))) ?_
               refine sk (S' := ⟨[(5, .I p5), (12, .P 36400), (16, .P 36401)], [(36400, .raw [.I 0, .I 0, .I 0, .N]), (36401, .raw [.I p1, .I x33202_1, .I p0.Commit, .own .t_aEnt 36402]), (36402, .lst .t_aEnt x35202)]⟩) ?_
               obtain rfl := Option.some.inj h
               exact ⟨rfl, _, rfl, rfl⟩
              ·rintro e S ⟨rfl, xt5_82, rfl, rfl⟩
               refine awp_seq ?_
               refine sr0 L 409 [] [] [] (S' := ⟨[(5, .I xt5_82), (12, .P 36400), (16, .P 36401), (179, .B (decide (xt5_82 > p0.Commit)))], [(36400, .raw [.I 0, .I 0, .I 0, .N]), (36401, .raw [.I p1, .I x33202_1, .I p0.Commit, .own .t_aEnt 36402]), (36402, .lst .t_aEnt x35202)]⟩) ?_
               rcases ite_some h with ⟨c21, h⟩ | ⟨c21, h⟩
               ·refine tt (b := (decide (xt5_82 > p0.Commit))) (decide_eq_true c21) ?_
                refine ar0 L 414 [] [] [] (S' := ⟨[(12, .P 36400), (16, .P 36401)], [(36400, .raw [.I 0, .I 0, .I 0, .N]), (36401, .raw [.I p1, .I x33202_1, .I xt5_82, .own .t_aEnt 36402]), (36402, .lst .t_aEnt x35202)]⟩) ?_
                refine sr0 L 418 [] [] [] (S' := ⟨[(12, .P 36400), (13, .I 0)], [(36400, .raw [.I p1, .I x33202_1, .I xt5_82, .own .t_aEnt 36402]), (36402, .lst .t_aEnt x35202)]⟩) ?_
                refine awp_turn (Turns.trans (Turns.frz 36402 (blk0 := .lst .t_aEnt x35202) (by kernel_rfl) (by kernel_rfl) (S' := ⟨[(12, .P 36400), (13, .I 0)], [(36400, .raw [.I p1, .I x33202_1, .I xt5_82, .ro .t_aEnt x35202])]⟩) (by kernel_rfl)) (Turns.rn [(36400, 100)] (S' := ⟨[(12, .P 100), (13, .I 0)], [(100, .raw [.I p1, .I x33202_1, .I xt5_82, .ro .t_aEnt x35202])]⟩))) ?_
                refine awp_ret ?_
                obtain rfl := Option.some.inj h
                exact er (.tup [.agg [.I p1, .I x33202_1, .I xt5_82, .ro .t_aEnt x35202], .I 0])
               refine ff (b := (decide (xt5_82 > p0.Commit))) (decide_eq_false c21) ?_
               refine awp_skip' ?_
               refine sr0 L 418 [] [] [] (S' := ⟨[(12, .P 36400), (13, .I 0)], [(36400, .raw [.I p1, .I x33202_1, .I p0.Commit, .own .t_aEnt 36402]), (36402, .lst .t_aEnt x35202)]⟩) ?_
               refine awp_turn (Turns.trans (Turns.frz 36402 (blk0 := .lst .t_aEnt x35202) (by kernel_rfl) (by kernel_rfl) (S' := ⟨[(12, .P 36400), (13, .I 0)], [(36400, .raw [.I p1, .I x33202_1, .I p0.Commit, .ro .t_aEnt x35202])]⟩) (by kernel_rfl)) (Turns.rn [(36400, 100)] (S' := ⟨[(12, .P 100), (13, .I 0)], [(100, .raw [.I p1, .I x33202_1, .I p0.Commit, .ro .t_aEnt x35202])]⟩))) ?_
               refine awp_ret ?_
               obtain rfl := Option.some.inj h
               exact er (.tup [.agg [.I p1, .I x33202_1, .I p0.Commit, .ro .t_aEnt x35202], .I 0])
          ·rcases h with ⟨_, e1, h⟩ | ⟨_, e1, h⟩
           ·have e2 := Out.done.inj e1
            subst e2
            subst h
            exact ⟨_, Turns.refl, hr⟩
           ·cases e1
       ·rcases h with ⟨_, e1, h⟩ | ⟨_, e1, h⟩
        ·have e2 := Out.done.inj e1
         subst e2
         subst h
         exact hr
        ·cases e1
     refine tt (b := (!a4)) (congrArg Bool.not (eq_false_of_ne_true c7)) ?_
     refine sr0 L 240 [] [] [] (S' := ⟨[(12, .P 201), (13, .I 2)], [(201, .raw [.I 0, .I 0, .I 0, .N])]⟩) ?_
     refine awp_turn (Turns.rn [(201, 100)] (S' := ⟨[(12, .P 100), (13, .I 2)], [(100, .raw [.I 0, .I 0, .I 0, .N])]⟩)) ?_
     refine awp_ret ?_
     obtain rfl := Option.some.inj h
     exact er (.tup [.agg [.I 0, .I 0, .I 0, .N], .I 2])
    refine ar L 204 [(3, false), (8, false), (13, false), (17, false), (24, true)] [(1, .B a1), (5, .B a2), (10, .B a3)] [] (cs := [PCall V P 33 [.agg (d_aRep p0)] (.B a1), True, (!a1) = false, PCall V P 66 [.I p1, .I 1, .I 1099511627776] (.B a2), True, (!a2) = false, PCall V P 66 [.I p2, .I 0, .I 5000] (.B a3), True, (!a3) = false, (decide (p3 < 0)) = false, (!((decide (p2 = 0)) == (decide (p3 = 0)))) = true]) (S' := ⟨[(1, .I p1), (2, .I p2), (3, .I p3), (4, .cv (.ro .t_aEnt p4)), (5, .I p5), (6, .P 200), (12, .P 201), (51, .B true)], [(200, .raw (d_aRep p0)), (201, .raw [.I 0, .I 0, .I 0, .N])]⟩) (And.intro (wr52_Right.ok h1) (And.intro trivial (And.intro (congrArg Bool.not (c1)) (And.intro (wr52_in.ok h2) (And.intro trivial (And.intro (congrArg Bool.not (c2)) (And.intro (wr52_in.ok h3) (And.intro trivial (And.intro (congrArg Bool.not (c3)) (And.intro (decide_eq_false c4) (congrArg Bool.not (eq_false_of_ne_true c5)))))))))))) ?_
    refine tt (b := true) (rfl) ?_
    refine sr0 L 240 [] [] [] (S' := ⟨[(12, .P 201), (13, .I 2)], [(201, .raw [.I 0, .I 0, .I 0, .N])]⟩) ?_
    refine awp_turn (Turns.rn [(201, 100)] (S' := ⟨[(12, .P 100), (13, .I 2)], [(100, .raw [.I 0, .I 0, .I 0, .N])]⟩)) ?_
    refine awp_ret ?_
    obtain rfl := Option.some.inj h
    exact er (.tup [.agg [.I 0, .I 0, .I 0, .N], .I 2])
   refine ar L 204 [(3, false), (8, false), (13, true)] [(1, .B a1), (5, .B a2), (10, .B a3)] [] (cs := [PCall V P 33 [.agg (d_aRep p0)] (.B a1), True, (!a1) = false, PCall V P 66 [.I p1, .I 1, .I 1099511627776] (.B a2), True, (!a2) = false, PCall V P 66 [.I p2, .I 0, .I 5000] (.B a3), True, (!a3) = true]) (S' := ⟨[(1, .I p1), (2, .I p2), (3, .I p3), (4, .cv (.ro .t_aEnt p4)), (5, .I p5), (6, .P 200), (12, .P 201), (51, .B true)], [(200, .raw (d_aRep p0)), (201, .raw [.I 0, .I 0, .I 0, .N])]⟩) (And.intro (wr52_Right.ok h1) (And.intro trivial (And.intro (congrArg Bool.not (c1)) (And.intro (wr52_in.ok h2) (And.intro trivial (And.intro (congrArg Bool.not (c2)) (And.intro (wr52_in.ok h3) (And.intro trivial (congrArg Bool.not (eq_false_of_ne_true c3)))))))))) ?_
   refine tt (b := true) (rfl) ?_
   refine sr0 L 240 [] [] [] (S' := ⟨[(12, .P 201), (13, .I 2)], [(201, .raw [.I 0, .I 0, .I 0, .N])]⟩) ?_
   refine awp_turn (Turns.rn [(201, 100)] (S' := ⟨[(12, .P 100), (13, .I 2)], [(100, .raw [.I 0, .I 0, .I 0, .N])]⟩)) ?_
   refine awp_ret ?_
   obtain rfl := Option.some.inj h
   exact er (.tup [.agg [.I 0, .I 0, .I 0, .N], .I 2])
  refine ar L 204 [(3, false), (8, true)] [(1, .B a1), (5, .B a2)] [] (cs := [PCall V P 33 [.agg (d_aRep p0)] (.B a1), True, (!a1) = false, PCall V P 66 [.I p1, .I 1, .I 1099511627776] (.B a2), True, (!a2) = true]) (S' := ⟨[(1, .I p1), (2, .I p2), (3, .I p3), (4, .cv (.ro .t_aEnt p4)), (5, .I p5), (6, .P 200), (12, .P 201), (51, .B true)], [(200, .raw (d_aRep p0)), (201, .raw [.I 0, .I 0, .I 0, .N])]⟩) (And.intro (wr52_Right.ok h1) (And.intro trivial (And.intro (congrArg Bool.not (c1)) (And.intro (wr52_in.ok h2) (And.intro trivial (congrArg Bool.not (eq_false_of_ne_true c2))))))) ?_
  refine tt (b := true) (rfl) ?_
  refine sr0 L 240 [] [] [] (S' := ⟨[(12, .P 201), (13, .I 2)], [(201, .raw [.I 0, .I 0, .I 0, .N])]⟩) ?_
  refine awp_turn (Turns.rn [(201, 100)] (S' := ⟨[(12, .P 100), (13, .I 2)], [(100, .raw [.I 0, .I 0, .I 0, .N])]⟩)) ?_
  refine awp_ret ?_
  obtain rfl := Option.some.inj h
  exact er (.tup [.agg [.I 0, .I 0, .I 0, .N], .I 2])
 refine ar L 204 [(3, true)] [(1, .B a1)] [] (cs := [PCall V P 33 [.agg (d_aRep p0)] (.B a1), True, (!a1) = true]) (S' := ⟨[(1, .I p1), (2, .I p2), (3, .I p3), (4, .cv (.ro .t_aEnt p4)), (5, .I p5), (6, .P 200), (12, .P 201), (51, .B true)], [(200, .raw (d_aRep p0)), (201, .raw [.I 0, .I 0, .I 0, .N])]⟩) (And.intro (wr52_Right.ok h1) (And.intro trivial (congrArg Bool.not (eq_false_of_ne_true c1)))) ?_
 refine tt (b := true) (rfl) ?_
 refine sr0 L 240 [] [] [] (S' := ⟨[(12, .P 201), (13, .I 2)], [(201, .raw [.I 0, .I 0, .I 0, .N])]⟩) ?_
 refine awp_turn (Turns.rn [(201, 100)] (S' := ⟨[(12, .P 100), (13, .I 2)], [(100, .raw [.I 0, .I 0, .I 0, .N])]⟩)) ?_
 refine awp_ret ?_
 obtain rfl := Option.some.inj h
 exact er (.tup [.agg [.I 0, .I 0, .I 0, .N], .I 2])
theorem wr52_Accept.ok {K : Nat} {p0 : aRep} {p1 : Int} {p2 : Int} {p3 : Int} {p4 : List aEnt} {p5 : Int} {r : aRep × Int} (h : wr52_Accept K p0 p1 p2 p3 p4 p5 = some r) : PCall V P 82 [.agg (d_aRep p0), .I p1, .I p2, .I p3, .cv (.ro .t_aEnt p4), .I p5] (.tup [.agg [.I r.1.Epoch, .I r.1.Vote, .I r.1.Commit, .ro .t_aEnt r.1.Log], .I r.2]) := ECall.pcall (eo (fn := Tryz.f82) (n := 183) (m := 100) fun Γ => wr52_Accept.body h) (by kernel_rfl)
def wr53_reached.l9 (K : Nat) (p0 : List Int) (p1 : Int) : Nat → Int → Int → Option Int
 | 0, _, _ => none
 | k + 1, xt5_9h, xt6_9h => (if xt6_9h < (p0.length : Int) then (if (0 : Int) ≤ xt6_9h ∧ (xt6_9h : Int) < (p0.length : Int) then (if (p0.getD (Int.toNat xt6_9h) (0 : Int)) ≥ p1 then wr53_reached.l9 K p0 p1 k (IntKind.i64.wrap (xt5_9h + 1)) (IntKind.i64.wrap (xt6_9h + 1)) else wr53_reached.l9 K p0 p1 k xt5_9h (IntKind.i64.wrap (xt6_9h + 1))) else none) else some xt5_9h)
def wr53_reached (K : Nat) (p0 : List Int) (p1 : Int) : Option Int := (Option.bind (wr53_reached.l9 K p0 p1 K 0 0 : Option Int) (fun xt5_9 => some xt5_9))
theorem wr53_reached.body {Γ : Ent} {K : Nat} {p0 : List Int} {p1 : Int} {r : Int} (h : wr53_reached K p0 p1 = some r) : AWp V P 22 100 Γ (Tryz.f100.body.getD .skip) (EndsE P V Tryz.f100 (.I r) []) ⟨args0 0 [.cv (.ro .t_int p0), .I p1], []⟩ := by
 unfold wr53_reached at h
 refine sr0 L 200 [] [] [] (S' := ⟨[(0, .cv (.ro .t_int p0)), (1, .I p1)], []⟩) ?_
 refine sr0 L 202 [] [] [] (S' := ⟨[(0, .cv (.ro .t_int p0)), (1, .I p1), (5, .I 0)], []⟩) ?_
 refine awp_seq ?_
 refine sr0 L 204 [] [] [] (S' := ⟨[(0, .cv (.ro .t_int p0)), (1, .I p1), (5, .I 0), (6, .I 0)], []⟩) ?_
 refine awp_block ?_
 refine kp (S' := ⟨[(0, .cv (.ro .t_int p0)), (1, .I p1), (5, .I 0), (6, .I 0)], []⟩) ?_
 obtain ⟨o1, hp1, h⟩ := bind_some h
 refine awp_conseq (Q' := fun e S => (e = .exit 0 ∧ ∃ xt5_9 : Int, S = ⟨[(5, .I xt5_9)], []⟩ ∧ xt5_9 = o1)) (awp_loop (fun k S => ∃ xt5_9h : Int, ∃ xt6_9h : Int, S = ⟨[(0, .cv (.ro .t_int p0)), (1, .I p1), (5, .I xt5_9h), (6, .I xt6_9h)], []⟩ ∧ wr53_reached.l9 K p0 p1 k xt5_9h xt6_9h = some o1) ?_ ⟨_, _, rfl, hp1⟩) ?_
 ·clear h hp1
  intro k S hS
  obtain ⟨xt5_9h, xt6_9h, rfl, h⟩ := hS
  cases k with
  | zero => cases h
  | succ k =>
  unfold wr53_reached.l9 at h
  refine awp_seq ?_
  refine sr0 L 206 [] [] [] (S' := ⟨[(0, .cv (.ro .t_int p0)), (1, .I p1), (5, .I xt5_9h), (6, .I xt6_9h), (10, .B (decide (xt6_9h < (p0.length : Int))))], []⟩) ?_
  rcases ite_some h with ⟨c1, h⟩ | ⟨c1, h⟩
  ·refine tt (b := (decide (xt6_9h < (p0.length : Int)))) (decide_eq_true c1) ?_
   refine awp_skip' ?_
   refine awp_seq ?_
   refine awp_block ?_
   refine awp_seq ?_
   obtain ⟨g1, h⟩ := guard_some h
   refine ar L 211 [] [] [] (cs := [(0 : Int) ≤ xt6_9h, (xt6_9h : Int) < (p0.length : Int)]) (S' := ⟨[(0, .cv (.ro .t_int p0)), (1, .I p1), (5, .I xt5_9h), (6, .I xt6_9h), (18, .B (decide ((p0.getD (Int.toNat xt6_9h) (0 : Int)) ≥ p1)))], []⟩) (And.intro g1.1 g1.2) ?_
   rcases ite_some h with ⟨c2, h⟩ | ⟨c2, h⟩
   ·refine tt (b := (decide ((p0.getD (Int.toNat xt6_9h) (0 : Int)) ≥ p1))) (decide_eq_true c2) ?_
    refine ar0 L 218 [] [] [] (S' := ⟨[(0, .cv (.ro .t_int p0)), (1, .I p1), (5, .I (IntKind.i64.wrap (xt5_9h + 1))), (6, .I xt6_9h)], []⟩) ?_
    refine ar0 L 222 [] [] [] (S' := ⟨[(0, .cv (.ro .t_int p0)), (1, .I p1), (5, .I (IntKind.i64.wrap (xt5_9h + 1))), (6, .I (IntKind.i64.wrap (xt6_9h + 1)))], []⟩) ?_
    exact ⟨k, Nat.lt_succ_self k, _, _, rfl, h⟩
   refine ff (b := (decide ((p0.getD (Int.toNat xt6_9h) (0 : Int)) ≥ p1))) (decide_eq_false c2) ?_
   refine awp_skip' ?_
   refine ar0 L 222 [] [] [] (S' := ⟨[(0, .cv (.ro .t_int p0)), (1, .I p1), (5, .I xt5_9h), (6, .I (IntKind.i64.wrap (xt6_9h + 1)))], []⟩) ?_
   exact ⟨k, Nat.lt_succ_self k, _, _, rfl, h⟩
  refine ff (b := (decide (xt6_9h < (p0.length : Int)))) (decide_eq_false c1) ?_
  refine ex (S' := ⟨[(5, .I xt5_9h)], []⟩) ?_
  obtain rfl := Option.some.inj h
  exact ⟨rfl, _, rfl, rfl⟩
 ·rintro e S ⟨rfl, xt5_9, rfl, rfl⟩
  refine ⟨_, Turns.refl, ?_⟩
  refine sr0 L 226 [] [] [] (S' := ⟨[(4, .I xt5_9)], []⟩) ?_
  refine awp_ret ?_
  obtain rfl := Option.some.inj h
  exact er (.I xt5_9)
theorem wr53_reached.ok {K : Nat} {p0 : List Int} {p1 : Int} {r : Int} (h : wr53_reached K p0 p1 = some r) : PCall V P 100 [.cv (.ro .t_int p0), .I p1] (.I r) := ECall.pcall (eo (fn := Tryz.f100) (n := 22) (m := 100) fun Γ => wr53_reached.body h) (by kernel_rfl)
def wr53_Index.l9 (K : Nat) (p0 : List Int) : Nat → Int → Int → Option Int
 | 0, _, _ => none
 | k + 1, xt3_9h, xt4_9h => (if xt4_9h < (p0.length : Int) then (if (0 : Int) ≤ xt4_9h ∧ (xt4_9h : Int) < (p0.length : Int) then (if (p0.getD (Int.toNat xt4_9h) (0 : Int)) > xt3_9h then (Option.bind (wr53_reached K p0 (p0.getD (Int.toNat xt4_9h) (0 : Int))) (fun a1 => (Option.bind (wr53_Won K a1 (p0.length : Int)) (fun a2 => (if a2 = true then wr53_Index.l9 K p0 k (p0.getD (Int.toNat xt4_9h) (0 : Int)) (IntKind.i64.wrap (xt4_9h + 1)) else wr53_Index.l9 K p0 k xt3_9h (IntKind.i64.wrap (xt4_9h + 1))))))) else wr53_Index.l9 K p0 k xt3_9h (IntKind.i64.wrap (xt4_9h + 1))) else none) else some xt3_9h)
def wr53_Index (K : Nat) (p0 : List Int) : Option Int := (Option.bind (wr53_Index.l9 K p0 K 0 0 : Option Int) (fun xt3_9 => some xt3_9))
theorem wr53_Index.body {Γ : Ent} {K : Nat} {p0 : List Int} {r : Int} (h : wr53_Index K p0 = some r) : AWp V P 33 100 Γ (Tryz.f95.body.getD .skip) (EndsE P V Tryz.f95 (.I r) []) ⟨args0 0 [.cv (.ro .t_int p0)], []⟩ := by
 unfold wr53_Index at h
 refine sr0 L 200 [] [] [] (S' := ⟨[(0, .cv (.ro .t_int p0))], []⟩) ?_
 refine sr0 L 202 [] [] [] (S' := ⟨[(0, .cv (.ro .t_int p0)), (3, .I 0)], []⟩) ?_
 refine awp_seq ?_
 refine sr0 L 204 [] [] [] (S' := ⟨[(0, .cv (.ro .t_int p0)), (3, .I 0), (4, .I 0)], []⟩) ?_
 refine awp_block ?_
 refine kp (S' := ⟨[(0, .cv (.ro .t_int p0)), (3, .I 0), (4, .I 0)], []⟩) ?_
 obtain ⟨o1, hp1, h⟩ := bind_some h
 refine awp_conseq (Q' := fun e S => (e = .exit 0 ∧ ∃ xt3_9 : Int, S = ⟨[(3, .I xt3_9)], []⟩ ∧ xt3_9 = o1)) (awp_loop (fun k S => ∃ xt3_9h : Int, ∃ xt4_9h : Int, S = ⟨[(0, .cv (.ro .t_int p0)), (3, .I xt3_9h), (4, .I xt4_9h)], []⟩ ∧ wr53_Index.l9 K p0 k xt3_9h xt4_9h = some o1) ?_ ⟨_, _, rfl, hp1⟩) ?_
 ·clear h hp1
  intro k S hS
  obtain ⟨xt3_9h, xt4_9h, rfl, h⟩ := hS
  cases k with
  | zero => cases h
  | succ k =>
  unfold wr53_Index.l9 at h
  refine awp_seq ?_
  refine sr0 L 206 [] [] [] (S' := ⟨[(0, .cv (.ro .t_int p0)), (3, .I xt3_9h), (4, .I xt4_9h), (8, .B (decide (xt4_9h < (p0.length : Int))))], []⟩) ?_
  rcases ite_some h with ⟨c1, h⟩ | ⟨c1, h⟩
  ·refine tt (b := (decide (xt4_9h < (p0.length : Int)))) (decide_eq_true c1) ?_
   refine awp_skip' ?_
   refine awp_seq ?_
   refine awp_block ?_
   refine awp_seq ?_
   obtain ⟨g1, h⟩ := guard_some h
   rcases ite_some h with ⟨c2, h⟩ | ⟨c2, h⟩
   ·obtain ⟨a1, h1, h⟩ := bind_some h
    obtain ⟨a2, h2, h⟩ := bind_some h
    refine ar L 211 [(6, true)] [(12, .I a1), (15, .B a2)] [] (cs := [(0 : Int) ≤ xt4_9h, (xt4_9h : Int) < (p0.length : Int), (decide ((p0.getD (Int.toNat xt4_9h) (0 : Int)) > xt3_9h)) = true, (0 : Int) ≤ xt4_9h, (xt4_9h : Int) < (p0.length : Int), PCall V P 100 [.cv (.ro .t_int p0), .I (p0.getD (Int.toNat xt4_9h) (0 : Int))] (.I a1), True, PCall V P 48 [.I a1, .I (p0.length : Int)] (.B a2), True]) (S' := ⟨[(0, .cv (.ro .t_int p0)), (3, .I xt3_9h), (4, .I xt4_9h), (27, .B a2)], []⟩) (And.intro g1.1 (And.intro g1.2 (And.intro (decide_eq_true c2) (And.intro g1.1 (And.intro g1.2 (And.intro (wr53_reached.ok h1) (And.intro trivial (And.intro (wr53_Won.ok h2) trivial)))))))) ?_
    rcases ite_some h with ⟨c3, h⟩ | ⟨c3, h⟩
    ·refine tt (b := a2) (c3) ?_
     refine ar L 229 [] [] [] (cs := [(0 : Int) ≤ xt4_9h, (xt4_9h : Int) < (p0.length : Int)]) (S' := ⟨[(0, .cv (.ro .t_int p0)), (3, .I (p0.getD (Int.toNat xt4_9h) (0 : Int))), (4, .I xt4_9h)], []⟩) (And.intro g1.1 g1.2) ?_
     refine ar0 L 235 [] [] [] (S' := ⟨[(0, .cv (.ro .t_int p0)), (3, .I (p0.getD (Int.toNat xt4_9h) (0 : Int))), (4, .I (IntKind.i64.wrap (xt4_9h + 1)))], []⟩) ?_
     exact ⟨k, Nat.lt_succ_self k, _, _, rfl, h⟩
    refine ff (b := a2) (eq_false_of_ne_true c3) ?_
    refine awp_skip' ?_
    refine ar0 L 235 [] [] [] (S' := ⟨[(0, .cv (.ro .t_int p0)), (3, .I xt3_9h), (4, .I (IntKind.i64.wrap (xt4_9h + 1)))], []⟩) ?_
    exact ⟨k, Nat.lt_succ_self k, _, _, rfl, h⟩
   refine ar L 211 [(6, false)] [] [] (cs := [(0 : Int) ≤ xt4_9h, (xt4_9h : Int) < (p0.length : Int), (decide ((p0.getD (Int.toNat xt4_9h) (0 : Int)) > xt3_9h)) = false]) (S' := ⟨[(0, .cv (.ro .t_int p0)), (3, .I xt3_9h), (4, .I xt4_9h), (27, .B false)], []⟩) (And.intro g1.1 (And.intro g1.2 (decide_eq_false c2))) ?_
   refine ff (b := false) (rfl) ?_
   refine awp_skip' ?_
   refine ar0 L 235 [] [] [] (S' := ⟨[(0, .cv (.ro .t_int p0)), (3, .I xt3_9h), (4, .I (IntKind.i64.wrap (xt4_9h + 1)))], []⟩) ?_
   exact ⟨k, Nat.lt_succ_self k, _, _, rfl, h⟩
  refine ff (b := (decide (xt4_9h < (p0.length : Int)))) (decide_eq_false c1) ?_
  refine ex (S' := ⟨[(3, .I xt3_9h)], []⟩) ?_
  obtain rfl := Option.some.inj h
  exact ⟨rfl, _, rfl, rfl⟩
 ·rintro e S ⟨rfl, xt3_9, rfl, rfl⟩
  refine ⟨_, Turns.refl, ?_⟩
  refine sr0 L 239 [] [] [] (S' := ⟨[(2, .I xt3_9)], []⟩) ?_
  refine awp_ret ?_
  obtain rfl := Option.some.inj h
  exact er (.I xt3_9)
theorem wr53_Index.ok {K : Nat} {p0 : List Int} {r : Int} (h : wr53_Index K p0 = some r) : PCall V P 95 [.cv (.ro .t_int p0)] (.I r) := ECall.pcall (eo (fn := Tryz.f95) (n := 33) (m := 100) fun Γ => wr53_Index.body h) (by kernel_rfl)
def wr53_Commit.l9 (K : Nat) (p0 : aRep) (p1 : List Int) : Nat → Int → Int → Option Int
 | 0, _, _ => none
 | k + 1, xt5_9h, xt6_9h => (if xt6_9h ≤ (p0.Log.length : Int) then (Option.bind (wr53_Index K p1) (fun a1 => (if xt6_9h ≤ a1 then (if xt6_9h > xt5_9h then (if (0 : Int) ≤ (IntKind.i64.wrap (xt6_9h - 1)) ∧ ((IntKind.i64.wrap (xt6_9h - 1)) : Int) < (p0.Log.length : Int) then (if (p0.Log.getD (Int.toNat (IntKind.i64.wrap (xt6_9h - 1))) z_aEnt).Epoch = p0.Epoch then wr53_Commit.l9 K p0 p1 k xt6_9h (IntKind.i64.wrap (xt6_9h + 1)) else wr53_Commit.l9 K p0 p1 k xt5_9h (IntKind.i64.wrap (xt6_9h + 1))) else none) else wr53_Commit.l9 K p0 p1 k xt5_9h (IntKind.i64.wrap (xt6_9h + 1))) else some xt5_9h))) else some xt5_9h)
def wr53_Commit (K : Nat) (p0 : aRep) (p1 : List Int) : Option Int := (Option.bind (wr53_Commit.l9 K p0 p1 K p0.Commit 1 : Option Int) (fun xt5_9 => some xt5_9))
theorem wr53_Commit.body {Γ : Ent} {K : Nat} {p0 : aRep} {p1 : List Int} {r : Int} (h : wr53_Commit K p0 p1 = some r) : AWp V P 39 100 Γ (Tryz.f83.body.getD .skip) (EndsE P V Tryz.f83 (.I r) []) ⟨args0 0 [.agg (d_aRep p0), .cv (.ro .t_int p1)], []⟩ := by
 unfold wr53_Commit at h
 refine sr0 L 200 [] [] [] (S' := ⟨[(1, .cv (.ro .t_int p1)), (2, .P 200)], [(200, .raw (d_aRep p0))]⟩) ?_
 refine sr0 L 203 [] [] [] (S' := ⟨[(1, .cv (.ro .t_int p1)), (2, .P 200), (5, .I p0.Commit)], [(200, .raw (d_aRep p0))]⟩) ?_
 refine awp_seq ?_
 refine sr0 L 207 [] [] [] (S' := ⟨[(1, .cv (.ro .t_int p1)), (2, .P 200), (5, .I p0.Commit), (6, .I 1)], [(200, .raw (d_aRep p0))]⟩) ?_
 refine awp_block ?_
 refine awp_turn (Turns.trans (Turns.kp (S' := ⟨[(1, .cv (.ro .t_int p1)), (2, .P 200), (5, .I p0.Commit), (6, .I 1)], [(200, .raw (d_aRep p0))]⟩)) (Turns.rn [(200, 21900)] (S' := ⟨[(1, .cv (.ro .t_int p1)), (2, .P 21900), (5, .I p0.Commit), (6, .I 1)], [(21900, .raw (d_aRep p0))]⟩))) ?_
 refine kp (S' := ⟨[(1, .cv (.ro .t_int p1)), (2, .P 21900), (5, .I p0.Commit), (6, .I 1)], [(21900, .raw (d_aRep p0))]⟩) ?_
 obtain ⟨o1, hp1, h⟩ := bind_some h
 refine awp_conseq (Q' := fun e S => (e = .exit 0 ∧ ∃ xt5_9 : Int, S = ⟨[(5, .I xt5_9)], []⟩ ∧ xt5_9 = o1)) (awp_loop (fun k S => ∃ xt5_9h : Int, ∃ xt6_9h : Int, S = ⟨[(1, .cv (.ro .t_int p1)), (2, .P 21900), (5, .I xt5_9h), (6, .I xt6_9h)], [(21900, .raw (d_aRep p0))]⟩ ∧ wr53_Commit.l9 K p0 p1 k xt5_9h xt6_9h = some o1) ?_ ⟨_, _, rfl, hp1⟩) ?_
 ·clear h hp1
  intro k S hS
  obtain ⟨xt5_9h, xt6_9h, rfl, h⟩ := hS
  cases k with
  | zero => cases h
  | succ k =>
  unfold wr53_Commit.l9 at h
  refine awp_seq ?_
  refine awp_seq ?_
  rcases ite_some h with ⟨c1, h⟩ | ⟨c1, h⟩
  ·obtain ⟨a1, h1, h⟩ := bind_some h
   refine ar L 209 [(5, true)] [(8, .I a1)] [] (cs := [(decide (xt6_9h ≤ (p0.Log.length : Int))) = true, PCall V P 95 [.cv (.ro .t_int p1)] (.I a1), True]) (S' := ⟨[(1, .cv (.ro .t_int p1)), (2, .P 21900), (5, .I xt5_9h), (6, .I xt6_9h), (19, .B (decide (xt6_9h ≤ a1)))], [(21900, .raw (d_aRep p0))]⟩) (And.intro (decide_eq_true c1) (And.intro (wr53_Index.ok h1) trivial)) ?_
   rcases ite_some h with ⟨c2, h⟩ | ⟨c2, h⟩
   ·refine tt (b := (decide (xt6_9h ≤ a1))) (decide_eq_true c2) ?_
    refine awp_skip' ?_
    refine awp_seq ?_
    refine awp_block ?_
    refine awp_seq ?_
    rcases ite_some h with ⟨c3, h⟩ | ⟨c3, h⟩
    ·obtain ⟨g1, h⟩ := guard_some h
     refine ad L mixed 221 [(3, true)] [] [] [] 15 (cs := [(decide (xt6_9h > xt5_9h)) = true, (0 : Int) ≤ (IntKind.i64.wrap (xt6_9h - 1)), ((IntKind.i64.wrap (xt6_9h - 1)) : Int) < (p0.Log.length : Int)]) (S' := ⟨[(1, .cv (.ro .t_int p1)), (2, .P 21900), (5, .I xt5_9h), (6, .I xt6_9h), (36, .B ((decide ((p0.Log.getD (Int.toNat (IntKind.i64.wrap (xt6_9h - 1))) z_aEnt).Epoch = p0.Epoch))))], [(21900, .raw (d_aRep p0))]⟩) (And.intro (decide_eq_true c3) (And.intro g1.1 g1.2)) ?_
     rcases ite_some h with ⟨c4, h⟩ | ⟨c4, h⟩
     ·refine tt (b := (decide ((p0.Log.getD (Int.toNat (IntKind.i64.wrap (xt6_9h - 1))) z_aEnt).Epoch = p0.Epoch))) (decide_eq_true c4) ?_
      refine ar0 L 237 [] [] [] (S' := ⟨[(1, .cv (.ro .t_int p1)), (2, .P 21900), (5, .I xt6_9h), (6, .I xt6_9h)], [(21900, .raw (d_aRep p0))]⟩) ?_
      refine ar0 L 240 [] [] [] (S' := ⟨[(1, .cv (.ro .t_int p1)), (2, .P 21900), (5, .I xt6_9h), (6, .I (IntKind.i64.wrap (xt6_9h + 1)))], [(21900, .raw (d_aRep p0))]⟩) ?_
      exact ⟨k, Nat.lt_succ_self k, _, _, rfl, h⟩
     refine ff (b := (decide ((p0.Log.getD (Int.toNat (IntKind.i64.wrap (xt6_9h - 1))) z_aEnt).Epoch = p0.Epoch))) (decide_eq_false c4) ?_
     refine awp_skip' ?_
     refine ar0 L 240 [] [] [] (S' := ⟨[(1, .cv (.ro .t_int p1)), (2, .P 21900), (5, .I xt5_9h), (6, .I (IntKind.i64.wrap (xt6_9h + 1)))], [(21900, .raw (d_aRep p0))]⟩) ?_
     exact ⟨k, Nat.lt_succ_self k, _, _, rfl, h⟩
    refine ad L mixed 221 [(3, false)] [] [] [] 15 (cs := [(decide (xt6_9h > xt5_9h)) = false]) (S' := ⟨[(1, .cv (.ro .t_int p1)), (2, .P 21900), (5, .I xt5_9h), (6, .I xt6_9h), (36, .B false)], [(21900, .raw (d_aRep p0))]⟩) (decide_eq_false c3) ?_
    refine ff (b := false) (rfl) ?_
    refine awp_skip' ?_
    refine ar0 L 240 [] [] [] (S' := ⟨[(1, .cv (.ro .t_int p1)), (2, .P 21900), (5, .I xt5_9h), (6, .I (IntKind.i64.wrap (xt6_9h + 1)))], [(21900, .raw (d_aRep p0))]⟩) ?_
    exact ⟨k, Nat.lt_succ_self k, _, _, rfl, h⟩
   refine ff (b := (decide (xt6_9h ≤ a1))) (decide_eq_false c2) ?_
   refine ex (S' := ⟨[(5, .I xt5_9h)], []⟩) ?_
   obtain rfl := Option.some.inj h
   exact ⟨rfl, _, rfl, rfl⟩
  refine ar L 209 [(5, false)] [] [] (cs := [(decide (xt6_9h ≤ (p0.Log.length : Int))) = false]) (S' := ⟨[(1, .cv (.ro .t_int p1)), (2, .P 21900), (5, .I xt5_9h), (6, .I xt6_9h), (19, .B false)], [(21900, .raw (d_aRep p0))]⟩) (decide_eq_false c1) ?_
  refine ff (b := false) (rfl) ?_
  refine ex (S' := ⟨[(5, .I xt5_9h)], []⟩) ?_
  obtain rfl := Option.some.inj h
  exact ⟨rfl, _, rfl, rfl⟩
 ·rintro e S ⟨rfl, xt5_9, rfl, rfl⟩
  refine ⟨_, Turns.refl, ?_⟩
  refine sr0 L 244 [] [] [] (S' := ⟨[(4, .I xt5_9)], []⟩) ?_
  refine awp_ret ?_
  obtain rfl := Option.some.inj h
  exact er (.I xt5_9)
theorem wr53_Commit.ok {K : Nat} {p0 : aRep} {p1 : List Int} {r : Int} (h : wr53_Commit K p0 p1 = some r) : PCall V P 83 [.agg (d_aRep p0), .cv (.ro .t_int p1)] (.I r) := ECall.pcall (eo (fn := Tryz.f83) (n := 39) (m := 100) fun Γ => wr53_Commit.body h) (by kernel_rfl)
def wr55_replicate.l19 (K : Nat) (p0 : wr55_Group) (p1 : Int) (p2 : List Bool) (a2_0 : Int) : Nat → Int → (List Int) → (List Bool) → (List aRep) → Option ((List Int) × (List Bool) × (List aRep))
 | 0, _, _, _, _ => none
 | k + 1, xt13_19h, x23904, x23905, x23906 => (if xt13_19h < (p2.length : Int) then (if (0 : Int) ≤ xt13_19h ∧ (xt13_19h : Int) < (p2.length : Int) then (if (p2.getD (Int.toNat xt13_19h) false) = true then (if (xt13_19h : Int) < (p0.Replicas.length : Int) then (Option.bind (wr52_Common K (p0.Replicas.getD (Int.toNat p1) z_aRep) (p0.Replicas.getD (Int.toNat xt13_19h) z_aRep)) (fun a3 => (Option.bind (((if a3 > 0 then (if (0 : Int) ≤ (IntKind.i64.wrap (a3 - 1)) ∧ ((IntKind.i64.wrap (a3 - 1)) : Int) < (((p0.Replicas.getD (Int.toNat p1) z_aRep).Log).length : Int) then some ((((p0.Replicas.getD (Int.toNat p1) z_aRep).Log).getD (Int.toNat (IntKind.i64.wrap (a3 - 1))) z_aEnt).Epoch) else none) else some 0)) : Option Int) (fun xt15_38 => (if (0 : Int) ≤ a3 ∧ a3 ≤ (((p0.Replicas.getD (Int.toNat p1) z_aRep).Log).length : Int) then (Option.bind (wr52_Accept K (p0.Replicas.getD (Int.toNat xt13_19h) z_aRep) ((p0.Replicas.getD (Int.toNat p1) z_aRep).Epoch) a3 xt15_38 (slc ((p0.Replicas.getD (Int.toNat p1) z_aRep).Log) a3 (((p0.Replicas.getD (Int.toNat p1) z_aRep).Log).length : Int)) ((p0.Replicas.getD (Int.toNat p1) z_aRep).Commit)) (fun (a4_0, a4_1) => (if a4_1 = 0 then (if (xt13_19h : Int) < (x23906.length : Int) then (if (Int.toNat xt13_19h) < x23906.length then (if (xt13_19h : Int) < (x23904.length : Int) then (if (Int.toNat xt13_19h) < x23904.length then (if (xt13_19h : Int) < (x23905.length : Int) then (if (Int.toNat xt13_19h) < x23905.length then wr55_replicate.l19 K p0 p1 p2 a2_0 k (IntKind.i64.wrap (xt13_19h + 1)) (x23904.set (Int.toNat xt13_19h) a2_0) (x23905.set (Int.toNat xt13_19h) true) (x23906.set (Int.toNat xt13_19h) a4_0) else none) else none) else none) else none) else none) else none) else wr55_replicate.l19 K p0 p1 p2 a2_0 k (IntKind.i64.wrap (xt13_19h + 1)) x23904 x23905 x23906))) else none))))) else none) else wr55_replicate.l19 K p0 p1 p2 a2_0 k (IntKind.i64.wrap (xt13_19h + 1)) x23904 x23905 x23906) else none) else some (x23904, x23905, x23906))
def wr55_replicate.l68 (K : Nat) (p0 : wr55_Group) (p1 : Int) (p2 : List Bool) (a2_0 : Int) (a2_1 : Int) (x23804 : List Bool) (a5 : Int) : Nat → Int → (List aRep) → Option (List aRep)
 | 0, _, _ => none
 | k + 1, xt20_68h, x33704 => (if xt20_68h < (p2.length : Int) then (if a5 > (p0.Replicas.getD (Int.toNat p1) z_aRep).Commit then (if (0 : Int) ≤ xt20_68h ∧ (xt20_68h : Int) < (x23804.length : Int) then (if (Int.toNat xt20_68h) < x23804.length then (if (x23804.getD (Int.toNat xt20_68h) false) = true then (if (xt20_68h : Int) < (x33704.length : Int) then (if (Int.toNat xt20_68h) < x33704.length then (Option.bind (wr52_Accept K (x33704.getD (Int.toNat xt20_68h) z_aRep) ((p0.Replicas.getD (Int.toNat p1) z_aRep).Epoch) a2_0 a2_1 ([] : List aEnt) a5) (fun (a6_0, a6_1) => (if a6_1 = 0 then wr55_replicate.l68 K p0 p1 p2 a2_0 a2_1 x23804 a5 k (IntKind.i64.wrap (xt20_68h + 1)) (x33704.set (Int.toNat xt20_68h) a6_0) else wr55_replicate.l68 K p0 p1 p2 a2_0 a2_1 x23804 a5 k (IntKind.i64.wrap (xt20_68h + 1)) x33704))) else none) else none) else wr55_replicate.l68 K p0 p1 p2 a2_0 a2_1 x23804 a5 k (IntKind.i64.wrap (xt20_68h + 1)) x33704) else none) else none) else some x33704) else some x33704)
def wr55_replicate (K : Nat) (p0 : wr55_Group) (p1 : Int) (p2 : List Bool) : Option wr55_Group := (Option.bind (wr55_cloned_v2 K p0) (fun (a1_0, a1_1) => (if (0 : Int) ≤ p1 ∧ (p1 : Int) < (p0.Replicas.length : Int) then (Option.bind (wr52_Last K (p0.Replicas.getD (Int.toNat p1) z_aRep)) (fun (a2_0, a2_1) => (if (0 : Int) ≤ (p2.length : Int) ∧ (8 : Int) * (p2.length : Int) ≤ 281474976710656 then (if (p1 : Int) < ((List.replicate (Int.toNat (p2.length : Int)) (0 : Int)).length : Int) then (if (Int.toNat p1) < (List.replicate (Int.toNat (p2.length : Int)) (0 : Int)).length then (if (1 : Int) * (p2.length : Int) ≤ 281474976710656 then (Option.bind (wr55_replicate.l19 K p0 p1 p2 a2_0 K 0 ((List.replicate (Int.toNat (p2.length : Int)) (0 : Int)).set (Int.toNat p1) a2_0) (List.replicate (Int.toNat (p2.length : Int)) false) a1_1 : Option ((List Int) × (List Bool) × (List aRep))) (fun (x23803, x23804, x23805) => (Option.bind (wr53_Commit K (p0.Replicas.getD (Int.toNat p1) z_aRep) x23803) (fun a5 => (if (p1 : Int) < (x23805.length : Int) then (if (Int.toNat p1) < x23805.length then (Option.bind (wr55_replicate.l68 K p0 p1 p2 a2_0 a2_1 x23804 a5 K 0 (x23805.set (Int.toNat p1) (⟨(p0.Replicas.getD (Int.toNat p1) z_aRep).Epoch, (p0.Replicas.getD (Int.toNat p1) z_aRep).Vote, a5, (p0.Replicas.getD (Int.toNat p1) z_aRep).Log⟩ : aRep)) : Option (List aRep)) (fun x33602 => some (⟨x33602, a1_0, p0.Leader, p0.Epoch⟩ : wr55_Group))) else none) else none))))) else none) else none) else none) else none))) else none)))
theorem wr55_replicate.body {Γ : Ent} {K : Nat} {p0 : wr55_Group} {p1 : Int} {p2 : List Bool} {r : wr55_Group} (h : wr55_replicate K p0 p1 p2 = some r) : AWp V P 154 100 Γ (Tryz.f51.body.getD .skip) (EndsE P V Tryz.f51 (.agg [.ro .t_aRep r.Replicas, .ro .t_bool r.Up, .I r.Leader, .I r.Epoch]) []) ⟨args0 0 [.agg (d_wr55_Group p0), .I p1, .cv (.ro .t_bool p2)], []⟩ := by
 unfold wr55_replicate at h
 refine sr0 L 200 [] [] [] (S' := ⟨[(1, .I p1), (2, .cv (.ro .t_bool p2)), (3, .P 200), (6, .P 201)], [(200, .raw (d_wr55_Group p0)), (201, .raw [.N, .N, .I 0, .I 0])]⟩) ?_
 refine awp_seq ?_
 obtain ⟨⟨a1_0, a1_1⟩, h1, h⟩ := bind_some h
 dsimp only at h
 refine ar L 203 [] [] [(1, { hids := [], fx := [], r := .agg [.own .t_aRep 100, .ro .t_bool a1_0, .I p0.Leader, .I p0.Epoch], H' := [(100, .lst .t_aRep a1_1)], σ := [(100, 5032)] })] (cs := [ECall V P 44 [.agg (d_wr55_Group p0)] [] [] (.agg [.own .t_aRep 100, .ro .t_bool a1_0, .I p0.Leader, .I p0.Epoch]) [(100, .lst .t_aRep a1_1)]]) (S' := ⟨[(1, .I p1), (2, .cv (.ro .t_bool p2)), (3, .P 200), (6, .P 201), (7, .P 205)], [(200, .raw (d_wr55_Group p0)), (201, .raw [.N, .N, .I 0, .I 0]), (205, .raw [.own .t_aRep 5032, .ro .t_bool a1_0, .I p0.Leader, .I p0.Epoch]), (5032, .lst .t_aRep a1_1)]⟩) (wr55_cloned_v2.okE h1) ?_
 refine awp_seq ?_
 obtain ⟨g1, h⟩ := guard_some h
 refine ar L 208 [] [] [] (cs := [(0 : Int) ≤ p1, (p1 : Int) < (p0.Replicas.length : Int)]) (S' := ⟨[(1, .I p1), (2, .cv (.ro .t_bool p2)), (3, .P 200), (6, .P 201), (7, .P 205), (8, .P 213)], [(200, .raw (d_wr55_Group p0)), (201, .raw [.N, .N, .I 0, .I 0]), (205, .raw [.own .t_aRep 5032, .ro .t_bool a1_0, .I p0.Leader, .I p0.Epoch]), (213, .raw (d_aRep (p0.Replicas.getD (Int.toNat p1) z_aRep))), (5032, .lst .t_aRep a1_1)]⟩) (And.intro g1.1 g1.2) ?_
 refine awp_seq ?_
 obtain ⟨⟨a2_0, a2_1⟩, h2, h⟩ := bind_some h
 dsimp only at h
 refine ar L 216 [] [(1, .tup [.I a2_0, .I a2_1])] [] (cs := [PCall V P 46 [.agg (d_aRep (p0.Replicas.getD (Int.toNat p1) z_aRep))] (.tup [.I a2_0, .I a2_1]), True]) (S' := ⟨[(1, .I p1), (2, .cv (.ro .t_bool p2)), (3, .P 200), (6, .P 201), (7, .P 205), (8, .P 213), (9, .I a2_0), (10, .I a2_1)], [(200, .raw (d_wr55_Group p0)), (201, .raw [.N, .N, .I 0, .I 0]), (205, .raw [.own .t_aRep 5032, .ro .t_bool a1_0, .I p0.Leader, .I p0.Epoch]), (213, .raw (d_aRep (p0.Replicas.getD (Int.toNat p1) z_aRep))), (5032, .lst .t_aRep a1_1)]⟩) (And.intro (wr52_Last.ok h2) trivial) ?_
 refine awp_seq ?_
 obtain ⟨g2, h⟩ := guard_some h
 refine ar L 224 [] [] [] (cs := [(0 : Int) ≤ (p2.length : Int), (p2.length : Int) ≤ (p2.length : Int), (8 : Int) * (p2.length : Int) ≤ 281474976710656, True]) (S' := ⟨[(1, .I p1), (2, .cv (.ro .t_bool p2)), (3, .P 200), (6, .P 201), (7, .P 205), (8, .P 213), (9, .I a2_0), (10, .I a2_1), (11, .cv (.own .t_int 226))], [(200, .raw (d_wr55_Group p0)), (201, .raw [.N, .N, .I 0, .I 0]), (205, .raw [.own .t_aRep 5032, .ro .t_bool a1_0, .I p0.Leader, .I p0.Epoch]), (213, .raw (d_aRep (p0.Replicas.getD (Int.toNat p1) z_aRep))), (226, .lst .t_int (List.replicate (Int.toNat (p2.length : Int)) (0 : Int))), (5032, .lst .t_aRep a1_1)]⟩) (And.intro g2.1 (And.intro (Int.le_refl _) (And.intro g2.2 trivial))) ?_
 refine awp_seq ?_
 obtain ⟨g3, h⟩ := guard_some h
 obtain ⟨g4, h⟩ := guard_some h
 refine ar L 229 [] [] [] (cs := [(0 : Int) ≤ p1, (p1 : Int) < ((List.replicate (Int.toNat (p2.length : Int)) (0 : Int)).length : Int), (Int.toNat p1) < (List.replicate (Int.toNat (p2.length : Int)) (0 : Int)).length, True]) (S' := ⟨[(1, .I p1), (2, .cv (.ro .t_bool p2)), (3, .P 200), (6, .P 201), (7, .P 205), (8, .P 213), (9, .I a2_0), (10, .I a2_1), (11, .cv (.own .t_int 226))], [(200, .raw (d_wr55_Group p0)), (201, .raw [.N, .N, .I 0, .I 0]), (205, .raw [.own .t_aRep 5032, .ro .t_bool a1_0, .I p0.Leader, .I p0.Epoch]), (213, .raw (d_aRep (p0.Replicas.getD (Int.toNat p1) z_aRep))), (226, .lst .t_int ((List.replicate (Int.toNat (p2.length : Int)) (0 : Int)).set (Int.toNat p1) a2_0)), (5032, .lst .t_aRep a1_1)]⟩) (And.intro g1.1 (And.intro g3 (And.intro g4 trivial))) ?_
 refine awp_seq ?_
 obtain ⟨g5, h⟩ := guard_some h
 refine ar L 235 [] [] [] (cs := [(0 : Int) ≤ (p2.length : Int), (p2.length : Int) ≤ (p2.length : Int), (1 : Int) * (p2.length : Int) ≤ 281474976710656, True]) (S' := ⟨[(1, .I p1), (2, .cv (.ro .t_bool p2)), (3, .P 200), (6, .P 201), (7, .P 205), (8, .P 213), (9, .I a2_0), (10, .I a2_1), (11, .cv (.own .t_int 226)), (12, .cv (.own .t_bool 237))], [(200, .raw (d_wr55_Group p0)), (201, .raw [.N, .N, .I 0, .I 0]), (205, .raw [.own .t_aRep 5032, .ro .t_bool a1_0, .I p0.Leader, .I p0.Epoch]), (213, .raw (d_aRep (p0.Replicas.getD (Int.toNat p1) z_aRep))), (226, .lst .t_int ((List.replicate (Int.toNat (p2.length : Int)) (0 : Int)).set (Int.toNat p1) a2_0)), (237, .lst .t_bool (List.replicate (Int.toNat (p2.length : Int)) false)), (5032, .lst .t_aRep a1_1)]⟩) (And.intro g2.1 (And.intro (Int.le_refl _) (And.intro g5 trivial))) ?_
 refine awp_seq ?_
 refine sr0 L 240 [] [] [] (S' := ⟨[(1, .I p1), (2, .cv (.ro .t_bool p2)), (3, .P 200), (6, .P 201), (7, .P 205), (8, .P 213), (9, .I a2_0), (10, .I a2_1), (11, .cv (.own .t_int 226)), (12, .cv (.own .t_bool 237)), (13, .I 0)], [(200, .raw (d_wr55_Group p0)), (201, .raw [.N, .N, .I 0, .I 0]), (205, .raw [.own .t_aRep 5032, .ro .t_bool a1_0, .I p0.Leader, .I p0.Epoch]), (213, .raw (d_aRep (p0.Replicas.getD (Int.toNat p1) z_aRep))), (226, .lst .t_int ((List.replicate (Int.toNat (p2.length : Int)) (0 : Int)).set (Int.toNat p1) a2_0)), (237, .lst .t_bool (List.replicate (Int.toNat (p2.length : Int)) false)), (5032, .lst .t_aRep a1_1)]⟩) ?_
 refine awp_block ?_
 refine awp_turn (Turns.trans (Turns.kp (S' := ⟨[(1, .I p1), (2, .cv (.ro .t_bool p2)), (3, .P 200), (6, .P 201), (7, .P 205), (8, .P 213), (9, .I a2_0), (10, .I a2_1), (11, .cv (.own .t_int 226)), (12, .cv (.own .t_bool 237)), (13, .I 0)], [(200, .raw (d_wr55_Group p0)), (201, .raw [.N, .N, .I 0, .I 0]), (205, .raw [.own .t_aRep 5032, .ro .t_bool a1_0, .I p0.Leader, .I p0.Epoch]), (213, .raw (d_aRep (p0.Replicas.getD (Int.toNat p1) z_aRep))), (226, .lst .t_int ((List.replicate (Int.toNat (p2.length : Int)) (0 : Int)).set (Int.toNat p1) a2_0)), (237, .lst .t_bool (List.replicate (Int.toNat (p2.length : Int)) false)), (5032, .lst .t_aRep a1_1)]⟩)) (Turns.rn [(200, 23900), (201, 23901), (205, 23902), (213, 23903), (226, 23904), (237, 23905), (5032, 23906)] (S' := ⟨[(1, .I p1), (2, .cv (.ro .t_bool p2)), (3, .P 23900), (6, .P 23901), (7, .P 23902), (8, .P 23903), (9, .I a2_0), (10, .I a2_1), (11, .cv (.own .t_int 23904)), (12, .cv (.own .t_bool 23905)), (13, .I 0)], [(23900, .raw (d_wr55_Group p0)), (23901, .raw [.N, .N, .I 0, .I 0]), (23902, .raw [.own .t_aRep 23906, .ro .t_bool a1_0, .I p0.Leader, .I p0.Epoch]), (23903, .raw (d_aRep (p0.Replicas.getD (Int.toNat p1) z_aRep))), (23904, .lst .t_int ((List.replicate (Int.toNat (p2.length : Int)) (0 : Int)).set (Int.toNat p1) a2_0)), (23905, .lst .t_bool (List.replicate (Int.toNat (p2.length : Int)) false)), (23906, .lst .t_aRep a1_1)]⟩))) ?_
 refine kp (S' := ⟨[(1, .I p1), (2, .cv (.ro .t_bool p2)), (3, .P 23900), (6, .P 23901), (7, .P 23902), (8, .P 23903), (9, .I a2_0), (10, .I a2_1), (11, .cv (.own .t_int 23904)), (12, .cv (.own .t_bool 23905)), (13, .I 0)], [(23900, .raw (d_wr55_Group p0)), (23901, .raw [.N, .N, .I 0, .I 0]), (23902, .raw [.own .t_aRep 23906, .ro .t_bool a1_0, .I p0.Leader, .I p0.Epoch]), (23903, .raw (d_aRep (p0.Replicas.getD (Int.toNat p1) z_aRep))), (23904, .lst .t_int ((List.replicate (Int.toNat (p2.length : Int)) (0 : Int)).set (Int.toNat p1) a2_0)), (23905, .lst .t_bool (List.replicate (Int.toNat (p2.length : Int)) false)), (23906, .lst .t_aRep a1_1)]⟩) ?_
 obtain ⟨o2, hp2, h⟩ := bind_some h
 refine awp_conseq (Q' := fun e S => (e = .exit 0 ∧ ∃ x23803 : List Int, ∃ x23804 : List Bool, ∃ x23805 : List aRep, S = ⟨[(1, .I p1), (2, .cv (.ro .t_bool p2)), (6, .P 23800), (7, .P 23801), (8, .P 23802), (9, .I a2_0), (10, .I a2_1), (11, .cv (.own .t_int 23803)), (12, .cv (.own .t_bool 23804))], [(23800, .raw [.N, .N, .I 0, .I 0]), (23801, .raw [.own .t_aRep 23805, .ro .t_bool a1_0, .I p0.Leader, .I p0.Epoch]), (23802, .raw (d_aRep (p0.Replicas.getD (Int.toNat p1) z_aRep))), (23803, .lst .t_int x23803), (23804, .lst .t_bool x23804), (23805, .lst .t_aRep x23805)]⟩ ∧ (x23803, x23804, x23805) = o2)) (awp_loop (fun k S => ∃ xt13_19h : Int, ∃ x23904 : List Int, ∃ x23905 : List Bool, ∃ x23906 : List aRep, S = ⟨[(1, .I p1), (2, .cv (.ro .t_bool p2)), (3, .P 23900), (6, .P 23901), (7, .P 23902), (8, .P 23903), (9, .I a2_0), (10, .I a2_1), (11, .cv (.own .t_int 23904)), (12, .cv (.own .t_bool 23905)), (13, .I xt13_19h)], [(23900, .raw (d_wr55_Group p0)), (23901, .raw [.N, .N, .I 0, .I 0]), (23902, .raw [.own .t_aRep 23906, .ro .t_bool a1_0, .I p0.Leader, .I p0.Epoch]), (23903, .raw (d_aRep (p0.Replicas.getD (Int.toNat p1) z_aRep))), (23904, .lst .t_int x23904), (23905, .lst .t_bool x23905), (23906, .lst .t_aRep x23906)]⟩ ∧ wr55_replicate.l19 K p0 p1 p2 a2_0 k xt13_19h x23904 x23905 x23906 = some o2) ?_ ⟨_, _, _, _, rfl, hp2⟩) ?_
 ·clear h hp2
  intro k S hS
  obtain ⟨xt13_19h, x23904, x23905, x23906, rfl, h⟩ := hS
  cases k with
  | zero => cases h
  | succ k =>
  unfold wr55_replicate.l19 at h
  refine awp_seq ?_
  refine sr0 L 242 [] [] [] (S' := ⟨[(1, .I p1), (2, .cv (.ro .t_bool p2)), (3, .P 23900), (6, .P 23901), (7, .P 23902), (8, .P 23903), (9, .I a2_0), (10, .I a2_1), (11, .cv (.own .t_int 23904)), (12, .cv (.own .t_bool 23905)), (13, .I xt13_19h), (48, .B (decide (xt13_19h < (p2.length : Int))))], [(23900, .raw (d_wr55_Group p0)), (23901, .raw [.N, .N, .I 0, .I 0]), (23902, .raw [.own .t_aRep 23906, .ro .t_bool a1_0, .I p0.Leader, .I p0.Epoch]), (23903, .raw (d_aRep (p0.Replicas.getD (Int.toNat p1) z_aRep))), (23904, .lst .t_int x23904), (23905, .lst .t_bool x23905), (23906, .lst .t_aRep x23906)]⟩) ?_
  rcases ite_some h with ⟨c1, h⟩ | ⟨c1, h⟩
  ·refine tt (b := (decide (xt13_19h < (p2.length : Int)))) (decide_eq_true c1) ?_
   refine awp_skip' ?_
   refine awp_seq ?_
   refine awp_block ?_
   refine awp_seq ?_
   refine awp_seq ?_
   obtain ⟨g6, h⟩ := guard_some h
   refine ar L 247 [] [] [] (cs := [(0 : Int) ≤ xt13_19h, (xt13_19h : Int) < (p2.length : Int)]) (S' := ⟨[(1, .I p1), (2, .cv (.ro .t_bool p2)), (3, .P 23900), (6, .P 23901), (7, .P 23902), (8, .P 23903), (9, .I a2_0), (10, .I a2_1), (11, .cv (.own .t_int 23904)), (12, .cv (.own .t_bool 23905)), (13, .I xt13_19h), (55, .B (!(p2.getD (Int.toNat xt13_19h) false)))], [(23900, .raw (d_wr55_Group p0)), (23901, .raw [.N, .N, .I 0, .I 0]), (23902, .raw [.own .t_aRep 23906, .ro .t_bool a1_0, .I p0.Leader, .I p0.Epoch]), (23903, .raw (d_aRep (p0.Replicas.getD (Int.toNat p1) z_aRep))), (23904, .lst .t_int x23904), (23905, .lst .t_bool x23905), (23906, .lst .t_aRep x23906)]⟩) (And.intro g6.1 g6.2) ?_
   rcases ite_some h with ⟨c2, h⟩ | ⟨c2, h⟩
   ·refine ff (b := (!(p2.getD (Int.toNat xt13_19h) false))) (congrArg Bool.not (c2)) ?_
    refine awp_skip' ?_
    refine awp_seq ?_
    obtain ⟨g7, h⟩ := guard_some h
    obtain ⟨a3, h3, h⟩ := bind_some h
    refine ad L mixed 253 [] [(6, .I a3)] [] [] 8 (cs := [(0 : Int) ≤ xt13_19h, (xt13_19h : Int) < (p0.Replicas.length : Int), PCall V P 81 [.agg (d_aRep (p0.Replicas.getD (Int.toNat p1) z_aRep)), .agg (d_aRep (p0.Replicas.getD (Int.toNat xt13_19h) z_aRep))] (.I a3), True]) (S' := ⟨[(1, .I p1), (2, .cv (.ro .t_bool p2)), (3, .P 23900), (6, .P 23901), (7, .P 23902), (8, .P 23903), (9, .I a2_0), (10, .I a2_1), (11, .cv (.own .t_int 23904)), (12, .cv (.own .t_bool 23905)), (13, .I xt13_19h), (14, .I a3)], [(23900, .raw (d_wr55_Group p0)), (23901, .raw [.N, .N, .I 0, .I 0]), (23902, .raw [.own .t_aRep 23906, .ro .t_bool a1_0, .I p0.Leader, .I p0.Epoch]), (23903, .raw (d_aRep (p0.Replicas.getD (Int.toNat p1) z_aRep))), (23904, .lst .t_int x23904), (23905, .lst .t_bool x23905), (23906, .lst .t_aRep x23906)]⟩) (And.intro g6.1 (And.intro g7 (And.intro (wr52_Common.ok h3) trivial))) ?_
    refine sr0 L 262 [] [] [] (S' := ⟨[(1, .I p1), (2, .cv (.ro .t_bool p2)), (3, .P 23900), (6, .P 23901), (7, .P 23902), (8, .P 23903), (9, .I a2_0), (10, .I a2_1), (11, .cv (.own .t_int 23904)), (12, .cv (.own .t_bool 23905)), (13, .I xt13_19h), (14, .I a3), (15, .I 0)], [(23900, .raw (d_wr55_Group p0)), (23901, .raw [.N, .N, .I 0, .I 0]), (23902, .raw [.own .t_aRep 23906, .ro .t_bool a1_0, .I p0.Leader, .I p0.Epoch]), (23903, .raw (d_aRep (p0.Replicas.getD (Int.toNat p1) z_aRep))), (23904, .lst .t_int x23904), (23905, .lst .t_bool x23905), (23906, .lst .t_aRep x23906)]⟩) ?_
    obtain ⟨o1, hp1, h⟩ := bind_some h
    refine awp_seq (awp_mono (Q' := fun e S => (e = .normal ∧ ∃ xt15_38 : Int, S = ⟨[(1, .I p1), (2, .cv (.ro .t_bool p2)), (3, .P 27600), (6, .P 27601), (7, .P 27602), (8, .P 27603), (9, .I a2_0), (10, .I a2_1), (11, .cv (.own .t_int 27604)), (12, .cv (.own .t_bool 27605)), (13, .I xt13_19h), (14, .I a3), (15, .I xt15_38)], [(27600, .raw (d_wr55_Group p0)), (27601, .raw [.N, .N, .I 0, .I 0]), (27602, .raw [.own .t_aRep 27606, .ro .t_bool a1_0, .I p0.Leader, .I p0.Epoch]), (27603, .raw (d_aRep (p0.Replicas.getD (Int.toNat p1) z_aRep))), (27604, .lst .t_int x23904), (27605, .lst .t_bool x23905), (27606, .lst .t_aRep x23906)]⟩ ∧ xt15_38 = o1)) ?_ ?_)
    ·clear h
     replace h := hp1
     refine sr0 L 264 [] [] [] (S' := ⟨[(1, .I p1), (2, .cv (.ro .t_bool p2)), (3, .P 23900), (6, .P 23901), (7, .P 23902), (8, .P 23903), (9, .I a2_0), (10, .I a2_1), (11, .cv (.own .t_int 23904)), (12, .cv (.own .t_bool 23905)), (13, .I xt13_19h), (14, .I a3), (15, .I 0), (64, .B (decide (a3 > 0)))], [(23900, .raw (d_wr55_Group p0)), (23901, .raw [.N, .N, .I 0, .I 0]), (23902, .raw [.own .t_aRep 23906, .ro .t_bool a1_0, .I p0.Leader, .I p0.Epoch]), (23903, .raw (d_aRep (p0.Replicas.getD (Int.toNat p1) z_aRep))), (23904, .lst .t_int x23904), (23905, .lst .t_bool x23905), (23906, .lst .t_aRep x23906)]⟩) ?_
     rcases ite_some h with ⟨c3, h⟩ | ⟨c3, h⟩
     ·refine tt (b := (decide (a3 > 0))) (decide_eq_true c3) ?_
      obtain ⟨g8, h⟩ := guard_some h
      refine awp_post (ar L 267 [] [] [] (cs := [(0 : Int) ≤ (IntKind.i64.wrap (a3 - 1)), ((IntKind.i64.wrap (a3 - 1)) : Int) < (((p0.Replicas.getD (Int.toNat p1) z_aRep).Log).length : Int)]) (S' := ⟨[(1, .I p1), (2, .cv (.ro .t_bool p2)), (3, .P 23900), (6, .P 23901), (7, .P 23902), (8, .P 23903), (9, .I a2_0), (10, .I a2_1), (11, .cv (.own .t_int 23904)), (12, .cv (.own .t_bool 23905)), (13, .I xt13_19h), (14, .I a3), (15, .I ((((p0.Replicas.getD (Int.toNat p1) z_aRep).Log).getD (Int.toNat (IntKind.i64.wrap (a3 - 1))) z_aEnt).Epoch))], [(23900, .raw (d_wr55_Group p0)), (23901, .raw [.N, .N, .I 0, .I 0]), (23902, .raw [.own .t_aRep 23906, .ro .t_bool a1_0, .I p0.Leader, .I p0.Epoch]), (23903, .raw (d_aRep (p0.Replicas.getD (Int.toNat p1) z_aRep))), (23904, .lst .t_int x23904), (23905, .lst .t_bool x23905), (23906, .lst .t_aRep x23906)]⟩) (And.intro g8.1 g8.2) ⟨rfl, rfl⟩) (Turns.trans (Turns.kp (S' := ⟨[(1, .I p1), (2, .cv (.ro .t_bool p2)), (3, .P 23900), (6, .P 23901), (7, .P 23902), (8, .P 23903), (9, .I a2_0), (10, .I a2_1), (11, .cv (.own .t_int 23904)), (12, .cv (.own .t_bool 23905)), (13, .I xt13_19h), (14, .I a3), (15, .I ((((p0.Replicas.getD (Int.toNat p1) z_aRep).Log).getD (Int.toNat (IntKind.i64.wrap (a3 - 1))) z_aEnt).Epoch))], [(23900, .raw (d_wr55_Group p0)), (23901, .raw [.N, .N, .I 0, .I 0]), (23902, .raw [.own .t_aRep 23906, .ro .t_bool a1_0, .I p0.Leader, .I p0.Epoch]), (23903, .raw (d_aRep (p0.Replicas.getD (Int.toNat p1) z_aRep))), (23904, .lst .t_int x23904), (23905, .lst .t_bool x23905), (23906, .lst .t_aRep x23906)]⟩)) (Turns.trans (Turns.rn [(23900, 27600), (23901, 27601), (23902, 27602), (23903, 27603), (23904, 27604), (23905, 27605), (23906, 27606)] (S' := ⟨[(1, .I p1), (2, .cv (.ro .t_bool p2)), (3, .P 27600), (6, .P 27601), (7, .P 27602), (8, .P 27603), (9, .I a2_0), (10, .I a2_1), (11, .cv (.own .t_int 27604)), (12, .cv (.own .t_bool 27605)), (13, .I xt13_19h), (14, .I a3), (15, .I ((((p0.Replicas.getD (Int.toNat p1) z_aRep).Log).getD (Int.toNat (IntKind.i64.wrap (a3 - 1))) z_aEnt).Epoch))], [(27600, .raw (d_wr55_Group p0)), (27601, .raw [.N, .N, .I 0, .I 0]), (27602, .raw [.own .t_aRep 27606, .ro .t_bool a1_0, .I p0.Leader, .I p0.Epoch]), (27603, .raw (d_aRep (p0.Replicas.getD (Int.toNat p1) z_aRep))), (27604, .lst .t_int x23904), (27605, .lst .t_bool x23905), (27606, .lst .t_aRep x23906)]⟩)) (Turns.kp (S' := ⟨[(1, .I p1), (2, .cv (.ro .t_bool p2)), (3, .P 27600), (6, .P 27601), (7, .P 27602), (8, .P 27603), (9, .I a2_0), (10, .I a2_1), (11, .cv (.own .t_int 27604)), (12, .cv (.own .t_bool 27605)), (13, .I xt13_19h), (14, .I a3), (15, .I ((((p0.Replicas.getD (Int.toNat p1) z_aRep).Log).getD (Int.toNat (IntKind.i64.wrap (a3 - 1))) z_aEnt).Epoch))], [(27600, .raw (d_wr55_Group p0)), (27601, .raw [.N, .N, .I 0, .I 0]), (27602, .raw [.own .t_aRep 27606, .ro .t_bool a1_0, .I p0.Leader, .I p0.Epoch]), (27603, .raw (d_aRep (p0.Replicas.getD (Int.toNat p1) z_aRep))), (27604, .lst .t_int x23904), (27605, .lst .t_bool x23905), (27606, .lst .t_aRep x23906)]⟩)))) ?_
      obtain rfl := Option.some.inj h
      exact ⟨rfl, _, rfl, rfl⟩
     refine ff (b := (decide (a3 > 0))) (decide_eq_false c3) ?_
     refine awp_turn (Turns.trans (Turns.kp (S' := ⟨[(1, .I p1), (2, .cv (.ro .t_bool p2)), (3, .P 23900), (6, .P 23901), (7, .P 23902), (8, .P 23903), (9, .I a2_0), (10, .I a2_1), (11, .cv (.own .t_int 23904)), (12, .cv (.own .t_bool 23905)), (13, .I xt13_19h), (14, .I a3), (15, .I 0)], [(23900, .raw (d_wr55_Group p0)), (23901, .raw [.N, .N, .I 0, .I 0]), (23902, .raw [.own .t_aRep 23906, .ro .t_bool a1_0, .I p0.Leader, .I p0.Epoch]), (23903, .raw (d_aRep (p0.Replicas.getD (Int.toNat p1) z_aRep))), (23904, .lst .t_int x23904), (23905, .lst .t_bool x23905), (23906, .lst .t_aRep x23906)]⟩)) (Turns.rn [(23900, 27600), (23901, 27601), (23902, 27602), (23903, 27603), (23904, 27604), (23905, 27605), (23906, 27606)] (S' := ⟨[(1, .I p1), (2, .cv (.ro .t_bool p2)), (3, .P 27600), (6, .P 27601), (7, .P 27602), (8, .P 27603), (9, .I a2_0), (10, .I a2_1), (11, .cv (.own .t_int 27604)), (12, .cv (.own .t_bool 27605)), (13, .I xt13_19h), (14, .I a3), (15, .I 0)], [(27600, .raw (d_wr55_Group p0)), (27601, .raw [.N, .N, .I 0, .I 0]), (27602, .raw [.own .t_aRep 27606, .ro .t_bool a1_0, .I p0.Leader, .I p0.Epoch]), (27603, .raw (d_aRep (p0.Replicas.getD (Int.toNat p1) z_aRep))), (27604, .lst .t_int x23904), (27605, .lst .t_bool x23905), (27606, .lst .t_aRep x23906)]⟩))) ?_
     refine sk (S' := ⟨[(1, .I p1), (2, .cv (.ro .t_bool p2)), (3, .P 27600), (6, .P 27601), (7, .P 27602), (8, .P 27603), (9, .I a2_0), (10, .I a2_1), (11, .cv (.own .t_int 27604)), (12, .cv (.own .t_bool 27605)), (13, .I xt13_19h), (14, .I a3), (15, .I 0)], [(27600, .raw (d_wr55_Group p0)), (27601, .raw [.N, .N, .I 0, .I 0]), (27602, .raw [.own .t_aRep 27606, .ro .t_bool a1_0, .I p0.Leader, .I p0.Epoch]), (27603, .raw (d_aRep (p0.Replicas.getD (Int.toNat p1) z_aRep))), (27604, .lst .t_int x23904), (27605, .lst .t_bool x23905), (27606, .lst .t_aRep x23906)]⟩) ?_
     obtain rfl := Option.some.inj h
     exact ⟨rfl, _, rfl, rfl⟩
    ·rintro e S ⟨rfl, xt15_38, rfl, rfl⟩
     refine awp_seq ?_
     obtain ⟨g9, h⟩ := guard_some h
     obtain ⟨⟨a4_0, a4_1⟩, h4, h⟩ := bind_some h
     dsimp only at h
     refine ad L mixed 276 [] [(15, .tup [.agg (d_aRep a4_0), .I a4_1])] [] [295] 22 (cs := [(0 : Int) ≤ xt13_19h, (xt13_19h : Int) < (p0.Replicas.length : Int), (0 : Int) ≤ a3, a3 ≤ (((p0.Replicas.getD (Int.toNat p1) z_aRep).Log).length : Int), (((p0.Replicas.getD (Int.toNat p1) z_aRep).Log).length : Int) ≤ (((p0.Replicas.getD (Int.toNat p1) z_aRep).Log).length : Int), PCall V P 82 [.agg (d_aRep (p0.Replicas.getD (Int.toNat xt13_19h) z_aRep)), .I ((p0.Replicas.getD (Int.toNat p1) z_aRep).Epoch), .I a3, .I xt15_38, .cv (.ro .t_aEnt (slc ((p0.Replicas.getD (Int.toNat p1) z_aRep).Log) a3 (((p0.Replicas.getD (Int.toNat p1) z_aRep).Log).length : Int))), .I ((p0.Replicas.getD (Int.toNat p1) z_aRep).Commit)] (.tup [.agg (d_aRep a4_0), .I a4_1]), True]) (S' := ⟨[(1, .I p1), (2, .cv (.ro .t_bool p2)), (3, .P 27600), (6, .P 27601), (7, .P 27602), (8, .P 27603), (9, .I a2_0), (10, .I a2_1), (11, .cv (.own .t_int 27604)), (12, .cv (.own .t_bool 27605)), (13, .I xt13_19h), (16, .P 295), (17, .I a4_1)], [(295, .raw (d_aRep a4_0)), (27600, .raw (d_wr55_Group p0)), (27601, .raw [.N, .N, .I 0, .I 0]), (27602, .raw [.own .t_aRep 27606, .ro .t_bool a1_0, .I p0.Leader, .I p0.Epoch]), (27603, .raw (d_aRep (p0.Replicas.getD (Int.toNat p1) z_aRep))), (27604, .lst .t_int x23904), (27605, .lst .t_bool x23905), (27606, .lst .t_aRep x23906)]⟩) (And.intro g6.1 (And.intro g7 (And.intro g9.1 (And.intro g9.2 (And.intro (Int.le_refl _) (And.intro (wr52_Accept.ok h4) trivial)))))) ?_
     refine sr0 L 299 [] [] [] (S' := ⟨[(1, .I p1), (2, .cv (.ro .t_bool p2)), (3, .P 27600), (6, .P 27601), (7, .P 27602), (8, .P 27603), (9, .I a2_0), (10, .I a2_1), (11, .cv (.own .t_int 27604)), (12, .cv (.own .t_bool 27605)), (13, .I xt13_19h), (16, .P 295), (92, .B (decide (a4_1 = 0)))], [(295, .raw (d_aRep a4_0)), (27600, .raw (d_wr55_Group p0)), (27601, .raw [.N, .N, .I 0, .I 0]), (27602, .raw [.own .t_aRep 27606, .ro .t_bool a1_0, .I p0.Leader, .I p0.Epoch]), (27603, .raw (d_aRep (p0.Replicas.getD (Int.toNat p1) z_aRep))), (27604, .lst .t_int x23904), (27605, .lst .t_bool x23905), (27606, .lst .t_aRep x23906)]⟩) ?_
     rcases ite_some h with ⟨c4, h⟩ | ⟨c4, h⟩
     ·refine tt (b := (decide (a4_1 = 0))) (decide_eq_true c4) ?_
      refine awp_seq ?_
      obtain ⟨g10, h⟩ := guard_some h
      obtain ⟨g11, h⟩ := guard_some h
      refine ar L 302 [] [] [] (cs := [(0 : Int) ≤ xt13_19h, (xt13_19h : Int) < (x23906.length : Int), (Int.toNat xt13_19h) < x23906.length, True]) (S' := ⟨[(1, .I p1), (2, .cv (.ro .t_bool p2)), (3, .P 27600), (6, .P 27601), (7, .P 27602), (8, .P 27603), (9, .I a2_0), (10, .I a2_1), (11, .cv (.own .t_int 27604)), (12, .cv (.own .t_bool 27605)), (13, .I xt13_19h)], [(27600, .raw (d_wr55_Group p0)), (27601, .raw [.N, .N, .I 0, .I 0]), (27602, .raw [.own .t_aRep 27606, .ro .t_bool a1_0, .I p0.Leader, .I p0.Epoch]), (27603, .raw (d_aRep (p0.Replicas.getD (Int.toNat p1) z_aRep))), (27604, .lst .t_int x23904), (27605, .lst .t_bool x23905), (27606, .lst .t_aRep (x23906.set (Int.toNat xt13_19h) a4_0))]⟩) (And.intro g6.1 (And.intro g10 (And.intro g11 trivial))) ?_
      refine awp_seq ?_
      obtain ⟨g12, h⟩ := guard_some h
      obtain ⟨g13, h⟩ := guard_some h
      refine ar L 309 [] [] [] (cs := [(0 : Int) ≤ xt13_19h, (xt13_19h : Int) < (x23904.length : Int), (Int.toNat xt13_19h) < x23904.length, True]) (S' := ⟨[(1, .I p1), (2, .cv (.ro .t_bool p2)), (3, .P 27600), (6, .P 27601), (7, .P 27602), (8, .P 27603), (9, .I a2_0), (10, .I a2_1), (11, .cv (.own .t_int 27604)), (12, .cv (.own .t_bool 27605)), (13, .I xt13_19h)], [(27600, .raw (d_wr55_Group p0)), (27601, .raw [.N, .N, .I 0, .I 0]), (27602, .raw [.own .t_aRep 27606, .ro .t_bool a1_0, .I p0.Leader, .I p0.Epoch]), (27603, .raw (d_aRep (p0.Replicas.getD (Int.toNat p1) z_aRep))), (27604, .lst .t_int (x23904.set (Int.toNat xt13_19h) a2_0)), (27605, .lst .t_bool x23905), (27606, .lst .t_aRep (x23906.set (Int.toNat xt13_19h) a4_0))]⟩) (And.intro g6.1 (And.intro g12 (And.intro g13 trivial))) ?_
      obtain ⟨g14, h⟩ := guard_some h
      obtain ⟨g15, h⟩ := guard_some h
      refine ar L 315 [] [] [] (cs := [(0 : Int) ≤ xt13_19h, (xt13_19h : Int) < (x23905.length : Int), (Int.toNat xt13_19h) < x23905.length, True]) (S' := ⟨[(1, .I p1), (2, .cv (.ro .t_bool p2)), (3, .P 27600), (6, .P 27601), (7, .P 27602), (8, .P 27603), (9, .I a2_0), (10, .I a2_1), (11, .cv (.own .t_int 27604)), (12, .cv (.own .t_bool 27605)), (13, .I xt13_19h)], [(27600, .raw (d_wr55_Group p0)), (27601, .raw [.N, .N, .I 0, .I 0]), (27602, .raw [.own .t_aRep 27606, .ro .t_bool a1_0, .I p0.Leader, .I p0.Epoch]), (27603, .raw (d_aRep (p0.Replicas.getD (Int.toNat p1) z_aRep))), (27604, .lst .t_int (x23904.set (Int.toNat xt13_19h) a2_0)), (27605, .lst .t_bool (x23905.set (Int.toNat xt13_19h) true)), (27606, .lst .t_aRep (x23906.set (Int.toNat xt13_19h) a4_0))]⟩) (And.intro g6.1 (And.intro g14 (And.intro g15 trivial))) ?_
      refine awp_post (ar0 L 320 [] [] [] (S' := ⟨[(1, .I p1), (2, .cv (.ro .t_bool p2)), (3, .P 27600), (6, .P 27601), (7, .P 27602), (8, .P 27603), (9, .I a2_0), (10, .I a2_1), (11, .cv (.own .t_int 27604)), (12, .cv (.own .t_bool 27605)), (13, .I (IntKind.i64.wrap (xt13_19h + 1)))], [(27600, .raw (d_wr55_Group p0)), (27601, .raw [.N, .N, .I 0, .I 0]), (27602, .raw [.own .t_aRep 27606, .ro .t_bool a1_0, .I p0.Leader, .I p0.Epoch]), (27603, .raw (d_aRep (p0.Replicas.getD (Int.toNat p1) z_aRep))), (27604, .lst .t_int (x23904.set (Int.toNat xt13_19h) a2_0)), (27605, .lst .t_bool (x23905.set (Int.toNat xt13_19h) true)), (27606, .lst .t_aRep (x23906.set (Int.toNat xt13_19h) a4_0))]⟩) ⟨rfl, rfl⟩) (Turns.trans (Turns.kp (S' := ⟨[(1, .I p1), (2, .cv (.ro .t_bool p2)), (3, .P 27600), (6, .P 27601), (7, .P 27602), (8, .P 27603), (9, .I a2_0), (10, .I a2_1), (11, .cv (.own .t_int 27604)), (12, .cv (.own .t_bool 27605)), (13, .I (IntKind.i64.wrap (xt13_19h + 1)))], [(27600, .raw (d_wr55_Group p0)), (27601, .raw [.N, .N, .I 0, .I 0]), (27602, .raw [.own .t_aRep 27606, .ro .t_bool a1_0, .I p0.Leader, .I p0.Epoch]), (27603, .raw (d_aRep (p0.Replicas.getD (Int.toNat p1) z_aRep))), (27604, .lst .t_int (x23904.set (Int.toNat xt13_19h) a2_0)), (27605, .lst .t_bool (x23905.set (Int.toNat xt13_19h) true)), (27606, .lst .t_aRep (x23906.set (Int.toNat xt13_19h) a4_0))]⟩)) (Turns.trans (Turns.rn [(27600, 23900), (27601, 23901), (27602, 23902), (27603, 23903), (27604, 23904), (27605, 23905), (27606, 23906)] (S' := ⟨[(1, .I p1), (2, .cv (.ro .t_bool p2)), (3, .P 23900), (6, .P 23901), (7, .P 23902), (8, .P 23903), (9, .I a2_0), (10, .I a2_1), (11, .cv (.own .t_int 23904)), (12, .cv (.own .t_bool 23905)), (13, .I (IntKind.i64.wrap (xt13_19h + 1)))], [(23900, .raw (d_wr55_Group p0)), (23901, .raw [.N, .N, .I 0, .I 0]), (23902, .raw [.own .t_aRep 23906, .ro .t_bool a1_0, .I p0.Leader, .I p0.Epoch]), (23903, .raw (d_aRep (p0.Replicas.getD (Int.toNat p1) z_aRep))), (23904, .lst .t_int (x23904.set (Int.toNat xt13_19h) a2_0)), (23905, .lst .t_bool (x23905.set (Int.toNat xt13_19h) true)), (23906, .lst .t_aRep (x23906.set (Int.toNat xt13_19h) a4_0))]⟩)) (Turns.kp (S' := ⟨[(1, .I p1), (2, .cv (.ro .t_bool p2)), (3, .P 23900), (6, .P 23901), (7, .P 23902), (8, .P 23903), (9, .I a2_0), (10, .I a2_1), (11, .cv (.own .t_int 23904)), (12, .cv (.own .t_bool 23905)), (13, .I (IntKind.i64.wrap (xt13_19h + 1)))], [(23900, .raw (d_wr55_Group p0)), (23901, .raw [.N, .N, .I 0, .I 0]), (23902, .raw [.own .t_aRep 23906, .ro .t_bool a1_0, .I p0.Leader, .I p0.Epoch]), (23903, .raw (d_aRep (p0.Replicas.getD (Int.toNat p1) z_aRep))), (23904, .lst .t_int (x23904.set (Int.toNat xt13_19h) a2_0)), (23905, .lst .t_bool (x23905.set (Int.toNat xt13_19h) true)), (23906, .lst .t_aRep (x23906.set (Int.toNat xt13_19h) a4_0))]⟩)))) ?_
      exact ⟨k, Nat.lt_succ_self k, _, _, _, _, rfl, h⟩
     refine ff (b := (decide (a4_1 = 0))) (decide_eq_false c4) ?_
     refine awp_skip' ?_
     refine awp_post (ar0 L 320 [] [] [] (S' := ⟨[(1, .I p1), (2, .cv (.ro .t_bool p2)), (3, .P 27600), (6, .P 27601), (7, .P 27602), (8, .P 27603), (9, .I a2_0), (10, .I a2_1), (11, .cv (.own .t_int 27604)), (12, .cv (.own .t_bool 27605)), (13, .I (IntKind.i64.wrap (xt13_19h + 1)))], [(27600, .raw (d_wr55_Group p0)), (27601, .raw [.N, .N, .I 0, .I 0]), (27602, .raw [.own .t_aRep 27606, .ro .t_bool a1_0, .I p0.Leader, .I p0.Epoch]), (27603, .raw (d_aRep (p0.Replicas.getD (Int.toNat p1) z_aRep))), (27604, .lst .t_int x23904), (27605, .lst .t_bool x23905), (27606, .lst .t_aRep x23906)]⟩) ⟨rfl, rfl⟩) (Turns.trans (Turns.kp (S' := ⟨[(1, .I p1), (2, .cv (.ro .t_bool p2)), (3, .P 27600), (6, .P 27601), (7, .P 27602), (8, .P 27603), (9, .I a2_0), (10, .I a2_1), (11, .cv (.own .t_int 27604)), (12, .cv (.own .t_bool 27605)), (13, .I (IntKind.i64.wrap (xt13_19h + 1)))], [(27600, .raw (d_wr55_Group p0)), (27601, .raw [.N, .N, .I 0, .I 0]), (27602, .raw [.own .t_aRep 27606, .ro .t_bool a1_0, .I p0.Leader, .I p0.Epoch]), (27603, .raw (d_aRep (p0.Replicas.getD (Int.toNat p1) z_aRep))), (27604, .lst .t_int x23904), (27605, .lst .t_bool x23905), (27606, .lst .t_aRep x23906)]⟩)) (Turns.trans (Turns.rn [(27600, 23900), (27601, 23901), (27602, 23902), (27603, 23903), (27604, 23904), (27605, 23905), (27606, 23906)] (S' := ⟨[(1, .I p1), (2, .cv (.ro .t_bool p2)), (3, .P 23900), (6, .P 23901), (7, .P 23902), (8, .P 23903), (9, .I a2_0), (10, .I a2_1), (11, .cv (.own .t_int 23904)), (12, .cv (.own .t_bool 23905)), (13, .I (IntKind.i64.wrap (xt13_19h + 1)))], [(23900, .raw (d_wr55_Group p0)), (23901, .raw [.N, .N, .I 0, .I 0]), (23902, .raw [.own .t_aRep 23906, .ro .t_bool a1_0, .I p0.Leader, .I p0.Epoch]), (23903, .raw (d_aRep (p0.Replicas.getD (Int.toNat p1) z_aRep))), (23904, .lst .t_int x23904), (23905, .lst .t_bool x23905), (23906, .lst .t_aRep x23906)]⟩)) (Turns.kp (S' := ⟨[(1, .I p1), (2, .cv (.ro .t_bool p2)), (3, .P 23900), (6, .P 23901), (7, .P 23902), (8, .P 23903), (9, .I a2_0), (10, .I a2_1), (11, .cv (.own .t_int 23904)), (12, .cv (.own .t_bool 23905)), (13, .I (IntKind.i64.wrap (xt13_19h + 1)))], [(23900, .raw (d_wr55_Group p0)), (23901, .raw [.N, .N, .I 0, .I 0]), (23902, .raw [.own .t_aRep 23906, .ro .t_bool a1_0, .I p0.Leader, .I p0.Epoch]), (23903, .raw (d_aRep (p0.Replicas.getD (Int.toNat p1) z_aRep))), (23904, .lst .t_int x23904), (23905, .lst .t_bool x23905), (23906, .lst .t_aRep x23906)]⟩)))) ?_
     exact ⟨k, Nat.lt_succ_self k, _, _, _, _, rfl, h⟩
   refine tt (b := (!(p2.getD (Int.toNat xt13_19h) false))) (congrArg Bool.not (eq_false_of_ne_true c2)) ?_
   refine awp_exit' ?_
   refine ar0 L 320 [] [] [] (S' := ⟨[(1, .I p1), (2, .cv (.ro .t_bool p2)), (3, .P 23900), (6, .P 23901), (7, .P 23902), (8, .P 23903), (9, .I a2_0), (10, .I a2_1), (11, .cv (.own .t_int 23904)), (12, .cv (.own .t_bool 23905)), (13, .I (IntKind.i64.wrap (xt13_19h + 1)))], [(23900, .raw (d_wr55_Group p0)), (23901, .raw [.N, .N, .I 0, .I 0]), (23902, .raw [.own .t_aRep 23906, .ro .t_bool a1_0, .I p0.Leader, .I p0.Epoch]), (23903, .raw (d_aRep (p0.Replicas.getD (Int.toNat p1) z_aRep))), (23904, .lst .t_int x23904), (23905, .lst .t_bool x23905), (23906, .lst .t_aRep x23906)]⟩) ?_
   exact ⟨k, Nat.lt_succ_self k, _, _, _, _, rfl, h⟩
  refine ff (b := (decide (xt13_19h < (p2.length : Int)))) (decide_eq_false c1) ?_
  refine awp_turn (Turns.trans (Turns.kp (S' := ⟨[(1, .I p1), (2, .cv (.ro .t_bool p2)), (6, .P 23901), (7, .P 23902), (8, .P 23903), (9, .I a2_0), (10, .I a2_1), (11, .cv (.own .t_int 23904)), (12, .cv (.own .t_bool 23905))], [(23901, .raw [.N, .N, .I 0, .I 0]), (23902, .raw [.own .t_aRep 23906, .ro .t_bool a1_0, .I p0.Leader, .I p0.Epoch]), (23903, .raw (d_aRep (p0.Replicas.getD (Int.toNat p1) z_aRep))), (23904, .lst .t_int x23904), (23905, .lst .t_bool x23905), (23906, .lst .t_aRep x23906)]⟩)) (Turns.rn [(23901, 23800), (23902, 23801), (23903, 23802), (23904, 23803), (23905, 23804), (23906, 23805)] (S' := ⟨[(1, .I p1), (2, .cv (.ro .t_bool p2)), (6, .P 23800), (7, .P 23801), (8, .P 23802), (9, .I a2_0), (10, .I a2_1), (11, .cv (.own .t_int 23803)), (12, .cv (.own .t_bool 23804))], [(23800, .raw [.N, .N, .I 0, .I 0]), (23801, .raw [.own .t_aRep 23805, .ro .t_bool a1_0, .I p0.Leader, .I p0.Epoch]), (23802, .raw (d_aRep (p0.Replicas.getD (Int.toNat p1) z_aRep))), (23803, .lst .t_int x23904), (23804, .lst .t_bool x23905), (23805, .lst .t_aRep x23906)]⟩))) ?_
  refine ex (S' := ⟨[(1, .I p1), (2, .cv (.ro .t_bool p2)), (6, .P 23800), (7, .P 23801), (8, .P 23802), (9, .I a2_0), (10, .I a2_1), (11, .cv (.own .t_int 23803)), (12, .cv (.own .t_bool 23804))], [(23800, .raw [.N, .N, .I 0, .I 0]), (23801, .raw [.own .t_aRep 23805, .ro .t_bool a1_0, .I p0.Leader, .I p0.Epoch]), (23802, .raw (d_aRep (p0.Replicas.getD (Int.toNat p1) z_aRep))), (23803, .lst .t_int x23904), (23804, .lst .t_bool x23905), (23805, .lst .t_aRep x23906)]⟩) ?_
  obtain rfl := Option.some.inj h
  exact ⟨rfl, _, _, _, rfl, rfl⟩
 ·rintro e S ⟨rfl, x23803, x23804, x23805, rfl, rfl⟩
  dsimp only at h
  refine ⟨_, Turns.refl, ?_⟩
  refine awp_seq ?_
  obtain ⟨a5, h5, h⟩ := bind_some h
  refine ar L 324 [] [(2, .I a5)] [] (cs := [PCall V P 83 [.agg (d_aRep (p0.Replicas.getD (Int.toNat p1) z_aRep)), .cv (.ro .t_int x23803)] (.I a5), True]) (S' := ⟨[(1, .I p1), (2, .cv (.ro .t_bool p2)), (6, .P 23800), (7, .P 23801), (8, .P 23802), (9, .I a2_0), (10, .I a2_1), (12, .cv (.own .t_bool 23804)), (18, .I a5)], [(23800, .raw [.N, .N, .I 0, .I 0]), (23801, .raw [.own .t_aRep 23805, .ro .t_bool a1_0, .I p0.Leader, .I p0.Epoch]), (23802, .raw (d_aRep (p0.Replicas.getD (Int.toNat p1) z_aRep))), (23804, .lst .t_bool x23804), (23805, .lst .t_aRep x23805)]⟩) (And.intro (wr53_Commit.ok h5) trivial) ?_
  refine sr0 L 329 [] [] [] (S' := ⟨[(1, .I p1), (2, .cv (.ro .t_bool p2)), (6, .P 23800), (7, .P 23801), (8, .P 23802), (9, .I a2_0), (10, .I a2_1), (12, .cv (.own .t_bool 23804)), (18, .I a5), (19, .B (decide (a5 > (p0.Replicas.getD (Int.toNat p1) z_aRep).Commit)))], [(23800, .raw [.N, .N, .I 0, .I 0]), (23801, .raw [.own .t_aRep 23805, .ro .t_bool a1_0, .I p0.Leader, .I p0.Epoch]), (23802, .raw (d_aRep (p0.Replicas.getD (Int.toNat p1) z_aRep))), (23804, .lst .t_bool x23804), (23805, .lst .t_aRep x23805)]⟩) ?_
  refine sr0 L 335 [] [] [] (S' := ⟨[(1, .I p1), (2, .cv (.ro .t_bool p2)), (6, .P 23800), (7, .P 23801), (8, .P 23802), (9, .I a2_0), (10, .I a2_1), (12, .cv (.own .t_bool 23804)), (18, .I a5), (19, .B (decide (a5 > (p0.Replicas.getD (Int.toNat p1) z_aRep).Commit)))], [(23800, .raw [.N, .N, .I 0, .I 0]), (23801, .raw [.own .t_aRep 23805, .ro .t_bool a1_0, .I p0.Leader, .I p0.Epoch]), (23802, .raw [.I ((p0.Replicas.getD (Int.toNat p1) z_aRep).Epoch), .I ((p0.Replicas.getD (Int.toNat p1) z_aRep).Vote), .I a5, .ro .t_aEnt ((p0.Replicas.getD (Int.toNat p1) z_aRep).Log)]), (23804, .lst .t_bool x23804), (23805, .lst .t_aRep x23805)]⟩) ?_
  refine awp_seq ?_
  obtain ⟨g16, h⟩ := guard_some h
  obtain ⟨g17, h⟩ := guard_some h
  refine ar L 339 [] [] [] (cs := [(0 : Int) ≤ p1, (p1 : Int) < (x23805.length : Int), (Int.toNat p1) < x23805.length, True]) (S' := ⟨[(2, .cv (.ro .t_bool p2)), (6, .P 23800), (7, .P 23801), (8, .P 23802), (9, .I a2_0), (10, .I a2_1), (12, .cv (.own .t_bool 23804)), (18, .I a5), (19, .B (decide (a5 > (p0.Replicas.getD (Int.toNat p1) z_aRep).Commit)))], [(23800, .raw [.N, .N, .I 0, .I 0]), (23801, .raw [.own .t_aRep 23805, .ro .t_bool a1_0, .I p0.Leader, .I p0.Epoch]), (23802, .raw [.I ((p0.Replicas.getD (Int.toNat p1) z_aRep).Epoch), .I ((p0.Replicas.getD (Int.toNat p1) z_aRep).Vote), .I a5, .ro .t_aEnt ((p0.Replicas.getD (Int.toNat p1) z_aRep).Log)]), (23804, .lst .t_bool x23804), (23805, .lst .t_aRep (x23805.set (Int.toNat p1) (⟨(p0.Replicas.getD (Int.toNat p1) z_aRep).Epoch, (p0.Replicas.getD (Int.toNat p1) z_aRep).Vote, a5, (p0.Replicas.getD (Int.toNat p1) z_aRep).Log⟩ : aRep)))]⟩) (And.intro g1.1 (And.intro g16 (And.intro g17 trivial))) ?_
  refine awp_seq ?_
  refine sr0 L 346 [] [] [] (S' := ⟨[(2, .cv (.ro .t_bool p2)), (6, .P 23800), (7, .P 23801), (8, .P 23802), (9, .I a2_0), (10, .I a2_1), (12, .cv (.own .t_bool 23804)), (18, .I a5), (19, .B (decide (a5 > (p0.Replicas.getD (Int.toNat p1) z_aRep).Commit))), (20, .I 0)], [(23800, .raw [.N, .N, .I 0, .I 0]), (23801, .raw [.own .t_aRep 23805, .ro .t_bool a1_0, .I p0.Leader, .I p0.Epoch]), (23802, .raw [.I ((p0.Replicas.getD (Int.toNat p1) z_aRep).Epoch), .I ((p0.Replicas.getD (Int.toNat p1) z_aRep).Vote), .I a5, .ro .t_aEnt ((p0.Replicas.getD (Int.toNat p1) z_aRep).Log)]), (23804, .lst .t_bool x23804), (23805, .lst .t_aRep (x23805.set (Int.toNat p1) (⟨(p0.Replicas.getD (Int.toNat p1) z_aRep).Epoch, (p0.Replicas.getD (Int.toNat p1) z_aRep).Vote, a5, (p0.Replicas.getD (Int.toNat p1) z_aRep).Log⟩ : aRep)))]⟩) ?_
  refine awp_block ?_
  refine awp_turn (Turns.trans (Turns.kp (S' := ⟨[(2, .cv (.ro .t_bool p2)), (6, .P 23800), (7, .P 23801), (8, .P 23802), (9, .I a2_0), (10, .I a2_1), (12, .cv (.own .t_bool 23804)), (18, .I a5), (19, .B (decide (a5 > (p0.Replicas.getD (Int.toNat p1) z_aRep).Commit))), (20, .I 0)], [(23800, .raw [.N, .N, .I 0, .I 0]), (23801, .raw [.own .t_aRep 23805, .ro .t_bool a1_0, .I p0.Leader, .I p0.Epoch]), (23802, .raw [.I ((p0.Replicas.getD (Int.toNat p1) z_aRep).Epoch), .I ((p0.Replicas.getD (Int.toNat p1) z_aRep).Vote), .I a5, .ro .t_aEnt ((p0.Replicas.getD (Int.toNat p1) z_aRep).Log)]), (23804, .lst .t_bool x23804), (23805, .lst .t_aRep (x23805.set (Int.toNat p1) (⟨(p0.Replicas.getD (Int.toNat p1) z_aRep).Epoch, (p0.Replicas.getD (Int.toNat p1) z_aRep).Vote, a5, (p0.Replicas.getD (Int.toNat p1) z_aRep).Log⟩ : aRep)))]⟩)) (Turns.rn [(23800, 33700), (23801, 33701), (23802, 33702), (23804, 33703), (23805, 33704)] (S' := ⟨[(2, .cv (.ro .t_bool p2)), (6, .P 33700), (7, .P 33701), (8, .P 33702), (9, .I a2_0), (10, .I a2_1), (12, .cv (.own .t_bool 33703)), (18, .I a5), (19, .B (decide (a5 > (p0.Replicas.getD (Int.toNat p1) z_aRep).Commit))), (20, .I 0)], [(33700, .raw [.N, .N, .I 0, .I 0]), (33701, .raw [.own .t_aRep 33704, .ro .t_bool a1_0, .I p0.Leader, .I p0.Epoch]), (33702, .raw [.I ((p0.Replicas.getD (Int.toNat p1) z_aRep).Epoch), .I ((p0.Replicas.getD (Int.toNat p1) z_aRep).Vote), .I a5, .ro .t_aEnt ((p0.Replicas.getD (Int.toNat p1) z_aRep).Log)]), (33703, .lst .t_bool x23804), (33704, .lst .t_aRep (x23805.set (Int.toNat p1) (⟨(p0.Replicas.getD (Int.toNat p1) z_aRep).Epoch, (p0.Replicas.getD (Int.toNat p1) z_aRep).Vote, a5, (p0.Replicas.getD (Int.toNat p1) z_aRep).Log⟩ : aRep)))]⟩))) ?_
  refine kp (S' := ⟨[(2, .cv (.ro .t_bool p2)), (6, .P 33700), (7, .P 33701), (8, .P 33702), (9, .I a2_0), (10, .I a2_1), (12, .cv (.own .t_bool 33703)), (18, .I a5), (19, .B (decide (a5 > (p0.Replicas.getD (Int.toNat p1) z_aRep).Commit))), (20, .I 0)], [(33700, .raw [.N, .N, .I 0, .I 0]), (33701, .raw [.own .t_aRep 33704, .ro .t_bool a1_0, .I p0.Leader, .I p0.Epoch]), (33702, .raw [.I ((p0.Replicas.getD (Int.toNat p1) z_aRep).Epoch), .I ((p0.Replicas.getD (Int.toNat p1) z_aRep).Vote), .I a5, .ro .t_aEnt ((p0.Replicas.getD (Int.toNat p1) z_aRep).Log)]), (33703, .lst .t_bool x23804), (33704, .lst .t_aRep (x23805.set (Int.toNat p1) (⟨(p0.Replicas.getD (Int.toNat p1) z_aRep).Epoch, (p0.Replicas.getD (Int.toNat p1) z_aRep).Vote, a5, (p0.Replicas.getD (Int.toNat p1) z_aRep).Log⟩ : aRep)))]⟩) ?_
  obtain ⟨o3, hp3, h⟩ := bind_some h
  refine awp_conseq (Q' := fun e S => (e = .exit 2 ∧ ∃ x33602 : List aRep, S = ⟨[(6, .P 33600), (7, .P 33601)], [(33600, .raw [.N, .N, .I 0, .I 0]), (33601, .raw [.own .t_aRep 33602, .ro .t_bool a1_0, .I p0.Leader, .I p0.Epoch]), (33602, .lst .t_aRep x33602)]⟩ ∧ x33602 = o3)) (awp_loop (fun k S => ∃ xt20_68h : Int, ∃ x33704 : List aRep, S = ⟨[(2, .cv (.ro .t_bool p2)), (6, .P 33700), (7, .P 33701), (8, .P 33702), (9, .I a2_0), (10, .I a2_1), (12, .cv (.own .t_bool 33703)), (18, .I a5), (19, .B (decide (a5 > (p0.Replicas.getD (Int.toNat p1) z_aRep).Commit))), (20, .I xt20_68h)], [(33700, .raw [.N, .N, .I 0, .I 0]), (33701, .raw [.own .t_aRep 33704, .ro .t_bool a1_0, .I p0.Leader, .I p0.Epoch]), (33702, .raw [.I ((p0.Replicas.getD (Int.toNat p1) z_aRep).Epoch), .I ((p0.Replicas.getD (Int.toNat p1) z_aRep).Vote), .I a5, .ro .t_aEnt ((p0.Replicas.getD (Int.toNat p1) z_aRep).Log)]), (33703, .lst .t_bool x23804), (33704, .lst .t_aRep x33704)]⟩ ∧ wr55_replicate.l68 K p0 p1 p2 a2_0 a2_1 x23804 a5 k xt20_68h x33704 = some o3) ?_ ⟨_, _, rfl, hp3⟩) ?_
  ·clear h hp3
   intro k S hS
   obtain ⟨xt20_68h, x33704, rfl, h⟩ := hS
   cases k with
   | zero => cases h
   | succ k =>
   unfold wr55_replicate.l68 at h
   refine awp_seq ?_
   refine awp_seq ?_
   rcases ite_some h with ⟨c5, h⟩ | ⟨c5, h⟩
   ·refine ar L 348 [(4, true)] [] [] (cs := [(decide (xt20_68h < (p2.length : Int))) = true]) (S' := ⟨[(2, .cv (.ro .t_bool p2)), (6, .P 33700), (7, .P 33701), (8, .P 33702), (9, .I a2_0), (10, .I a2_1), (12, .cv (.own .t_bool 33703)), (18, .I a5), (19, .B (decide (a5 > (p0.Replicas.getD (Int.toNat p1) z_aRep).Commit))), (20, .I xt20_68h), (125, .B (decide (a5 > (p0.Replicas.getD (Int.toNat p1) z_aRep).Commit)))], [(33700, .raw [.N, .N, .I 0, .I 0]), (33701, .raw [.own .t_aRep 33704, .ro .t_bool a1_0, .I p0.Leader, .I p0.Epoch]), (33702, .raw [.I ((p0.Replicas.getD (Int.toNat p1) z_aRep).Epoch), .I ((p0.Replicas.getD (Int.toNat p1) z_aRep).Vote), .I a5, .ro .t_aEnt ((p0.Replicas.getD (Int.toNat p1) z_aRep).Log)]), (33703, .lst .t_bool x23804), (33704, .lst .t_aRep x33704)]⟩) (decide_eq_true c5) ?_
    rcases ite_some h with ⟨c6, h⟩ | ⟨c6, h⟩
    ·refine tt (b := (decide (a5 > (p0.Replicas.getD (Int.toNat p1) z_aRep).Commit))) (decide_eq_true c6) ?_
     refine awp_skip' ?_
     refine awp_seq ?_
     refine awp_block ?_
     refine awp_seq ?_
     obtain ⟨g18, h⟩ := guard_some h
     obtain ⟨g19, h⟩ := guard_some h
     refine ar L 356 [] [] [] (cs := [(0 : Int) ≤ xt20_68h, (xt20_68h : Int) < (x23804.length : Int), (Int.toNat xt20_68h) < x23804.length]) (S' := ⟨[(2, .cv (.ro .t_bool p2)), (6, .P 33700), (7, .P 33701), (8, .P 33702), (9, .I a2_0), (10, .I a2_1), (12, .cv (.own .t_bool 33703)), (18, .I a5), (19, .B (decide (a5 > (p0.Replicas.getD (Int.toNat p1) z_aRep).Commit))), (20, .I xt20_68h), (131, .B (x23804.getD (Int.toNat xt20_68h) false))], [(33700, .raw [.N, .N, .I 0, .I 0]), (33701, .raw [.own .t_aRep 33704, .ro .t_bool a1_0, .I p0.Leader, .I p0.Epoch]), (33702, .raw [.I ((p0.Replicas.getD (Int.toNat p1) z_aRep).Epoch), .I ((p0.Replicas.getD (Int.toNat p1) z_aRep).Vote), .I a5, .ro .t_aEnt ((p0.Replicas.getD (Int.toNat p1) z_aRep).Log)]), (33703, .lst .t_bool x23804), (33704, .lst .t_aRep x33704)]⟩) (And.intro g18.1 (And.intro g18.2 g19)) ?_
     rcases ite_some h with ⟨c7, h⟩ | ⟨c7, h⟩
     ·refine tt (b := (x23804.getD (Int.toNat xt20_68h) false)) (c7) ?_
      refine awp_seq ?_
      obtain ⟨g20, h⟩ := guard_some h
      obtain ⟨g21, h⟩ := guard_some h
      obtain ⟨⟨a6_0, a6_1⟩, h6, h⟩ := bind_some h
      dsimp only at h
      refine ad L mixed 361 [] [(10, .tup [.agg (d_aRep a6_0), .I a6_1])] [] [375] 17 (cs := [(0 : Int) ≤ xt20_68h, (xt20_68h : Int) < (x33704.length : Int), (Int.toNat xt20_68h) < x33704.length, PCall V P 82 [.agg (d_aRep (x33704.getD (Int.toNat xt20_68h) z_aRep)), .I ((p0.Replicas.getD (Int.toNat p1) z_aRep).Epoch), .I a2_0, .I a2_1, .N, .I a5] (.tup [.agg (d_aRep a6_0), .I a6_1]), True]) (S' := ⟨[(2, .cv (.ro .t_bool p2)), (6, .P 33700), (7, .P 33701), (8, .P 33702), (9, .I a2_0), (10, .I a2_1), (12, .cv (.own .t_bool 33703)), (18, .I a5), (19, .B (decide (a5 > (p0.Replicas.getD (Int.toNat p1) z_aRep).Commit))), (20, .I xt20_68h), (21, .P 375), (22, .I a6_1)], [(375, .raw (d_aRep a6_0)), (33700, .raw [.N, .N, .I 0, .I 0]), (33701, .raw [.own .t_aRep 33704, .ro .t_bool a1_0, .I p0.Leader, .I p0.Epoch]), (33702, .raw [.I ((p0.Replicas.getD (Int.toNat p1) z_aRep).Epoch), .I ((p0.Replicas.getD (Int.toNat p1) z_aRep).Vote), .I a5, .ro .t_aEnt ((p0.Replicas.getD (Int.toNat p1) z_aRep).Log)]), (33703, .lst .t_bool x23804), (33704, .lst .t_aRep x33704)]⟩) (And.intro g18.1 (And.intro g20 (And.intro g21 (And.intro (PCall.co V (wr52_Accept.ok h6) (by kernel_rfl)) trivial)))) ?_
      refine sr0 L 379 [] [] [] (S' := ⟨[(2, .cv (.ro .t_bool p2)), (6, .P 33700), (7, .P 33701), (8, .P 33702), (9, .I a2_0), (10, .I a2_1), (12, .cv (.own .t_bool 33703)), (18, .I a5), (19, .B (decide (a5 > (p0.Replicas.getD (Int.toNat p1) z_aRep).Commit))), (20, .I xt20_68h), (21, .P 375), (147, .B (decide (a6_1 = 0)))], [(375, .raw (d_aRep a6_0)), (33700, .raw [.N, .N, .I 0, .I 0]), (33701, .raw [.own .t_aRep 33704, .ro .t_bool a1_0, .I p0.Leader, .I p0.Epoch]), (33702, .raw [.I ((p0.Replicas.getD (Int.toNat p1) z_aRep).Epoch), .I ((p0.Replicas.getD (Int.toNat p1) z_aRep).Vote), .I a5, .ro .t_aEnt ((p0.Replicas.getD (Int.toNat p1) z_aRep).Log)]), (33703, .lst .t_bool x23804), (33704, .lst .t_aRep x33704)]⟩) ?_
      rcases ite_some h with ⟨c8, h⟩ | ⟨c8, h⟩
      ·refine tt (b := (decide (a6_1 = 0))) (decide_eq_true c8) ?_
       refine ar L 382 [] [] [] (cs := [(0 : Int) ≤ xt20_68h, (xt20_68h : Int) < (x33704.length : Int), (Int.toNat xt20_68h) < x33704.length, True]) (S' := ⟨[(2, .cv (.ro .t_bool p2)), (6, .P 33700), (7, .P 33701), (8, .P 33702), (9, .I a2_0), (10, .I a2_1), (12, .cv (.own .t_bool 33703)), (18, .I a5), (19, .B (decide (a5 > (p0.Replicas.getD (Int.toNat p1) z_aRep).Commit))), (20, .I xt20_68h)], [(33700, .raw [.N, .N, .I 0, .I 0]), (33701, .raw [.own .t_aRep 33704, .ro .t_bool a1_0, .I p0.Leader, .I p0.Epoch]), (33702, .raw [.I ((p0.Replicas.getD (Int.toNat p1) z_aRep).Epoch), .I ((p0.Replicas.getD (Int.toNat p1) z_aRep).Vote), .I a5, .ro .t_aEnt ((p0.Replicas.getD (Int.toNat p1) z_aRep).Log)]), (33703, .lst .t_bool x23804), (33704, .lst .t_aRep (x33704.set (Int.toNat xt20_68h) a6_0))]⟩) (And.intro g18.1 (And.intro g20 (And.intro g21 trivial))) ?_
       refine ar0 L 389 [] [] [] (S' := ⟨[(2, .cv (.ro .t_bool p2)), (6, .P 33700), (7, .P 33701), (8, .P 33702), (9, .I a2_0), (10, .I a2_1), (12, .cv (.own .t_bool 33703)), (18, .I a5), (19, .B (decide (a5 > (p0.Replicas.getD (Int.toNat p1) z_aRep).Commit))), (20, .I (IntKind.i64.wrap (xt20_68h + 1)))], [(33700, .raw [.N, .N, .I 0, .I 0]), (33701, .raw [.own .t_aRep 33704, .ro .t_bool a1_0, .I p0.Leader, .I p0.Epoch]), (33702, .raw [.I ((p0.Replicas.getD (Int.toNat p1) z_aRep).Epoch), .I ((p0.Replicas.getD (Int.toNat p1) z_aRep).Vote), .I a5, .ro .t_aEnt ((p0.Replicas.getD (Int.toNat p1) z_aRep).Log)]), (33703, .lst .t_bool x23804), (33704, .lst .t_aRep (x33704.set (Int.toNat xt20_68h) a6_0))]⟩) ?_
       exact ⟨k, Nat.lt_succ_self k, _, _, rfl, h⟩
      refine ff (b := (decide (a6_1 = 0))) (decide_eq_false c8) ?_
      refine awp_skip' ?_
      refine ar0 L 389 [] [] [] (S' := ⟨[(2, .cv (.ro .t_bool p2)), (6, .P 33700), (7, .P 33701), (8, .P 33702), (9, .I a2_0), (10, .I a2_1), (12, .cv (.own .t_bool 33703)), (18, .I a5), (19, .B (decide (a5 > (p0.Replicas.getD (Int.toNat p1) z_aRep).Commit))), (20, .I (IntKind.i64.wrap (xt20_68h + 1)))], [(33700, .raw [.N, .N, .I 0, .I 0]), (33701, .raw [.own .t_aRep 33704, .ro .t_bool a1_0, .I p0.Leader, .I p0.Epoch]), (33702, .raw [.I ((p0.Replicas.getD (Int.toNat p1) z_aRep).Epoch), .I ((p0.Replicas.getD (Int.toNat p1) z_aRep).Vote), .I a5, .ro .t_aEnt ((p0.Replicas.getD (Int.toNat p1) z_aRep).Log)]), (33703, .lst .t_bool x23804), (33704, .lst .t_aRep x33704)]⟩) ?_
      exact ⟨k, Nat.lt_succ_self k, _, _, rfl, h⟩
     refine ff (b := (x23804.getD (Int.toNat xt20_68h) false)) (eq_false_of_ne_true c7) ?_
     refine awp_skip' ?_
     refine ar0 L 389 [] [] [] (S' := ⟨[(2, .cv (.ro .t_bool p2)), (6, .P 33700), (7, .P 33701), (8, .P 33702), (9, .I a2_0), (10, .I a2_1), (12, .cv (.own .t_bool 33703)), (18, .I a5), (19, .B (decide (a5 > (p0.Replicas.getD (Int.toNat p1) z_aRep).Commit))), (20, .I (IntKind.i64.wrap (xt20_68h + 1)))], [(33700, .raw [.N, .N, .I 0, .I 0]), (33701, .raw [.own .t_aRep 33704, .ro .t_bool a1_0, .I p0.Leader, .I p0.Epoch]), (33702, .raw [.I ((p0.Replicas.getD (Int.toNat p1) z_aRep).Epoch), .I ((p0.Replicas.getD (Int.toNat p1) z_aRep).Vote), .I a5, .ro .t_aEnt ((p0.Replicas.getD (Int.toNat p1) z_aRep).Log)]), (33703, .lst .t_bool x23804), (33704, .lst .t_aRep x33704)]⟩) ?_
     exact ⟨k, Nat.lt_succ_self k, _, _, rfl, h⟩
    refine ff (b := (decide (a5 > (p0.Replicas.getD (Int.toNat p1) z_aRep).Commit))) (decide_eq_false c6) ?_
    refine awp_turn (Turns.trans (Turns.kp (S' := ⟨[(6, .P 33700), (7, .P 33701)], [(33700, .raw [.N, .N, .I 0, .I 0]), (33701, .raw [.own .t_aRep 33704, .ro .t_bool a1_0, .I p0.Leader, .I p0.Epoch]), (33704, .lst .t_aRep x33704)]⟩)) (Turns.rn [(33700, 33600), (33701, 33601), (33704, 33602)] (S' := ⟨[(6, .P 33600), (7, .P 33601)], [(33600, .raw [.N, .N, .I 0, .I 0]), (33601, .raw [.own .t_aRep 33602, .ro .t_bool a1_0, .I p0.Leader, .I p0.Epoch]), (33602, .lst .t_aRep x33704)]⟩))) ?_
    refine ex (S' := ⟨[(6, .P 33600), (7, .P 33601)], [(33600, .raw [.N, .N, .I 0, .I 0]), (33601, .raw [.own .t_aRep 33602, .ro .t_bool a1_0, .I p0.Leader, .I p0.Epoch]), (33602, .lst .t_aRep x33704)]⟩) ?_
    obtain rfl := Option.some.inj h
    exact ⟨rfl, _, rfl, rfl⟩
   refine ar L 348 [(4, false)] [] [] (cs := [(decide (xt20_68h < (p2.length : Int))) = false]) (S' := ⟨[(2, .cv (.ro .t_bool p2)), (6, .P 33700), (7, .P 33701), (8, .P 33702), (9, .I a2_0), (10, .I a2_1), (12, .cv (.own .t_bool 33703)), (18, .I a5), (19, .B (decide (a5 > (p0.Replicas.getD (Int.toNat p1) z_aRep).Commit))), (20, .I xt20_68h), (125, .B false)], [(33700, .raw [.N, .N, .I 0, .I 0]), (33701, .raw [.own .t_aRep 33704, .ro .t_bool a1_0, .I p0.Leader, .I p0.Epoch]), (33702, .raw [.I ((p0.Replicas.getD (Int.toNat p1) z_aRep).Epoch), .I ((p0.Replicas.getD (Int.toNat p1) z_aRep).Vote), .I a5, .ro .t_aEnt ((p0.Replicas.getD (Int.toNat p1) z_aRep).Log)]), (33703, .lst .t_bool x23804), (33704, .lst .t_aRep x33704)]⟩) (decide_eq_false c5) ?_
   refine ff (b := false) (rfl) ?_
   refine awp_turn (Turns.trans (Turns.kp (S' := ⟨[(6, .P 33700), (7, .P 33701)], [(33700, .raw [.N, .N, .I 0, .I 0]), (33701, .raw [.own .t_aRep 33704, .ro .t_bool a1_0, .I p0.Leader, .I p0.Epoch]), (33704, .lst .t_aRep x33704)]⟩)) (Turns.rn [(33700, 33600), (33701, 33601), (33704, 33602)] (S' := ⟨[(6, .P 33600), (7, .P 33601)], [(33600, .raw [.N, .N, .I 0, .I 0]), (33601, .raw [.own .t_aRep 33602, .ro .t_bool a1_0, .I p0.Leader, .I p0.Epoch]), (33602, .lst .t_aRep x33704)]⟩))) ?_
   refine ex (S' := ⟨[(6, .P 33600), (7, .P 33601)], [(33600, .raw [.N, .N, .I 0, .I 0]), (33601, .raw [.own .t_aRep 33602, .ro .t_bool a1_0, .I p0.Leader, .I p0.Epoch]), (33602, .lst .t_aRep x33704)]⟩) ?_
   obtain rfl := Option.some.inj h
   exact ⟨rfl, _, rfl, rfl⟩
  ·rintro e S ⟨rfl, x33602, rfl, rfl⟩
   refine ⟨_, Turns.refl, ?_⟩
   refine sr0 L 393 [] [] [] (S' := ⟨[(6, .P 33600)], [(33600, .raw [.own .t_aRep 33602, .ro .t_bool a1_0, .I p0.Leader, .I p0.Epoch]), (33602, .lst .t_aRep x33602)]⟩) ?_
   refine awp_turn (Turns.trans (Turns.frz 33602 (blk0 := .lst .t_aRep x33602) (by kernel_rfl) (by kernel_rfl) (S' := ⟨[(6, .P 33600)], [(33600, .raw [.ro .t_aRep x33602, .ro .t_bool a1_0, .I p0.Leader, .I p0.Epoch])]⟩) (by kernel_rfl)) (Turns.rn [(33600, 100)] (S' := ⟨[(6, .P 100)], [(100, .raw [.ro .t_aRep x33602, .ro .t_bool a1_0, .I p0.Leader, .I p0.Epoch])]⟩))) ?_
   refine awp_ret ?_
   obtain rfl := Option.some.inj h
   exact er (.agg [.ro .t_aRep x33602, .ro .t_bool a1_0, .I p0.Leader, .I p0.Epoch])
theorem wr55_replicate.ok {K : Nat} {p0 : wr55_Group} {p1 : Int} {p2 : List Bool} {r : wr55_Group} (h : wr55_replicate K p0 p1 p2 = some r) : PCall V P 51 [.agg (d_wr55_Group p0), .I p1, .cv (.ro .t_bool p2)] (.agg [.ro .t_aRep r.Replicas, .ro .t_bool r.Up, .I r.Leader, .I r.Epoch]) := ECall.pcall (eo (fn := Tryz.f51) (n := 154) (m := 100) fun Γ => wr55_replicate.body h) (by kernel_rfl)
def wr55_Propose (K : Nat) (p0 : wr55_Group) (p1 : Int) (p2 : Int) (p3 : List UInt8) (p4 : List Int) : Option (wr55_Group × Int × Bool × Int) := (Option.bind (wr55_args K p0 p1 p4) (fun a1 => (if a1 ≠ 0 then some ((⟨([] : List aRep), ([] : List Bool), 0, 0⟩ : wr55_Group), 0, false, a1) else (Option.bind (wr55_partakes K p0 p1 p4) (fun a2 => (Option.bind (wr55_fenced K p0 p1 p2 a2) (fun a3 => (if a3 = true then some ((⟨([] : List aRep), ([] : List Bool), 0, 0⟩ : wr55_Group), 0, false, 25) else (if (0 : Int) ≤ p1 ∧ (p1 : Int) < (p0.Replicas.length : Int) then (Option.bind (wr52_Lead K (p0.Replicas.getD (Int.toNat p1) z_aRep) p2 p3) (fun (a4_0, a4_1) => (if a4_1 ≠ 0 then some ((⟨([] : List aRep), ([] : List Bool), 0, 0⟩ : wr55_Group), 0, false, a4_1) else (Option.bind (wr55_cloned_v2 K p0) (fun (a5_0, a5_1) => (if (p1 : Int) < (a5_1.length : Int) then (if (Int.toNat p1) < a5_1.length then (Option.bind (wr55_replicate K (⟨(a5_1.set (Int.toNat p1) a4_0), a5_0, p0.Leader, p0.Epoch⟩ : wr55_Group) p1 a2) (fun a6 => (if (p1 : Int) < (a6.Replicas.length : Int) then some (a6, (a4_0.Log.length : Int), (decide ((a6.Replicas.getD (Int.toNat p1) z_aRep).Commit = (a4_0.Log.length : Int))), 0) else none))) else none) else none)))))) else none)))))))))
theorem wr55_Propose.body {Γ : Ent} {K : Nat} {p0 : wr55_Group} {p1 : Int} {p2 : Int} {p3 : List UInt8} {p4 : List Int} {r : wr55_Group × Int × Bool × Int} (h : wr55_Propose K p0 p1 p2 p3 p4 = some r) : AWp V P 77 100 Γ (Tryz.f20.body.getD .skip) (EndsE P V Tryz.f20 (.tup [.agg [.ro .t_aRep r.1.Replicas, .ro .t_bool r.1.Up, .I r.1.Leader, .I r.1.Epoch], .I r.2.1, .B r.2.2.1, .I r.2.2.2]) []) ⟨args0 0 [.agg (d_wr55_Group p0), .I p1, .I p2, .cv (.ro .t_uint8 p3), .cv (.ro .t_int p4)], []⟩ := by
 unfold wr55_Propose at h
 refine sr0 L 200 [] [] [] (S' := ⟨[(1, .I p1), (2, .I p2), (3, .cv (.ro .t_uint8 p3)), (4, .cv (.ro .t_int p4)), (5, .P 200), (10, .P 201)], [(200, .raw (d_wr55_Group p0)), (201, .raw [.N, .N, .I 0, .I 0])]⟩) ?_
 refine awp_seq ?_
 obtain ⟨a1, h1, h⟩ := bind_some h
 refine ar L 206 [] [(3, .I a1)] [] (cs := [PCall V P 42 [.agg (d_wr55_Group p0), .I p1, .cv (.ro .t_int p4)] (.I a1), True]) (S' := ⟨[(1, .I p1), (2, .I p2), (3, .cv (.ro .t_uint8 p3)), (4, .cv (.ro .t_int p4)), (5, .P 200), (10, .P 201), (14, .I a1)], [(200, .raw (d_wr55_Group p0)), (201, .raw [.N, .N, .I 0, .I 0])]⟩) (And.intro (wr55_args.ok h1) trivial) ?_
 refine awp_seq ?_
 refine sr0 L 212 [] [] [] (S' := ⟨[(1, .I p1), (2, .I p2), (3, .cv (.ro .t_uint8 p3)), (4, .cv (.ro .t_int p4)), (5, .P 200), (10, .P 201), (14, .I a1), (24, .B (decide (a1 ≠ 0)))], [(200, .raw (d_wr55_Group p0)), (201, .raw [.N, .N, .I 0, .I 0])]⟩) ?_
 rcases ite_some h with ⟨c1, h⟩ | ⟨c1, h⟩
 ·refine tt (b := (decide (a1 ≠ 0))) (decide_eq_true c1) ?_
  refine sr0 L 215 [] [] [] (S' := ⟨[(10, .P 201), (11, .I 0), (12, .B false), (13, .I a1)], [(201, .raw [.N, .N, .I 0, .I 0])]⟩) ?_
  refine awp_turn (Turns.rn [(201, 100)] (S' := ⟨[(10, .P 100), (11, .I 0), (12, .B false), (13, .I a1)], [(100, .raw [.N, .N, .I 0, .I 0])]⟩)) ?_
  refine awp_ret ?_
  obtain rfl := Option.some.inj h
  exact er (.tup [.agg [.N, .N, .I 0, .I 0], .I 0, .B false, .I a1])
 refine ff (b := (decide (a1 ≠ 0))) (decide_eq_false c1) ?_
 refine awp_skip' ?_
 refine awp_seq ?_
 obtain ⟨a2, h2, h⟩ := bind_some h
 refine ar L 222 [] [(3, .cv (.ro .t_bool a2))] [] (cs := [PCall V P 45 [.agg (d_wr55_Group p0), .I p1, .cv (.ro .t_int p4)] (.cv (.ro .t_bool a2)), True]) (S' := ⟨[(1, .I p1), (2, .I p2), (3, .cv (.ro .t_uint8 p3)), (5, .P 200), (10, .P 201), (15, .cv (.ro .t_bool a2))], [(200, .raw (d_wr55_Group p0)), (201, .raw [.N, .N, .I 0, .I 0])]⟩) (And.intro (wr55_partakes.ok h2) trivial) ?_
 refine awp_seq ?_
 refine awp_seq ?_
 obtain ⟨a3, h3, h⟩ := bind_some h
 refine ar L 228 [] [(4, .B a3)] [] (cs := [PCall V P 49 [.agg (d_wr55_Group p0), .I p1, .I p2, .cv (.ro .t_bool a2)] (.B a3), True]) (S' := ⟨[(1, .I p1), (2, .I p2), (3, .cv (.ro .t_uint8 p3)), (5, .P 200), (10, .P 201), (15, .cv (.ro .t_bool a2)), (35, .B a3)], [(200, .raw (d_wr55_Group p0)), (201, .raw [.N, .N, .I 0, .I 0])]⟩) (And.intro (wr55_fenced.ok h3) trivial) ?_
 rcases ite_some h with ⟨c2, h⟩ | ⟨c2, h⟩
 ·refine tt (b := a3) (c2) ?_
  refine sr0 L 234 [] [] [] (S' := ⟨[(10, .P 201), (11, .I 0), (12, .B false), (13, .I 25)], [(201, .raw [.N, .N, .I 0, .I 0])]⟩) ?_
  refine awp_turn (Turns.rn [(201, 100)] (S' := ⟨[(10, .P 100), (11, .I 0), (12, .B false), (13, .I 25)], [(100, .raw [.N, .N, .I 0, .I 0])]⟩)) ?_
  refine awp_ret ?_
  obtain rfl := Option.some.inj h
  exact er (.tup [.agg [.N, .N, .I 0, .I 0], .I 0, .B false, .I 25])
 refine ff (b := a3) (eq_false_of_ne_true c2) ?_
 refine awp_skip' ?_
 refine awp_seq ?_
 obtain ⟨g1, h⟩ := guard_some h
 obtain ⟨⟨a4_0, a4_1⟩, h4, h⟩ := bind_some h
 dsimp only at h
 refine ar L 240 [] [(7, .tup [.agg (d_aRep a4_0), .I a4_1])] [] (cs := [(0 : Int) ≤ p1, (p1 : Int) < (p0.Replicas.length : Int), PCall V P 50 [.agg (d_aRep (p0.Replicas.getD (Int.toNat p1) z_aRep)), .I p2, .cv (.ro .t_uint8 p3)] (.tup [.agg (d_aRep a4_0), .I a4_1]), True]) (S' := ⟨[(1, .I p1), (5, .P 200), (10, .P 201), (15, .cv (.ro .t_bool a2)), (16, .P 251), (17, .I a4_1)], [(200, .raw (d_wr55_Group p0)), (201, .raw [.N, .N, .I 0, .I 0]), (251, .raw (d_aRep a4_0))]⟩) (And.intro g1.1 (And.intro g1.2 (And.intro (wr52_Lead.ok h4) trivial))) ?_
 refine awp_seq ?_
 refine sr0 L 255 [] [] [] (S' := ⟨[(1, .I p1), (5, .P 200), (10, .P 201), (15, .cv (.ro .t_bool a2)), (16, .P 251), (17, .I a4_1), (49, .B (decide (a4_1 ≠ 0)))], [(200, .raw (d_wr55_Group p0)), (201, .raw [.N, .N, .I 0, .I 0]), (251, .raw (d_aRep a4_0))]⟩) ?_
 rcases ite_some h with ⟨c3, h⟩ | ⟨c3, h⟩
 ·refine tt (b := (decide (a4_1 ≠ 0))) (decide_eq_true c3) ?_
  refine sr0 L 258 [] [] [] (S' := ⟨[(10, .P 201), (11, .I 0), (12, .B false), (13, .I a4_1)], [(201, .raw [.N, .N, .I 0, .I 0])]⟩) ?_
  refine awp_turn (Turns.rn [(201, 100)] (S' := ⟨[(10, .P 100), (11, .I 0), (12, .B false), (13, .I a4_1)], [(100, .raw [.N, .N, .I 0, .I 0])]⟩)) ?_
  refine awp_ret ?_
  obtain rfl := Option.some.inj h
  exact er (.tup [.agg [.N, .N, .I 0, .I 0], .I 0, .B false, .I a4_1])
 refine ff (b := (decide (a4_1 ≠ 0))) (decide_eq_false c3) ?_
 refine awp_skip' ?_
 refine awp_seq ?_
 obtain ⟨⟨a5_0, a5_1⟩, h5, h⟩ := bind_some h
 dsimp only at h
 refine ar L 265 [] [] [(1, { hids := [], fx := [], r := .agg [.own .t_aRep 100, .ro .t_bool a5_0, .I p0.Leader, .I p0.Epoch], H' := [(100, .lst .t_aRep a5_1)], σ := [(100, 5528)] })] (cs := [ECall V P 44 [.agg (d_wr55_Group p0)] [] [] (.agg [.own .t_aRep 100, .ro .t_bool a5_0, .I p0.Leader, .I p0.Epoch]) [(100, .lst .t_aRep a5_1)]]) (S' := ⟨[(1, .I p1), (10, .P 201), (15, .cv (.ro .t_bool a2)), (16, .P 251), (18, .P 267)], [(201, .raw [.N, .N, .I 0, .I 0]), (251, .raw (d_aRep a4_0)), (267, .raw [.own .t_aRep 5528, .ro .t_bool a5_0, .I p0.Leader, .I p0.Epoch]), (5528, .lst .t_aRep a5_1)]⟩) (wr55_cloned_v2.okE h5) ?_
 refine awp_seq ?_
 obtain ⟨g2, h⟩ := guard_some h
 obtain ⟨g3, h⟩ := guard_some h
 refine ar L 270 [] [] [] (cs := [(0 : Int) ≤ p1, (p1 : Int) < (a5_1.length : Int), (Int.toNat p1) < a5_1.length, True]) (S' := ⟨[(1, .I p1), (10, .P 201), (15, .cv (.ro .t_bool a2)), (16, .P 251), (18, .P 267)], [(201, .raw [.N, .N, .I 0, .I 0]), (251, .raw (d_aRep a4_0)), (267, .raw [.own .t_aRep 5528, .ro .t_bool a5_0, .I p0.Leader, .I p0.Epoch]), (5528, .lst .t_aRep (a5_1.set (Int.toNat p1) a4_0))]⟩) (And.intro g1.1 (And.intro g2 (And.intro g3 trivial))) ?_
 refine awp_seq ?_
 refine awp_turn (Turns.frz 5528 (blk0 := .lst .t_aRep (a5_1.set (Int.toNat p1) a4_0)) (by kernel_rfl) (by kernel_rfl) (S' := ⟨[(1, .I p1), (10, .P 201), (15, .cv (.ro .t_bool a2)), (16, .P 251), (18, .P 267)], [(201, .raw [.N, .N, .I 0, .I 0]), (251, .raw (d_aRep a4_0)), (267, .raw [.ro .t_aRep (a5_1.set (Int.toNat p1) a4_0), .ro .t_bool a5_0, .I p0.Leader, .I p0.Epoch])]⟩) (by kernel_rfl)) ?_
 obtain ⟨a6, h6, h⟩ := bind_some h
 refine ar L 277 [] [(3, .agg (d_wr55_Group a6))] [] (cs := [PCall V P 51 [.agg [.ro .t_aRep (a5_1.set (Int.toNat p1) a4_0), .ro .t_bool a5_0, .I p0.Leader, .I p0.Epoch], .I p1, .cv (.ro .t_bool a2)] (.agg (d_wr55_Group a6)), True]) (S' := ⟨[(1, .I p1), (10, .P 201), (16, .P 251), (18, .P 267)], [(201, .raw [.N, .N, .I 0, .I 0]), (251, .raw (d_aRep a4_0)), (267, .raw (d_wr55_Group a6))]⟩) (And.intro (wr55_replicate.ok h6) trivial) ?_
 refine awp_seq ?_
 obtain ⟨g4, h⟩ := guard_some h
 refine ad L mixed 283 [] [] [] [201] 18 (cs := [(0 : Int) ≤ p1, (p1 : Int) < (a6.Replicas.length : Int)]) (S' := ⟨[(10, .P 201), (11, .I (a4_0.Log.length : Int)), (12, .B (decide ((a6.Replicas.getD (Int.toNat p1) z_aRep).Commit = (a4_0.Log.length : Int)))), (13, .I 0)], [(201, .raw (d_wr55_Group a6))]⟩) (And.intro g1.1 g4) ?_
 refine awp_turn (Turns.rn [(201, 100)] (S' := ⟨[(10, .P 100), (11, .I (a4_0.Log.length : Int)), (12, .B (decide ((a6.Replicas.getD (Int.toNat p1) z_aRep).Commit = (a4_0.Log.length : Int)))), (13, .I 0)], [(100, .raw (d_wr55_Group a6))]⟩)) ?_
 refine awp_ret ?_
 obtain rfl := Option.some.inj h
 exact er (.tup [.agg (d_wr55_Group a6), .I (a4_0.Log.length : Int), .B (decide ((a6.Replicas.getD (Int.toNat p1) z_aRep).Commit = (a4_0.Log.length : Int))), .I 0])
theorem wr55_Propose.ok {K : Nat} {p0 : wr55_Group} {p1 : Int} {p2 : Int} {p3 : List UInt8} {p4 : List Int} {r : wr55_Group × Int × Bool × Int} (h : wr55_Propose K p0 p1 p2 p3 p4 = some r) : PCall V P 20 [.agg (d_wr55_Group p0), .I p1, .I p2, .cv (.ro .t_uint8 p3), .cv (.ro .t_int p4)] (.tup [.agg [.ro .t_aRep r.1.Replicas, .ro .t_bool r.1.Up, .I r.1.Leader, .I r.1.Epoch], .I r.2.1, .B r.2.2.1, .I r.2.2.2]) := ECall.pcall (eo (fn := Tryz.f20) (n := 77) (m := 100) fun Γ => wr55_Propose.body h) (by kernel_rfl)
def group_Sync (K : Nat) (p0 : group_Group) (p1 : Int) (p2 : Int) (p3 : List Int) : Option (group_Group × Int) := (Option.bind (group_Group_leads K p0 p1 p2 p3) (fun a1 => (if a1 ≠ 0 then some ((⟨([] : List aRep), ([] : List Bool), 0, 0⟩ : group_Group), a1) else (Option.bind (group_Group_clone_v2 K p0) (fun (a2_0, a2_1) => (Option.bind (group_Group_replicate_v2 K a2_0 p0.Leader p0.Epoch p1 p3 a2_1) (fun a3 => some ((⟨a3, a2_0, p0.Leader, p0.Epoch⟩ : group_Group), 0))))))))
theorem group_Sync.body {Γ : Ent} {K : Nat} {p0 : group_Group} {p1 : Int} {p2 : Int} {p3 : List Int} {r : group_Group × Int} (h : group_Sync K p0 p1 p2 p3 = some r) : AWp V P 27 100 Γ (Tryz.f21.body.getD .skip) (EndsE P V Tryz.f21 (.tup [.agg [.ro .t_aRep r.1.Replicas, .ro .t_bool r.1.Up, .I r.1.Leader, .I r.1.Epoch], .I r.2]) []) ⟨args0 0 [.agg (d_group_Group p0), .I p1, .I p2, .cv (.ro .t_int p3)], []⟩ := by
 unfold group_Sync at h
 refine sr0 L 200 [] [] [] (S' := ⟨[(1, .I p1), (2, .I p2), (3, .cv (.ro .t_int p3)), (4, .P 200), (8, .P 201)], [(200, .raw (d_group_Group p0)), (201, .raw [.N, .N, .I 0, .I 0])]⟩) ?_
 refine awp_seq ?_
 refine awp_seq ?_
 obtain ⟨a1, h1, h⟩ := bind_some h
 refine ar L 204 [] [(4, .I a1)] [] (cs := [PCall V P 28 [.agg (d_group_Group p0), .I p1, .I p2, .cv (.ro .t_int p3)] (.I a1), True]) (S' := ⟨[(1, .I p1), (3, .cv (.ro .t_int p3)), (4, .P 200), (8, .P 201), (10, .I a1)], [(200, .raw (d_group_Group p0)), (201, .raw [.N, .N, .I 0, .I 0])]⟩) (And.intro (group_Group_leads.ok h1) trivial) ?_
 refine sr0 L 211 [] [] [] (S' := ⟨[(1, .I p1), (3, .cv (.ro .t_int p3)), (4, .P 200), (8, .P 201), (10, .I a1), (17, .B (decide (a1 ≠ 0)))], [(200, .raw (d_group_Group p0)), (201, .raw [.N, .N, .I 0, .I 0])]⟩) ?_
 rcases ite_some h with ⟨c1, h⟩ | ⟨c1, h⟩
 ·refine tt (b := (decide (a1 ≠ 0))) (decide_eq_true c1) ?_
  refine sr0 L 214 [] [] [] (S' := ⟨[(8, .P 201), (9, .I a1)], [(201, .raw [.N, .N, .I 0, .I 0])]⟩) ?_
  refine awp_turn (Turns.rn [(201, 100)] (S' := ⟨[(8, .P 100), (9, .I a1)], [(100, .raw [.N, .N, .I 0, .I 0])]⟩)) ?_
  refine awp_ret ?_
  obtain rfl := Option.some.inj h
  exact er (.tup [.agg [.N, .N, .I 0, .I 0], .I a1])
 refine ff (b := (decide (a1 ≠ 0))) (decide_eq_false c1) ?_
 refine awp_skip' ?_
 refine awp_seq ?_
 obtain ⟨⟨a2_0, a2_1⟩, h2, h⟩ := bind_some h
 dsimp only at h
 refine ar L 219 [] [] [(1, { hids := [], fx := [], r := .agg [.own .t_aRep 100, .ro .t_bool a2_0, .I p0.Leader, .I p0.Epoch], H' := [(100, .lst .t_aRep a2_1)], σ := [(100, 5160)] })] (cs := [ECall V P 30 [.agg (d_group_Group p0)] [] [] (.agg [.own .t_aRep 100, .ro .t_bool a2_0, .I p0.Leader, .I p0.Epoch]) [(100, .lst .t_aRep a2_1)]]) (S' := ⟨[(1, .I p1), (3, .cv (.ro .t_int p3)), (4, .P 200), (8, .P 201)], [(200, .raw [.own .t_aRep 5160, .ro .t_bool a2_0, .I p0.Leader, .I p0.Epoch]), (201, .raw [.N, .N, .I 0, .I 0]), (5160, .lst .t_aRep a2_1)]⟩) (group_Group_clone_v2.okE h2) ?_
 refine awp_seq ?_
 obtain ⟨a3, h3, h⟩ := bind_some h
 refine ar L 223 [] [] [(3, { hids := [0], fx := [0], r := .tup [], H' := [(0, .lst .t_aRep a3)], σ := [(0, 5160)] })] (cs := [ECall V P 31 [.agg [.own .t_aRep 0, .ro .t_bool a2_0, .I p0.Leader, .I p0.Epoch], .I p1, .cv (.ro .t_int p3)] [(0, .lst .t_aRep a2_1)] [0] (.tup []) [(0, .lst .t_aRep a3)]]) (S' := ⟨[(4, .P 200), (8, .P 201)], [(200, .raw [.own .t_aRep 5160, .ro .t_bool a2_0, .I p0.Leader, .I p0.Epoch]), (201, .raw [.N, .N, .I 0, .I 0]), (5160, .lst .t_aRep a3)]⟩) (group_Group_replicate_v2.okE h3) ?_
 refine sr0 L 228 [] [] [] (S' := ⟨[(8, .P 201), (9, .I 0)], [(201, .raw [.own .t_aRep 5160, .ro .t_bool a2_0, .I p0.Leader, .I p0.Epoch]), (5160, .lst .t_aRep a3)]⟩) ?_
 refine awp_turn (Turns.trans (Turns.frz 5160 (blk0 := .lst .t_aRep a3) (by kernel_rfl) (by kernel_rfl) (S' := ⟨[(8, .P 201), (9, .I 0)], [(201, .raw [.ro .t_aRep a3, .ro .t_bool a2_0, .I p0.Leader, .I p0.Epoch])]⟩) (by kernel_rfl)) (Turns.rn [(201, 100)] (S' := ⟨[(8, .P 100), (9, .I 0)], [(100, .raw [.ro .t_aRep a3, .ro .t_bool a2_0, .I p0.Leader, .I p0.Epoch])]⟩))) ?_
 refine awp_ret ?_
 obtain rfl := Option.some.inj h
 exact er (.tup [.agg [.ro .t_aRep a3, .ro .t_bool a2_0, .I p0.Leader, .I p0.Epoch], .I 0])
theorem group_Sync.ok {K : Nat} {p0 : group_Group} {p1 : Int} {p2 : Int} {p3 : List Int} {r : group_Group × Int} (h : group_Sync K p0 p1 p2 p3 = some r) : PCall V P 21 [.agg (d_group_Group p0), .I p1, .I p2, .cv (.ro .t_int p3)] (.tup [.agg [.ro .t_aRep r.1.Replicas, .ro .t_bool r.1.Up, .I r.1.Leader, .I r.1.Epoch], .I r.2]) := ECall.pcall (eo (fn := Tryz.f21) (n := 27) (m := 100) fun Γ => group_Sync.body h) (by kernel_rfl)
def wr55_Sync (K : Nat) (p0 : wr55_Group) (p1 : Int) (p2 : Int) (p3 : List Int) : Option (wr55_Group × Int) := (Option.bind (wr55_args K p0 p1 p3) (fun a1 => (if a1 ≠ 0 then some ((⟨([] : List aRep), ([] : List Bool), 0, 0⟩ : wr55_Group), a1) else (Option.bind (wr55_partakes K p0 p1 p3) (fun a2 => (Option.bind (wr55_fenced K p0 p1 p2 a2) (fun a3 => (if a3 = true then some ((⟨([] : List aRep), ([] : List Bool), 0, 0⟩ : wr55_Group), 25) else (Option.bind (wr55_replicate K p0 p1 a2) (fun a4 => some (a4, 0)))))))))))
theorem wr55_Sync.body {Γ : Ent} {K : Nat} {p0 : wr55_Group} {p1 : Int} {p2 : Int} {p3 : List Int} {r : wr55_Group × Int} (h : wr55_Sync K p0 p1 p2 p3 = some r) : AWp V P 34 100 Γ (Tryz.f22.body.getD .skip) (EndsE P V Tryz.f22 (.tup [.agg [.ro .t_aRep r.1.Replicas, .ro .t_bool r.1.Up, .I r.1.Leader, .I r.1.Epoch], .I r.2]) []) ⟨args0 0 [.agg (d_wr55_Group p0), .I p1, .I p2, .cv (.ro .t_int p3)], []⟩ := by
 unfold wr55_Sync at h
 refine sr0 L 200 [] [] [] (S' := ⟨[(1, .I p1), (2, .I p2), (3, .cv (.ro .t_int p3)), (4, .P 200), (8, .P 201)], [(200, .raw (d_wr55_Group p0)), (201, .raw [.N, .N, .I 0, .I 0])]⟩) ?_
 refine awp_seq ?_
 obtain ⟨a1, h1, h⟩ := bind_some h
 refine ar L 204 [] [(3, .I a1)] [] (cs := [PCall V P 42 [.agg (d_wr55_Group p0), .I p1, .cv (.ro .t_int p3)] (.I a1), True]) (S' := ⟨[(1, .I p1), (2, .I p2), (3, .cv (.ro .t_int p3)), (4, .P 200), (8, .P 201), (10, .I a1)], [(200, .raw (d_wr55_Group p0)), (201, .raw [.N, .N, .I 0, .I 0])]⟩) (And.intro (wr55_args.ok h1) trivial) ?_
 refine awp_seq ?_
 refine sr0 L 210 [] [] [] (S' := ⟨[(1, .I p1), (2, .I p2), (3, .cv (.ro .t_int p3)), (4, .P 200), (8, .P 201), (10, .I a1), (17, .B (decide (a1 ≠ 0)))], [(200, .raw (d_wr55_Group p0)), (201, .raw [.N, .N, .I 0, .I 0])]⟩) ?_
 rcases ite_some h with ⟨c1, h⟩ | ⟨c1, h⟩
 ·refine tt (b := (decide (a1 ≠ 0))) (decide_eq_true c1) ?_
  refine sr0 L 213 [] [] [] (S' := ⟨[(8, .P 201), (9, .I a1)], [(201, .raw [.N, .N, .I 0, .I 0])]⟩) ?_
  refine awp_turn (Turns.rn [(201, 100)] (S' := ⟨[(8, .P 100), (9, .I a1)], [(100, .raw [.N, .N, .I 0, .I 0])]⟩)) ?_
  refine awp_ret ?_
  obtain rfl := Option.some.inj h
  exact er (.tup [.agg [.N, .N, .I 0, .I 0], .I a1])
 refine ff (b := (decide (a1 ≠ 0))) (decide_eq_false c1) ?_
 refine awp_skip' ?_
 refine awp_seq ?_
 obtain ⟨a2, h2, h⟩ := bind_some h
 refine ar L 218 [] [(3, .cv (.ro .t_bool a2))] [] (cs := [PCall V P 45 [.agg (d_wr55_Group p0), .I p1, .cv (.ro .t_int p3)] (.cv (.ro .t_bool a2)), True]) (S' := ⟨[(1, .I p1), (2, .I p2), (4, .P 200), (8, .P 201), (11, .cv (.ro .t_bool a2))], [(200, .raw (d_wr55_Group p0)), (201, .raw [.N, .N, .I 0, .I 0])]⟩) (And.intro (wr55_partakes.ok h2) trivial) ?_
 refine awp_seq ?_
 refine awp_seq ?_
 obtain ⟨a3, h3, h⟩ := bind_some h
 refine ar L 224 [] [(4, .B a3)] [] (cs := [PCall V P 49 [.agg (d_wr55_Group p0), .I p1, .I p2, .cv (.ro .t_bool a2)] (.B a3), True]) (S' := ⟨[(1, .I p1), (4, .P 200), (8, .P 201), (11, .cv (.ro .t_bool a2)), (28, .B a3)], [(200, .raw (d_wr55_Group p0)), (201, .raw [.N, .N, .I 0, .I 0])]⟩) (And.intro (wr55_fenced.ok h3) trivial) ?_
 rcases ite_some h with ⟨c2, h⟩ | ⟨c2, h⟩
 ·refine tt (b := a3) (c2) ?_
  refine sr0 L 230 [] [] [] (S' := ⟨[(8, .P 201), (9, .I 25)], [(201, .raw [.N, .N, .I 0, .I 0])]⟩) ?_
  refine awp_turn (Turns.rn [(201, 100)] (S' := ⟨[(8, .P 100), (9, .I 25)], [(100, .raw [.N, .N, .I 0, .I 0])]⟩)) ?_
  refine awp_ret ?_
  obtain rfl := Option.some.inj h
  exact er (.tup [.agg [.N, .N, .I 0, .I 0], .I 25])
 refine ff (b := a3) (eq_false_of_ne_true c2) ?_
 refine awp_skip' ?_
 refine awp_seq ?_
 obtain ⟨a4, h4, h⟩ := bind_some h
 refine ar L 234 [] [(3, .agg (d_wr55_Group a4))] [] (cs := [PCall V P 51 [.agg (d_wr55_Group p0), .I p1, .cv (.ro .t_bool a2)] (.agg (d_wr55_Group a4)), True]) (S' := ⟨[(8, .P 201), (9, .I 0)], [(201, .raw (d_wr55_Group a4))]⟩) (And.intro (wr55_replicate.ok h4) trivial) ?_
 refine awp_turn (Turns.rn [(201, 100)] (S' := ⟨[(8, .P 100), (9, .I 0)], [(100, .raw (d_wr55_Group a4))]⟩)) ?_
 refine awp_ret ?_
 obtain rfl := Option.some.inj h
 exact er (.tup [.agg (d_wr55_Group a4), .I 0])
theorem wr55_Sync.ok {K : Nat} {p0 : wr55_Group} {p1 : Int} {p2 : Int} {p3 : List Int} {r : wr55_Group × Int} (h : wr55_Sync K p0 p1 p2 p3 = some r) : PCall V P 22 [.agg (d_wr55_Group p0), .I p1, .I p2, .cv (.ro .t_int p3)] (.tup [.agg [.ro .t_aRep r.1.Replicas, .ro .t_bool r.1.Up, .I r.1.Leader, .I r.1.Epoch], .I r.2]) := ECall.pcall (eo (fn := Tryz.f22) (n := 34) (m := 100) fun Γ => wr55_Sync.body h) (by kernel_rfl)
def group_Group_clone_v3.l9 (K : Nat) (p0 : group_Group) : Nat → Int → (List aRep) → Option (List aRep)
 | 0, _, _ => none
 | k + 1, xt16_9h, x21902 => (if xt16_9h < (p0.Replicas.length : Int) then (if (0 : Int) ≤ xt16_9h ∧ (xt16_9h : Int) < (x21902.length : Int) then (if (Int.toNat xt16_9h) < x21902.length then (Option.bind (group_copied K (x21902.getD (Int.toNat xt16_9h) z_aRep)) (fun a1 => group_Group_clone_v3.l9 K p0 k (IntKind.i64.wrap (xt16_9h + 1)) (x21902.set (Int.toNat xt16_9h) a1))) else none) else none) else some x21902)
def group_Group_clone_v3 (K : Nat) (p0 : group_Group) : Option ((List aRep) × (List Bool)) := (if p0.Replicas.length * 48 ≤ 140737488355328 then (if p0.Up.length * 1 ≤ 140737488355328 then (Option.bind (group_Group_clone_v3.l9 K p0 K 0 p0.Replicas : Option (List aRep)) (fun x21802 => some (x21802, p0.Up))) else none) else none)
theorem group_Group_clone_v3.body {Γ : Ent} {K : Nat} {p0 : group_Group} {r : (List aRep) × (List Bool)} (h : group_Group_clone_v3 K p0 = some r) : AWp V P 29 100 Γ (Tryz.f30.body.getD .skip) (EndsE P V Tryz.f30 (.agg [.ro .t_aRep r.1, .own .t_bool 100, .I p0.Leader, .I p0.Epoch]) [(100, .lst .t_bool r.2)]) ⟨args0 0 [.agg (d_group_Group p0)], []⟩ := by
 unfold group_Group_clone_v3 at h
 refine sr0 L 200 [] [] [] (S' := ⟨[(1, .P 200), (2, .P 201)], [(200, .raw (d_group_Group p0)), (201, .raw [.N, .N, .I 0, .I 0])]⟩) ?_
 refine awp_seq ?_
 obtain ⟨g1, h⟩ := guard_some h
 obtain ⟨g2, h⟩ := guard_some h
 refine ad L mixed 203 [] [(2, .cv (.ron .t_aRep p0.Replicas)), (5, .cv (.ron .t_bool p0.Up))] [] [] 7 (cs := [FCall V P 60 [.cv (.ro .t_aRep p0.Replicas)] Tag.t_aRep p0.Replicas, FCall V P 61 [.cv (.ro .t_bool p0.Up)] Tag.t_bool p0.Up]) (S' := ⟨[(1, .P 200), (2, .P 201)], [(200, .raw [.own .t_aRep 205, .own .t_bool 208, .I p0.Leader, .I p0.Epoch]), (201, .raw [.N, .N, .I 0, .I 0]), (205, .lst .t_aRep p0.Replicas), (208, .lst .t_bool p0.Up)]⟩) (And.intro (slices_Clone_60.okF (show slices_Clone_60 0 p0.Replicas = some p0.Replicas from if_pos g1)) (slices_Clone_61.okF (show slices_Clone_61 0 p0.Up = some p0.Up from if_pos g2))) ?_
 refine awp_seq ?_
 refine sr0 L 214 [] [] [] (S' := ⟨[(1, .P 200), (2, .P 201), (14, .cv (.own .t_aRep 205)), (15, .I (p0.Replicas.length : Int)), (16, .I 0)], [(200, .raw [.own .t_aRep 205, .own .t_bool 208, .I p0.Leader, .I p0.Epoch]), (201, .raw [.N, .N, .I 0, .I 0]), (205, .lst .t_aRep p0.Replicas), (208, .lst .t_bool p0.Up)]⟩) ?_
 refine awp_block ?_
 refine awp_turn (Turns.trans (Turns.kp (S' := ⟨[(1, .P 200), (2, .P 201), (14, .cv (.own .t_aRep 205)), (15, .I (p0.Replicas.length : Int)), (16, .I 0)], [(200, .raw [.own .t_aRep 205, .own .t_bool 208, .I p0.Leader, .I p0.Epoch]), (201, .raw [.N, .N, .I 0, .I 0]), (205, .lst .t_aRep p0.Replicas), (208, .lst .t_bool p0.Up)]⟩)) (Turns.rn [(200, 21900), (201, 21901), (205, 21902), (208, 21903)] (S' := ⟨[(1, .P 21900), (2, .P 21901), (14, .cv (.own .t_aRep 21902)), (15, .I (p0.Replicas.length : Int)), (16, .I 0)], [(21900, .raw [.own .t_aRep 21902, .own .t_bool 21903, .I p0.Leader, .I p0.Epoch]), (21901, .raw [.N, .N, .I 0, .I 0]), (21902, .lst .t_aRep p0.Replicas), (21903, .lst .t_bool p0.Up)]⟩))) ?_
 refine kp (S' := ⟨[(1, .P 21900), (2, .P 21901), (14, .cv (.own .t_aRep 21902)), (15, .I (p0.Replicas.length : Int)), (16, .I 0)], [(21900, .raw [.own .t_aRep 21902, .own .t_bool 21903, .I p0.Leader, .I p0.Epoch]), (21901, .raw [.N, .N, .I 0, .I 0]), (21902, .lst .t_aRep p0.Replicas), (21903, .lst .t_bool p0.Up)]⟩) ?_
 obtain ⟨o1, hp1, h⟩ := bind_some h
 refine awp_conseq (Q' := fun e S => (e = .exit 0 ∧ ∃ x21802 : List aRep, S = ⟨[(1, .P 21800), (2, .P 21801)], [(21800, .raw [.own .t_aRep 21802, .own .t_bool 21803, .I p0.Leader, .I p0.Epoch]), (21801, .raw [.N, .N, .I 0, .I 0]), (21802, .lst .t_aRep x21802), (21803, .lst .t_bool p0.Up)]⟩ ∧ x21802 = o1)) (awp_loop (fun k S => ∃ xt16_9h : Int, ∃ x21902 : List aRep, S = ⟨[(1, .P 21900), (2, .P 21901), (14, .cv (.own .t_aRep 21902)), (15, .I (p0.Replicas.length : Int)), (16, .I xt16_9h)], [(21900, .raw [.own .t_aRep 21902, .own .t_bool 21903, .I p0.Leader, .I p0.Epoch]), (21901, .raw [.N, .N, .I 0, .I 0]), (21902, .lst .t_aRep x21902), (21903, .lst .t_bool p0.Up)]⟩ ∧ group_Group_clone_v3.l9 K p0 k xt16_9h x21902 = some o1) ?_ ⟨_, _, rfl, hp1⟩) ?_
 ·clear h hp1
  intro k S hS
  obtain ⟨xt16_9h, x21902, rfl, h⟩ := hS
  cases k with
  | zero => cases h
  | succ k =>
  unfold group_Group_clone_v3.l9 at h
  refine sr0 L 219 [] [] [] (S' := ⟨[(1, .P 21900), (2, .P 21901), (14, .cv (.own .t_aRep 21902)), (15, .I (p0.Replicas.length : Int)), (16, .I xt16_9h), (17, .B (decide (xt16_9h < (p0.Replicas.length : Int))))], [(21900, .raw [.own .t_aRep 21902, .own .t_bool 21903, .I p0.Leader, .I p0.Epoch]), (21901, .raw [.N, .N, .I 0, .I 0]), (21902, .lst .t_aRep x21902), (21903, .lst .t_bool p0.Up)]⟩) ?_
  refine awp_seq ?_
  rcases ite_some h with ⟨c1, h⟩ | ⟨c1, h⟩
  ·refine tt (b := (decide (xt16_9h < (p0.Replicas.length : Int)))) (decide_eq_true c1) ?_
   refine awp_skip' ?_
   refine awp_seq ?_
   refine awp_block ?_
   refine awp_seq ?_
   obtain ⟨g3, h⟩ := guard_some h
   obtain ⟨g4, h⟩ := guard_some h
   refine ar L 221 [] [] [] (cs := [(0 : Int) ≤ xt16_9h, (xt16_9h : Int) < (x21902.length : Int), (Int.toNat xt16_9h) < x21902.length]) (S' := ⟨[(1, .P 21900), (2, .P 21901), (3, .I xt16_9h), (4, .P 224), (14, .cv (.own .t_aRep 21902)), (15, .I (p0.Replicas.length : Int)), (16, .I xt16_9h)], [(224, .raw (d_aRep (x21902.getD (Int.toNat xt16_9h) z_aRep))), (21900, .raw [.own .t_aRep 21902, .own .t_bool 21903, .I p0.Leader, .I p0.Epoch]), (21901, .raw [.N, .N, .I 0, .I 0]), (21902, .lst .t_aRep x21902), (21903, .lst .t_bool p0.Up)]⟩) (And.intro g3.1 (And.intro g3.2 g4)) ?_
   obtain ⟨a1, h1, h⟩ := bind_some h
   refine ad L mixed 228 [] [(4, .agg (d_aRep a1))] [] [] 6 (cs := [PCall V P 62 [.agg (d_aRep (x21902.getD (Int.toNat xt16_9h) z_aRep))] (.agg (d_aRep a1)), True, (0 : Int) ≤ xt16_9h, (xt16_9h : Int) < (x21902.length : Int), (Int.toNat xt16_9h) < x21902.length, True]) (S' := ⟨[(1, .P 21900), (2, .P 21901), (14, .cv (.own .t_aRep 21902)), (15, .I (p0.Replicas.length : Int)), (16, .I xt16_9h)], [(21900, .raw [.own .t_aRep 21902, .own .t_bool 21903, .I p0.Leader, .I p0.Epoch]), (21901, .raw [.N, .N, .I 0, .I 0]), (21902, .lst .t_aRep (x21902.set (Int.toNat xt16_9h) a1)), (21903, .lst .t_bool p0.Up)]⟩) (And.intro (group_copied.ok h1) (And.intro trivial (And.intro g3.1 (And.intro g3.2 (And.intro g4 trivial))))) ?_
   refine ar0 L 236 [] [] [] (S' := ⟨[(1, .P 21900), (2, .P 21901), (14, .cv (.own .t_aRep 21902)), (15, .I (p0.Replicas.length : Int)), (16, .I (IntKind.i64.wrap (xt16_9h + 1)))], [(21900, .raw [.own .t_aRep 21902, .own .t_bool 21903, .I p0.Leader, .I p0.Epoch]), (21901, .raw [.N, .N, .I 0, .I 0]), (21902, .lst .t_aRep (x21902.set (Int.toNat xt16_9h) a1)), (21903, .lst .t_bool p0.Up)]⟩) ?_
   exact ⟨k, Nat.lt_succ_self k, _, _, rfl, h⟩
  refine ff (b := (decide (xt16_9h < (p0.Replicas.length : Int)))) (decide_eq_false c1) ?_
  refine awp_turn (Turns.trans (Turns.kp (S' := ⟨[(1, .P 21900), (2, .P 21901)], [(21900, .raw [.own .t_aRep 21902, .own .t_bool 21903, .I p0.Leader, .I p0.Epoch]), (21901, .raw [.N, .N, .I 0, .I 0]), (21902, .lst .t_aRep x21902), (21903, .lst .t_bool p0.Up)]⟩)) (Turns.rn [(21900, 21800), (21901, 21801), (21902, 21802), (21903, 21803)] (S' := ⟨[(1, .P 21800), (2, .P 21801)], [(21800, .raw [.own .t_aRep 21802, .own .t_bool 21803, .I p0.Leader, .I p0.Epoch]), (21801, .raw [.N, .N, .I 0, .I 0]), (21802, .lst .t_aRep x21902), (21803, .lst .t_bool p0.Up)]⟩))) ?_
  refine ex (S' := ⟨[(1, .P 21800), (2, .P 21801)], [(21800, .raw [.own .t_aRep 21802, .own .t_bool 21803, .I p0.Leader, .I p0.Epoch]), (21801, .raw [.N, .N, .I 0, .I 0]), (21802, .lst .t_aRep x21902), (21803, .lst .t_bool p0.Up)]⟩) ?_
  obtain rfl := Option.some.inj h
  exact ⟨rfl, _, rfl, rfl⟩
 ·rintro e S ⟨rfl, x21802, rfl, rfl⟩
  refine ⟨_, Turns.refl, ?_⟩
  refine sr0 L 239 [] [] [] (S' := ⟨[(2, .P 21801)], [(21801, .raw [.own .t_aRep 21802, .own .t_bool 21803, .I p0.Leader, .I p0.Epoch]), (21802, .lst .t_aRep x21802), (21803, .lst .t_bool p0.Up)]⟩) ?_
  refine awp_turn (Turns.trans (Turns.frz 21802 (blk0 := .lst .t_aRep x21802) (by kernel_rfl) (by kernel_rfl) (S' := ⟨[(2, .P 21801)], [(21801, .raw [.ro .t_aRep x21802, .own .t_bool 21803, .I p0.Leader, .I p0.Epoch]), (21803, .lst .t_bool p0.Up)]⟩) (by kernel_rfl)) (Turns.rn [(21801, 101), (21803, 100)] (S' := ⟨[(2, .P 101)], [(101, .raw [.ro .t_aRep x21802, .own .t_bool 100, .I p0.Leader, .I p0.Epoch]), (100, .lst .t_bool p0.Up)]⟩))) ?_
  refine awp_ret ?_
  obtain rfl := Option.some.inj h
  exact er (.agg [.ro .t_aRep x21802, .own .t_bool 100, .I p0.Leader, .I p0.Epoch])
theorem group_Group_clone_v3.okE {K : Nat} {p0 : group_Group} {r : (List aRep) × (List Bool)} (h : group_Group_clone_v3 K p0 = some r) : ECall V P 30 [.agg (d_group_Group p0)] [] [] (.agg [.ro .t_aRep r.1, .own .t_bool 100, .I p0.Leader, .I p0.Epoch]) [(100, .lst .t_bool r.2)] :=
 eo (fn := Tryz.f30) (n := 29) (m := 100) fun Γ => group_Group_clone_v3.body h
def group_power (K : Nat) (p0 : group_Group) (p1 : Int) (p2 : Bool) : Option (group_Group × Int) := (Option.bind (group_Group_formed K p0) (fun a1 => (if a1 = true then (Option.bind (group_Group_member K p0 p1) (fun a2 => (if a2 = true then (if (0 : Int) ≤ p1 ∧ (p1 : Int) < (p0.Up.length : Int) then (if ((p0.Up.getD (Int.toNat p1) false) == p2) = true then some ((⟨([] : List aRep), ([] : List Bool), 0, 0⟩ : group_Group), 16) else (Option.bind (group_Group_clone_v3 K p0) (fun (a3_0, a3_1) => (if (p1 : Int) < (a3_1.length : Int) then (if (Int.toNat p1) < a3_1.length then (if p2 = true then some ((⟨a3_0, (a3_1.set (Int.toNat p1) p2), p0.Leader, p0.Epoch⟩ : group_Group), 0) else (if p0.Leader = p1 then some ((⟨a3_0, (a3_1.set (Int.toNat p1) p2), (-1), p0.Epoch⟩ : group_Group), 0) else some ((⟨a3_0, (a3_1.set (Int.toNat p1) p2), p0.Leader, p0.Epoch⟩ : group_Group), 0))) else none) else none)))) else none) else some ((⟨([] : List aRep), ([] : List Bool), 0, 0⟩ : group_Group), 2)))) else some ((⟨([] : List aRep), ([] : List Bool), 0, 0⟩ : group_Group), 2))))
theorem group_power.body {Γ : Ent} {K : Nat} {p0 : group_Group} {p1 : Int} {p2 : Bool} {r : group_Group × Int} (h : group_power K p0 p1 p2 = some r) : AWp V P 43 100 Γ (Tryz.f52.body.getD .skip) (EndsE P V Tryz.f52 (.tup [.agg [.ro .t_aRep r.1.Replicas, .ro .t_bool r.1.Up, .I r.1.Leader, .I r.1.Epoch], .I r.2]) []) ⟨args0 0 [.agg (d_group_Group p0), .I p1, .B p2], []⟩ := by
 unfold group_power at h
 refine sr0 L 200 [] [] [] (S' := ⟨[(1, .I p1), (2, .B p2), (3, .P 200), (6, .P 201)], [(200, .raw (d_group_Group p0)), (201, .raw [.N, .N, .I 0, .I 0])]⟩) ?_
 refine awp_seq ?_
 refine awp_seq ?_
 obtain ⟨a1, h1, h⟩ := bind_some h
 rcases ite_some h with ⟨c1, h⟩ | ⟨c1, h⟩
 ·obtain ⟨a2, h2, h⟩ := bind_some h
  refine ar L 204 [(3, false)] [(1, .B a1), (6, .B a2)] [] (cs := [PCall V P 67 [.agg (d_group_Group p0)] (.B a1), True, (!a1) = false, PCall V P 68 [.agg (d_group_Group p0), .I p1] (.B a2), True]) (S' := ⟨[(1, .I p1), (2, .B p2), (3, .P 200), (6, .P 201), (16, .B (!a2))], [(200, .raw (d_group_Group p0)), (201, .raw [.N, .N, .I 0, .I 0])]⟩) (And.intro (group_Group_formed.ok h1) (And.intro trivial (And.intro (congrArg Bool.not (c1)) (And.intro (group_Group_member.ok h2) trivial)))) ?_
  rcases ite_some h with ⟨c2, h⟩ | ⟨c2, h⟩
  ·refine ff (b := (!a2)) (congrArg Bool.not (c2)) ?_
   refine awp_skip' ?_
   refine awp_seq ?_
   refine awp_seq ?_
   obtain ⟨g1, h⟩ := guard_some h
   refine ar L 218 [] [] [] (cs := [(0 : Int) ≤ p1, (p1 : Int) < (p0.Up.length : Int)]) (S' := ⟨[(1, .I p1), (2, .B p2), (3, .P 200), (6, .P 201), (24, .B ((p0.Up.getD (Int.toNat p1) false) == p2))], [(200, .raw (d_group_Group p0)), (201, .raw [.N, .N, .I 0, .I 0])]⟩) (And.intro g1.1 g1.2) ?_
   rcases ite_some h with ⟨c3, h⟩ | ⟨c3, h⟩
   ·refine tt (b := ((p0.Up.getD (Int.toNat p1) false) == p2)) (c3) ?_
    refine sr0 L 226 [] [] [] (S' := ⟨[(6, .P 201), (7, .I 16)], [(201, .raw [.N, .N, .I 0, .I 0])]⟩) ?_
    refine awp_turn (Turns.rn [(201, 100)] (S' := ⟨[(6, .P 100), (7, .I 16)], [(100, .raw [.N, .N, .I 0, .I 0])]⟩)) ?_
    refine awp_ret ?_
    obtain rfl := Option.some.inj h
    exact er (.tup [.agg [.N, .N, .I 0, .I 0], .I 16])
   refine ff (b := ((p0.Up.getD (Int.toNat p1) false) == p2)) (eq_false_of_ne_true c3) ?_
   refine awp_skip' ?_
   refine awp_seq ?_
   obtain ⟨⟨a3_0, a3_1⟩, h3, h⟩ := bind_some h
   dsimp only at h
   refine ar L 230 [] [] [(1, { hids := [], fx := [], r := .agg [.ro .t_aRep a3_0, .own .t_bool 100, .I p0.Leader, .I p0.Epoch], H' := [(100, .lst .t_bool a3_1)], σ := [(100, 5248)] })] (cs := [ECall V P 30 [.agg (d_group_Group p0)] [] [] (.agg [.ro .t_aRep a3_0, .own .t_bool 100, .I p0.Leader, .I p0.Epoch]) [(100, .lst .t_bool a3_1)]]) (S' := ⟨[(1, .I p1), (2, .B p2), (3, .P 200), (6, .P 201)], [(200, .raw [.ro .t_aRep a3_0, .own .t_bool 5248, .I p0.Leader, .I p0.Epoch]), (201, .raw [.N, .N, .I 0, .I 0]), (5248, .lst .t_bool a3_1)]⟩) (group_Group_clone_v3.okE h3) ?_
   refine awp_seq ?_
   obtain ⟨g2, h⟩ := guard_some h
   obtain ⟨g3, h⟩ := guard_some h
   refine ar L 234 [] [] [] (cs := [(0 : Int) ≤ p1, (p1 : Int) < (a3_1.length : Int), (Int.toNat p1) < a3_1.length, True]) (S' := ⟨[(1, .I p1), (2, .B p2), (3, .P 200), (6, .P 201)], [(200, .raw [.ro .t_aRep a3_0, .own .t_bool 5248, .I p0.Leader, .I p0.Epoch]), (201, .raw [.N, .N, .I 0, .I 0]), (5248, .lst .t_bool (a3_1.set (Int.toNat p1) p2))]⟩) (And.intro g1.1 (And.intro g2 (And.intro g3 trivial))) ?_
   refine awp_seq ?_
   refine awp_seq ?_
   rcases ite_some h with ⟨c4, h⟩ | ⟨c4, h⟩
   ·refine ar L 241 [(2, false)] [] [] (cs := [(!p2) = false]) (S' := ⟨[(3, .P 200), (6, .P 201), (40, .B false)], [(200, .raw [.ro .t_aRep a3_0, .own .t_bool 5248, .I p0.Leader, .I p0.Epoch]), (201, .raw [.N, .N, .I 0, .I 0]), (5248, .lst .t_bool (a3_1.set (Int.toNat p1) p2))]⟩) (congrArg Bool.not (c4)) ?_
    refine ff (b := false) (rfl) ?_
    refine awp_skip' ?_
    refine sr0 L 253 [] [] [] (S' := ⟨[(6, .P 201), (7, .I 0)], [(201, .raw [.ro .t_aRep a3_0, .own .t_bool 5248, .I p0.Leader, .I p0.Epoch]), (5248, .lst .t_bool (a3_1.set (Int.toNat p1) p2))]⟩) ?_
    refine awp_turn (Turns.trans (Turns.frz 5248 (blk0 := .lst .t_bool (a3_1.set (Int.toNat p1) p2)) (by kernel_rfl) (by kernel_rfl) (S' := ⟨[(6, .P 201), (7, .I 0)], [(201, .raw [.ro .t_aRep a3_0, .ro .t_bool (a3_1.set (Int.toNat p1) p2), .I p0.Leader, .I p0.Epoch])]⟩) (by kernel_rfl)) (Turns.rn [(201, 100)] (S' := ⟨[(6, .P 100), (7, .I 0)], [(100, .raw [.ro .t_aRep a3_0, .ro .t_bool (a3_1.set (Int.toNat p1) p2), .I p0.Leader, .I p0.Epoch])]⟩))) ?_
    refine awp_ret ?_
    obtain rfl := Option.some.inj h
    exact er (.tup [.agg [.ro .t_aRep a3_0, .ro .t_bool (a3_1.set (Int.toNat p1) p2), .I p0.Leader, .I p0.Epoch], .I 0])
   refine ar L 241 [(2, true)] [] [] (cs := [(!p2) = true]) (S' := ⟨[(3, .P 200), (6, .P 201), (40, .B (decide (p0.Leader = p1)))], [(200, .raw [.ro .t_aRep a3_0, .own .t_bool 5248, .I p0.Leader, .I p0.Epoch]), (201, .raw [.N, .N, .I 0, .I 0]), (5248, .lst .t_bool (a3_1.set (Int.toNat p1) p2))]⟩) (congrArg Bool.not (eq_false_of_ne_true c4)) ?_
   rcases ite_some h with ⟨c5, h⟩ | ⟨c5, h⟩
   ·refine tt (b := (decide (p0.Leader = p1))) (decide_eq_true c5) ?_
    refine ar0 L 250 [] [] [] (S' := ⟨[(3, .P 200), (6, .P 201)], [(200, .raw [.ro .t_aRep a3_0, .own .t_bool 5248, .I (-1), .I p0.Epoch]), (201, .raw [.N, .N, .I 0, .I 0]), (5248, .lst .t_bool (a3_1.set (Int.toNat p1) p2))]⟩) ?_
    refine sr0 L 253 [] [] [] (S' := ⟨[(6, .P 201), (7, .I 0)], [(201, .raw [.ro .t_aRep a3_0, .own .t_bool 5248, .I (-1), .I p0.Epoch]), (5248, .lst .t_bool (a3_1.set (Int.toNat p1) p2))]⟩) ?_
    refine awp_turn (Turns.trans (Turns.frz 5248 (blk0 := .lst .t_bool (a3_1.set (Int.toNat p1) p2)) (by kernel_rfl) (by kernel_rfl) (S' := ⟨[(6, .P 201), (7, .I 0)], [(201, .raw [.ro .t_aRep a3_0, .ro .t_bool (a3_1.set (Int.toNat p1) p2), .I (-1), .I p0.Epoch])]⟩) (by kernel_rfl)) (Turns.rn [(201, 100)] (S' := ⟨[(6, .P 100), (7, .I 0)], [(100, .raw [.ro .t_aRep a3_0, .ro .t_bool (a3_1.set (Int.toNat p1) p2), .I (-1), .I p0.Epoch])]⟩))) ?_
    refine awp_ret ?_
    obtain rfl := Option.some.inj h
    exact er (.tup [.agg [.ro .t_aRep a3_0, .ro .t_bool (a3_1.set (Int.toNat p1) p2), .I (-1), .I p0.Epoch], .I 0])
   refine ff (b := (decide (p0.Leader = p1))) (decide_eq_false c5) ?_
   refine awp_skip' ?_
   refine sr0 L 253 [] [] [] (S' := ⟨[(6, .P 201), (7, .I 0)], [(201, .raw [.ro .t_aRep a3_0, .own .t_bool 5248, .I p0.Leader, .I p0.Epoch]), (5248, .lst .t_bool (a3_1.set (Int.toNat p1) p2))]⟩) ?_
   refine awp_turn (Turns.trans (Turns.frz 5248 (blk0 := .lst .t_bool (a3_1.set (Int.toNat p1) p2)) (by kernel_rfl) (by kernel_rfl) (S' := ⟨[(6, .P 201), (7, .I 0)], [(201, .raw [.ro .t_aRep a3_0, .ro .t_bool (a3_1.set (Int.toNat p1) p2), .I p0.Leader, .I p0.Epoch])]⟩) (by kernel_rfl)) (Turns.rn [(201, 100)] (S' := ⟨[(6, .P 100), (7, .I 0)], [(100, .raw [.ro .t_aRep a3_0, .ro .t_bool (a3_1.set (Int.toNat p1) p2), .I p0.Leader, .I p0.Epoch])]⟩))) ?_
   refine awp_ret ?_
   obtain rfl := Option.some.inj h
   exact er (.tup [.agg [.ro .t_aRep a3_0, .ro .t_bool (a3_1.set (Int.toNat p1) p2), .I p0.Leader, .I p0.Epoch], .I 0])
  refine tt (b := (!a2)) (congrArg Bool.not (eq_false_of_ne_true c2)) ?_
  refine sr0 L 214 [] [] [] (S' := ⟨[(6, .P 201), (7, .I 2)], [(201, .raw [.N, .N, .I 0, .I 0])]⟩) ?_
  refine awp_turn (Turns.rn [(201, 100)] (S' := ⟨[(6, .P 100), (7, .I 2)], [(100, .raw [.N, .N, .I 0, .I 0])]⟩)) ?_
  refine awp_ret ?_
  obtain rfl := Option.some.inj h
  exact er (.tup [.agg [.N, .N, .I 0, .I 0], .I 2])
 refine ar L 204 [(3, true)] [(1, .B a1)] [] (cs := [PCall V P 67 [.agg (d_group_Group p0)] (.B a1), True, (!a1) = true]) (S' := ⟨[(1, .I p1), (2, .B p2), (3, .P 200), (6, .P 201), (16, .B true)], [(200, .raw (d_group_Group p0)), (201, .raw [.N, .N, .I 0, .I 0])]⟩) (And.intro (group_Group_formed.ok h1) (And.intro trivial (congrArg Bool.not (eq_false_of_ne_true c1)))) ?_
 refine tt (b := true) (rfl) ?_
 refine sr0 L 214 [] [] [] (S' := ⟨[(6, .P 201), (7, .I 2)], [(201, .raw [.N, .N, .I 0, .I 0])]⟩) ?_
 refine awp_turn (Turns.rn [(201, 100)] (S' := ⟨[(6, .P 100), (7, .I 2)], [(100, .raw [.N, .N, .I 0, .I 0])]⟩)) ?_
 refine awp_ret ?_
 obtain rfl := Option.some.inj h
 exact er (.tup [.agg [.N, .N, .I 0, .I 0], .I 2])
theorem group_power.ok {K : Nat} {p0 : group_Group} {p1 : Int} {p2 : Bool} {r : group_Group × Int} (h : group_power K p0 p1 p2 = some r) : PCall V P 52 [.agg (d_group_Group p0), .I p1, .B p2] (.tup [.agg [.ro .t_aRep r.1.Replicas, .ro .t_bool r.1.Up, .I r.1.Leader, .I r.1.Epoch], .I r.2]) := ECall.pcall (eo (fn := Tryz.f52) (n := 43) (m := 100) fun Γ => group_power.body h) (by kernel_rfl)
def group_Stop (K : Nat) (p0 : group_Group) (p1 : Int) : Option (group_Group × Int) := (Option.bind (group_power K p0 p1 false) (fun (a1_0, a1_1) => some (a1_0, a1_1)))
theorem group_Stop.body {Γ : Ent} {K : Nat} {p0 : group_Group} {p1 : Int} {r : group_Group × Int} (h : group_Stop K p0 p1 = some r) : AWp V P 11 100 Γ (Tryz.f23.body.getD .skip) (EndsE P V Tryz.f23 (.tup [.agg [.ro .t_aRep r.1.Replicas, .ro .t_bool r.1.Up, .I r.1.Leader, .I r.1.Epoch], .I r.2]) []) ⟨args0 0 [.agg (d_group_Group p0), .I p1], []⟩ := by
 unfold group_Stop at h
 refine sr0 L 200 [] [] [] (S' := ⟨[(1, .I p1), (2, .P 200), (4, .P 201)], [(200, .raw (d_group_Group p0)), (201, .raw [.N, .N, .I 0, .I 0])]⟩) ?_
 refine awp_seq ?_
 obtain ⟨⟨a1_0, a1_1⟩, h1, h⟩ := bind_some h
 dsimp only at h
 refine ar L 204 [] [(2, .tup [.agg (d_group_Group a1_0), .I a1_1])] [] (cs := [PCall V P 52 [.agg (d_group_Group p0), .I p1, .B false] (.tup [.agg (d_group_Group a1_0), .I a1_1]), True]) (S' := ⟨[(4, .P 201), (5, .I a1_1)], [(201, .raw (d_group_Group a1_0))]⟩) (And.intro (group_power.ok h1) trivial) ?_
 refine awp_turn (Turns.rn [(201, 100)] (S' := ⟨[(4, .P 100), (5, .I a1_1)], [(100, .raw (d_group_Group a1_0))]⟩)) ?_
 refine awp_ret ?_
 obtain rfl := Option.some.inj h
 exact er (.tup [.agg (d_group_Group a1_0), .I a1_1])
theorem group_Stop.ok {K : Nat} {p0 : group_Group} {p1 : Int} {r : group_Group × Int} (h : group_Stop K p0 p1 = some r) : PCall V P 23 [.agg (d_group_Group p0), .I p1] (.tup [.agg [.ro .t_aRep r.1.Replicas, .ro .t_bool r.1.Up, .I r.1.Leader, .I r.1.Epoch], .I r.2]) := ECall.pcall (eo (fn := Tryz.f23) (n := 11) (m := 100) fun Γ => group_Stop.body h) (by kernel_rfl)
def wr55_cloned_v3 (K : Nat) (p0 : wr55_Group) : Option ((List aRep) × (List Bool)) := (if p0.Replicas.length * 48 ≤ 140737488355328 then (if p0.Up.length * 1 ≤ 140737488355328 then some (p0.Replicas, p0.Up) else none) else none)
theorem wr55_cloned_v3.body {Γ : Ent} {K : Nat} {p0 : wr55_Group} {r : (List aRep) × (List Bool)} (h : wr55_cloned_v3 K p0 = some r) : AWp V P 22 100 Γ (Tryz.f44.body.getD .skip) (EndsE P V Tryz.f44 (.agg [.ro .t_aRep r.1, .own .t_bool 100, .I p0.Leader, .I p0.Epoch]) [(100, .lst .t_bool r.2)]) ⟨args0 0 [.agg (d_wr55_Group p0)], []⟩ := by
 unfold wr55_cloned_v3 at h
 refine sr0 L 200 [] [] [] (S' := ⟨[(1, .P 200), (2, .P 201)], [(200, .raw (d_wr55_Group p0)), (201, .raw [.N, .N, .I 0, .I 0])]⟩) ?_
 refine sr0 L 203 [] [] [] (S' := ⟨[(1, .P 200), (2, .P 201), (3, .P 208)], [(200, .raw (d_wr55_Group p0)), (201, .raw [.N, .N, .I 0, .I 0]), (208, .raw [.N, .N, .I p0.Leader, .I p0.Epoch])]⟩) ?_
 refine awp_seq ?_
 obtain ⟨g1, h⟩ := guard_some h
 refine ar L 211 [] [] [] (cs := [p0.Replicas.length * 48 ≤ 140737488355328, True]) (S' := ⟨[(1, .P 200), (2, .P 201), (3, .P 208)], [(200, .raw (d_wr55_Group p0)), (201, .raw [.N, .N, .I 0, .I 0]), (208, .raw [.own .t_aRep 215, .N, .I p0.Leader, .I p0.Epoch]), (215, .lst .t_aRep p0.Replicas)]⟩) (And.intro g1 trivial) ?_
 refine awp_seq ?_
 obtain ⟨g2, h⟩ := guard_some h
 refine ar L 219 [] [] [] (cs := [p0.Up.length * 1 ≤ 140737488355328, True]) (S' := ⟨[(2, .P 201), (3, .P 208)], [(201, .raw [.N, .N, .I 0, .I 0]), (208, .raw [.own .t_aRep 215, .own .t_bool 223, .I p0.Leader, .I p0.Epoch]), (215, .lst .t_aRep p0.Replicas), (223, .lst .t_bool p0.Up)]⟩) (And.intro g2 trivial) ?_
 refine sr0 L 227 [] [] [] (S' := ⟨[(2, .P 201)], [(201, .raw [.own .t_aRep 215, .own .t_bool 223, .I p0.Leader, .I p0.Epoch]), (215, .lst .t_aRep p0.Replicas), (223, .lst .t_bool p0.Up)]⟩) ?_
 refine awp_turn (Turns.trans (Turns.frz 215 (blk0 := .lst .t_aRep p0.Replicas) (by kernel_rfl) (by kernel_rfl) (S' := ⟨[(2, .P 201)], [(201, .raw [.ro .t_aRep p0.Replicas, .own .t_bool 223, .I p0.Leader, .I p0.Epoch]), (223, .lst .t_bool p0.Up)]⟩) (by kernel_rfl)) (Turns.rn [(201, 101), (223, 100)] (S' := ⟨[(2, .P 101)], [(101, .raw [.ro .t_aRep p0.Replicas, .own .t_bool 100, .I p0.Leader, .I p0.Epoch]), (100, .lst .t_bool p0.Up)]⟩))) ?_
 refine awp_ret ?_
 obtain rfl := Option.some.inj h
 exact er (.agg [.ro .t_aRep p0.Replicas, .own .t_bool 100, .I p0.Leader, .I p0.Epoch])
theorem wr55_cloned_v3.okE {K : Nat} {p0 : wr55_Group} {r : (List aRep) × (List Bool)} (h : wr55_cloned_v3 K p0 = some r) : ECall V P 44 [.agg (d_wr55_Group p0)] [] [] (.agg [.ro .t_aRep r.1, .own .t_bool 100, .I p0.Leader, .I p0.Epoch]) [(100, .lst .t_bool r.2)] :=
 eo (fn := Tryz.f44) (n := 22) (m := 100) fun Γ => wr55_cloned_v3.body h
def wr55_turned (K : Nat) (p0 : wr55_Group) (p1 : Int) (p2 : Bool) : Option (wr55_Group × Int) := (Option.bind (wr55_Right K p0) (fun a1 => (if a1 = true then (Option.bind (wr55_member K p0 p1) (fun a2 => (if a2 = true then (if (0 : Int) ≤ p1 ∧ (p1 : Int) < (p0.Up.length : Int) then (if ((p0.Up.getD (Int.toNat p1) false) == p2) = true then some ((⟨([] : List aRep), ([] : List Bool), 0, 0⟩ : wr55_Group), 16) else (Option.bind (wr55_cloned_v3 K p0) (fun (a3_0, a3_1) => (if (p1 : Int) < (a3_1.length : Int) then (if (Int.toNat p1) < a3_1.length then (if p2 = true then some ((⟨a3_0, (a3_1.set (Int.toNat p1) p2), p0.Leader, p0.Epoch⟩ : wr55_Group), 0) else (if p0.Leader = p1 then some ((⟨a3_0, (a3_1.set (Int.toNat p1) p2), (-1), p0.Epoch⟩ : wr55_Group), 0) else some ((⟨a3_0, (a3_1.set (Int.toNat p1) p2), p0.Leader, p0.Epoch⟩ : wr55_Group), 0))) else none) else none)))) else none) else some ((⟨([] : List aRep), ([] : List Bool), 0, 0⟩ : wr55_Group), 2)))) else some ((⟨([] : List aRep), ([] : List Bool), 0, 0⟩ : wr55_Group), 2))))
theorem wr55_turned.body {Γ : Ent} {K : Nat} {p0 : wr55_Group} {p1 : Int} {p2 : Bool} {r : wr55_Group × Int} (h : wr55_turned K p0 p1 p2 = some r) : AWp V P 44 100 Γ (Tryz.f53.body.getD .skip) (EndsE P V Tryz.f53 (.tup [.agg [.ro .t_aRep r.1.Replicas, .ro .t_bool r.1.Up, .I r.1.Leader, .I r.1.Epoch], .I r.2]) []) ⟨args0 0 [.agg (d_wr55_Group p0), .I p1, .B p2], []⟩ := by
 unfold wr55_turned at h
 refine sr0 L 200 [] [] [] (S' := ⟨[(1, .I p1), (2, .B p2), (3, .P 200), (6, .P 201)], [(200, .raw (d_wr55_Group p0)), (201, .raw [.N, .N, .I 0, .I 0])]⟩) ?_
 refine awp_seq ?_
 refine awp_seq ?_
 obtain ⟨a1, h1, h⟩ := bind_some h
 rcases ite_some h with ⟨c1, h⟩ | ⟨c1, h⟩
 ·obtain ⟨a2, h2, h⟩ := bind_some h
  refine ar L 204 [(3, false)] [(1, .B a1), (6, .B a2)] [] (cs := [PCall V P 14 [.agg (d_wr55_Group p0)] (.B a1), True, (!a1) = false, PCall V P 76 [.agg (d_wr55_Group p0), .I p1] (.B a2), True]) (S' := ⟨[(1, .I p1), (2, .B p2), (3, .P 200), (6, .P 201), (17, .B (!a2))], [(200, .raw (d_wr55_Group p0)), (201, .raw [.N, .N, .I 0, .I 0])]⟩) (And.intro (wr55_Right.ok h1) (And.intro trivial (And.intro (congrArg Bool.not (c1)) (And.intro (wr55_member.ok h2) trivial)))) ?_
  rcases ite_some h with ⟨c2, h⟩ | ⟨c2, h⟩
  ·refine ff (b := (!a2)) (congrArg Bool.not (c2)) ?_
   refine awp_skip' ?_
   refine awp_seq ?_
   refine awp_seq ?_
   obtain ⟨g1, h⟩ := guard_some h
   refine ar L 218 [] [] [] (cs := [(0 : Int) ≤ p1, (p1 : Int) < (p0.Up.length : Int)]) (S' := ⟨[(1, .I p1), (2, .B p2), (3, .P 200), (6, .P 201), (25, .B ((p0.Up.getD (Int.toNat p1) false) == p2))], [(200, .raw (d_wr55_Group p0)), (201, .raw [.N, .N, .I 0, .I 0])]⟩) (And.intro g1.1 g1.2) ?_
   rcases ite_some h with ⟨c3, h⟩ | ⟨c3, h⟩
   ·refine tt (b := ((p0.Up.getD (Int.toNat p1) false) == p2)) (c3) ?_
    refine sr0 L 226 [] [] [] (S' := ⟨[(6, .P 201), (7, .I 16)], [(201, .raw [.N, .N, .I 0, .I 0])]⟩) ?_
    refine awp_turn (Turns.rn [(201, 100)] (S' := ⟨[(6, .P 100), (7, .I 16)], [(100, .raw [.N, .N, .I 0, .I 0])]⟩)) ?_
    refine awp_ret ?_
    obtain rfl := Option.some.inj h
    exact er (.tup [.agg [.N, .N, .I 0, .I 0], .I 16])
   refine ff (b := ((p0.Up.getD (Int.toNat p1) false) == p2)) (eq_false_of_ne_true c3) ?_
   refine awp_skip' ?_
   refine awp_seq ?_
   obtain ⟨⟨a3_0, a3_1⟩, h3, h⟩ := bind_some h
   dsimp only at h
   refine ar L 230 [] [] [(1, { hids := [], fx := [], r := .agg [.ro .t_aRep a3_0, .own .t_bool 100, .I p0.Leader, .I p0.Epoch], H' := [(100, .lst .t_bool a3_1)], σ := [(100, 5248)] })] (cs := [ECall V P 44 [.agg (d_wr55_Group p0)] [] [] (.agg [.ro .t_aRep a3_0, .own .t_bool 100, .I p0.Leader, .I p0.Epoch]) [(100, .lst .t_bool a3_1)]]) (S' := ⟨[(1, .I p1), (2, .B p2), (6, .P 201), (8, .P 232)], [(201, .raw [.N, .N, .I 0, .I 0]), (232, .raw [.ro .t_aRep a3_0, .own .t_bool 5248, .I p0.Leader, .I p0.Epoch]), (5248, .lst .t_bool a3_1)]⟩) (wr55_cloned_v3.okE h3) ?_
   refine awp_seq ?_
   obtain ⟨g2, h⟩ := guard_some h
   obtain ⟨g3, h⟩ := guard_some h
   refine ar L 235 [] [] [] (cs := [(0 : Int) ≤ p1, (p1 : Int) < (a3_1.length : Int), (Int.toNat p1) < a3_1.length, True]) (S' := ⟨[(1, .I p1), (2, .B p2), (6, .P 201), (8, .P 232)], [(201, .raw [.N, .N, .I 0, .I 0]), (232, .raw [.ro .t_aRep a3_0, .own .t_bool 5248, .I p0.Leader, .I p0.Epoch]), (5248, .lst .t_bool (a3_1.set (Int.toNat p1) p2))]⟩) (And.intro g1.1 (And.intro g2 (And.intro g3 trivial))) ?_
   refine awp_seq ?_
   refine awp_seq ?_
   rcases ite_some h with ⟨c4, h⟩ | ⟨c4, h⟩
   ·refine ar L 242 [(2, false)] [] [] (cs := [(!p2) = false]) (S' := ⟨[(6, .P 201), (8, .P 232), (41, .B false)], [(201, .raw [.N, .N, .I 0, .I 0]), (232, .raw [.ro .t_aRep a3_0, .own .t_bool 5248, .I p0.Leader, .I p0.Epoch]), (5248, .lst .t_bool (a3_1.set (Int.toNat p1) p2))]⟩) (congrArg Bool.not (c4)) ?_
    refine ff (b := false) (rfl) ?_
    refine awp_skip' ?_
    refine sr0 L 254 [] [] [] (S' := ⟨[(6, .P 201), (7, .I 0)], [(201, .raw [.ro .t_aRep a3_0, .own .t_bool 5248, .I p0.Leader, .I p0.Epoch]), (5248, .lst .t_bool (a3_1.set (Int.toNat p1) p2))]⟩) ?_
    refine awp_turn (Turns.trans (Turns.frz 5248 (blk0 := .lst .t_bool (a3_1.set (Int.toNat p1) p2)) (by kernel_rfl) (by kernel_rfl) (S' := ⟨[(6, .P 201), (7, .I 0)], [(201, .raw [.ro .t_aRep a3_0, .ro .t_bool (a3_1.set (Int.toNat p1) p2), .I p0.Leader, .I p0.Epoch])]⟩) (by kernel_rfl)) (Turns.rn [(201, 100)] (S' := ⟨[(6, .P 100), (7, .I 0)], [(100, .raw [.ro .t_aRep a3_0, .ro .t_bool (a3_1.set (Int.toNat p1) p2), .I p0.Leader, .I p0.Epoch])]⟩))) ?_
    refine awp_ret ?_
    obtain rfl := Option.some.inj h
    exact er (.tup [.agg [.ro .t_aRep a3_0, .ro .t_bool (a3_1.set (Int.toNat p1) p2), .I p0.Leader, .I p0.Epoch], .I 0])
   refine ar L 242 [(2, true)] [] [] (cs := [(!p2) = true]) (S' := ⟨[(6, .P 201), (8, .P 232), (41, .B (decide (p0.Leader = p1)))], [(201, .raw [.N, .N, .I 0, .I 0]), (232, .raw [.ro .t_aRep a3_0, .own .t_bool 5248, .I p0.Leader, .I p0.Epoch]), (5248, .lst .t_bool (a3_1.set (Int.toNat p1) p2))]⟩) (congrArg Bool.not (eq_false_of_ne_true c4)) ?_
   rcases ite_some h with ⟨c5, h⟩ | ⟨c5, h⟩
   ·refine tt (b := (decide (p0.Leader = p1))) (decide_eq_true c5) ?_
    refine ar0 L 251 [] [] [] (S' := ⟨[(6, .P 201), (8, .P 232)], [(201, .raw [.N, .N, .I 0, .I 0]), (232, .raw [.ro .t_aRep a3_0, .own .t_bool 5248, .I (-1), .I p0.Epoch]), (5248, .lst .t_bool (a3_1.set (Int.toNat p1) p2))]⟩) ?_
    refine sr0 L 254 [] [] [] (S' := ⟨[(6, .P 201), (7, .I 0)], [(201, .raw [.ro .t_aRep a3_0, .own .t_bool 5248, .I (-1), .I p0.Epoch]), (5248, .lst .t_bool (a3_1.set (Int.toNat p1) p2))]⟩) ?_
    refine awp_turn (Turns.trans (Turns.frz 5248 (blk0 := .lst .t_bool (a3_1.set (Int.toNat p1) p2)) (by kernel_rfl) (by kernel_rfl) (S' := ⟨[(6, .P 201), (7, .I 0)], [(201, .raw [.ro .t_aRep a3_0, .ro .t_bool (a3_1.set (Int.toNat p1) p2), .I (-1), .I p0.Epoch])]⟩) (by kernel_rfl)) (Turns.rn [(201, 100)] (S' := ⟨[(6, .P 100), (7, .I 0)], [(100, .raw [.ro .t_aRep a3_0, .ro .t_bool (a3_1.set (Int.toNat p1) p2), .I (-1), .I p0.Epoch])]⟩))) ?_
    refine awp_ret ?_
    obtain rfl := Option.some.inj h
    exact er (.tup [.agg [.ro .t_aRep a3_0, .ro .t_bool (a3_1.set (Int.toNat p1) p2), .I (-1), .I p0.Epoch], .I 0])
   refine ff (b := (decide (p0.Leader = p1))) (decide_eq_false c5) ?_
   refine awp_skip' ?_
   refine sr0 L 254 [] [] [] (S' := ⟨[(6, .P 201), (7, .I 0)], [(201, .raw [.ro .t_aRep a3_0, .own .t_bool 5248, .I p0.Leader, .I p0.Epoch]), (5248, .lst .t_bool (a3_1.set (Int.toNat p1) p2))]⟩) ?_
   refine awp_turn (Turns.trans (Turns.frz 5248 (blk0 := .lst .t_bool (a3_1.set (Int.toNat p1) p2)) (by kernel_rfl) (by kernel_rfl) (S' := ⟨[(6, .P 201), (7, .I 0)], [(201, .raw [.ro .t_aRep a3_0, .ro .t_bool (a3_1.set (Int.toNat p1) p2), .I p0.Leader, .I p0.Epoch])]⟩) (by kernel_rfl)) (Turns.rn [(201, 100)] (S' := ⟨[(6, .P 100), (7, .I 0)], [(100, .raw [.ro .t_aRep a3_0, .ro .t_bool (a3_1.set (Int.toNat p1) p2), .I p0.Leader, .I p0.Epoch])]⟩))) ?_
   refine awp_ret ?_
   obtain rfl := Option.some.inj h
   exact er (.tup [.agg [.ro .t_aRep a3_0, .ro .t_bool (a3_1.set (Int.toNat p1) p2), .I p0.Leader, .I p0.Epoch], .I 0])
  refine tt (b := (!a2)) (congrArg Bool.not (eq_false_of_ne_true c2)) ?_
  refine sr0 L 214 [] [] [] (S' := ⟨[(6, .P 201), (7, .I 2)], [(201, .raw [.N, .N, .I 0, .I 0])]⟩) ?_
  refine awp_turn (Turns.rn [(201, 100)] (S' := ⟨[(6, .P 100), (7, .I 2)], [(100, .raw [.N, .N, .I 0, .I 0])]⟩)) ?_
  refine awp_ret ?_
  obtain rfl := Option.some.inj h
  exact er (.tup [.agg [.N, .N, .I 0, .I 0], .I 2])
 refine ar L 204 [(3, true)] [(1, .B a1)] [] (cs := [PCall V P 14 [.agg (d_wr55_Group p0)] (.B a1), True, (!a1) = true]) (S' := ⟨[(1, .I p1), (2, .B p2), (3, .P 200), (6, .P 201), (17, .B true)], [(200, .raw (d_wr55_Group p0)), (201, .raw [.N, .N, .I 0, .I 0])]⟩) (And.intro (wr55_Right.ok h1) (And.intro trivial (congrArg Bool.not (eq_false_of_ne_true c1)))) ?_
 refine tt (b := true) (rfl) ?_
 refine sr0 L 214 [] [] [] (S' := ⟨[(6, .P 201), (7, .I 2)], [(201, .raw [.N, .N, .I 0, .I 0])]⟩) ?_
 refine awp_turn (Turns.rn [(201, 100)] (S' := ⟨[(6, .P 100), (7, .I 2)], [(100, .raw [.N, .N, .I 0, .I 0])]⟩)) ?_
 refine awp_ret ?_
 obtain rfl := Option.some.inj h
 exact er (.tup [.agg [.N, .N, .I 0, .I 0], .I 2])
theorem wr55_turned.ok {K : Nat} {p0 : wr55_Group} {p1 : Int} {p2 : Bool} {r : wr55_Group × Int} (h : wr55_turned K p0 p1 p2 = some r) : PCall V P 53 [.agg (d_wr55_Group p0), .I p1, .B p2] (.tup [.agg [.ro .t_aRep r.1.Replicas, .ro .t_bool r.1.Up, .I r.1.Leader, .I r.1.Epoch], .I r.2]) := ECall.pcall (eo (fn := Tryz.f53) (n := 44) (m := 100) fun Γ => wr55_turned.body h) (by kernel_rfl)
def wr55_Stop (K : Nat) (p0 : wr55_Group) (p1 : Int) : Option (wr55_Group × Int) := (Option.bind (wr55_turned K p0 p1 false) (fun (a1_0, a1_1) => some (a1_0, a1_1)))
theorem wr55_Stop.body {Γ : Ent} {K : Nat} {p0 : wr55_Group} {p1 : Int} {r : wr55_Group × Int} (h : wr55_Stop K p0 p1 = some r) : AWp V P 11 100 Γ (Tryz.f24.body.getD .skip) (EndsE P V Tryz.f24 (.tup [.agg [.ro .t_aRep r.1.Replicas, .ro .t_bool r.1.Up, .I r.1.Leader, .I r.1.Epoch], .I r.2]) []) ⟨args0 0 [.agg (d_wr55_Group p0), .I p1], []⟩ := by
 unfold wr55_Stop at h
 refine sr0 L 200 [] [] [] (S' := ⟨[(1, .I p1), (2, .P 200), (4, .P 201)], [(200, .raw (d_wr55_Group p0)), (201, .raw [.N, .N, .I 0, .I 0])]⟩) ?_
 refine awp_seq ?_
 obtain ⟨⟨a1_0, a1_1⟩, h1, h⟩ := bind_some h
 dsimp only at h
 refine ar L 204 [] [(2, .tup [.agg (d_wr55_Group a1_0), .I a1_1])] [] (cs := [PCall V P 53 [.agg (d_wr55_Group p0), .I p1, .B false] (.tup [.agg (d_wr55_Group a1_0), .I a1_1]), True]) (S' := ⟨[(4, .P 201), (5, .I a1_1)], [(201, .raw (d_wr55_Group a1_0))]⟩) (And.intro (wr55_turned.ok h1) trivial) ?_
 refine awp_turn (Turns.rn [(201, 100)] (S' := ⟨[(4, .P 100), (5, .I a1_1)], [(100, .raw (d_wr55_Group a1_0))]⟩)) ?_
 refine awp_ret ?_
 obtain rfl := Option.some.inj h
 exact er (.tup [.agg (d_wr55_Group a1_0), .I a1_1])
theorem wr55_Stop.ok {K : Nat} {p0 : wr55_Group} {p1 : Int} {r : wr55_Group × Int} (h : wr55_Stop K p0 p1 = some r) : PCall V P 24 [.agg (d_wr55_Group p0), .I p1] (.tup [.agg [.ro .t_aRep r.1.Replicas, .ro .t_bool r.1.Up, .I r.1.Leader, .I r.1.Epoch], .I r.2]) := ECall.pcall (eo (fn := Tryz.f24) (n := 11) (m := 100) fun Γ => wr55_Stop.body h) (by kernel_rfl)
def group_Start (K : Nat) (p0 : group_Group) (p1 : Int) : Option (group_Group × Int) := (Option.bind (group_power K p0 p1 true) (fun (a1_0, a1_1) => some (a1_0, a1_1)))
theorem group_Start.body {Γ : Ent} {K : Nat} {p0 : group_Group} {p1 : Int} {r : group_Group × Int} (h : group_Start K p0 p1 = some r) : AWp V P 11 100 Γ (Tryz.f25.body.getD .skip) (EndsE P V Tryz.f25 (.tup [.agg [.ro .t_aRep r.1.Replicas, .ro .t_bool r.1.Up, .I r.1.Leader, .I r.1.Epoch], .I r.2]) []) ⟨args0 0 [.agg (d_group_Group p0), .I p1], []⟩ := by
 unfold group_Start at h
 refine sr0 L 200 [] [] [] (S' := ⟨[(1, .I p1), (2, .P 200), (4, .P 201)], [(200, .raw (d_group_Group p0)), (201, .raw [.N, .N, .I 0, .I 0])]⟩) ?_
 refine awp_seq ?_
 obtain ⟨⟨a1_0, a1_1⟩, h1, h⟩ := bind_some h
 dsimp only at h
 refine ar L 204 [] [(2, .tup [.agg (d_group_Group a1_0), .I a1_1])] [] (cs := [PCall V P 52 [.agg (d_group_Group p0), .I p1, .B true] (.tup [.agg (d_group_Group a1_0), .I a1_1]), True]) (S' := ⟨[(4, .P 201), (5, .I a1_1)], [(201, .raw (d_group_Group a1_0))]⟩) (And.intro (group_power.ok h1) trivial) ?_
 refine awp_turn (Turns.rn [(201, 100)] (S' := ⟨[(4, .P 100), (5, .I a1_1)], [(100, .raw (d_group_Group a1_0))]⟩)) ?_
 refine awp_ret ?_
 obtain rfl := Option.some.inj h
 exact er (.tup [.agg (d_group_Group a1_0), .I a1_1])
theorem group_Start.ok {K : Nat} {p0 : group_Group} {p1 : Int} {r : group_Group × Int} (h : group_Start K p0 p1 = some r) : PCall V P 25 [.agg (d_group_Group p0), .I p1] (.tup [.agg [.ro .t_aRep r.1.Replicas, .ro .t_bool r.1.Up, .I r.1.Leader, .I r.1.Epoch], .I r.2]) := ECall.pcall (eo (fn := Tryz.f25) (n := 11) (m := 100) fun Γ => group_Start.body h) (by kernel_rfl)
def wr55_Start (K : Nat) (p0 : wr55_Group) (p1 : Int) : Option (wr55_Group × Int) := (Option.bind (wr55_turned K p0 p1 true) (fun (a1_0, a1_1) => some (a1_0, a1_1)))
theorem wr55_Start.body {Γ : Ent} {K : Nat} {p0 : wr55_Group} {p1 : Int} {r : wr55_Group × Int} (h : wr55_Start K p0 p1 = some r) : AWp V P 11 100 Γ (Tryz.f26.body.getD .skip) (EndsE P V Tryz.f26 (.tup [.agg [.ro .t_aRep r.1.Replicas, .ro .t_bool r.1.Up, .I r.1.Leader, .I r.1.Epoch], .I r.2]) []) ⟨args0 0 [.agg (d_wr55_Group p0), .I p1], []⟩ := by
 unfold wr55_Start at h
 refine sr0 L 200 [] [] [] (S' := ⟨[(1, .I p1), (2, .P 200), (4, .P 201)], [(200, .raw (d_wr55_Group p0)), (201, .raw [.N, .N, .I 0, .I 0])]⟩) ?_
 refine awp_seq ?_
 obtain ⟨⟨a1_0, a1_1⟩, h1, h⟩ := bind_some h
 dsimp only at h
 refine ar L 204 [] [(2, .tup [.agg (d_wr55_Group a1_0), .I a1_1])] [] (cs := [PCall V P 53 [.agg (d_wr55_Group p0), .I p1, .B true] (.tup [.agg (d_wr55_Group a1_0), .I a1_1]), True]) (S' := ⟨[(4, .P 201), (5, .I a1_1)], [(201, .raw (d_wr55_Group a1_0))]⟩) (And.intro (wr55_turned.ok h1) trivial) ?_
 refine awp_turn (Turns.rn [(201, 100)] (S' := ⟨[(4, .P 100), (5, .I a1_1)], [(100, .raw (d_wr55_Group a1_0))]⟩)) ?_
 refine awp_ret ?_
 obtain rfl := Option.some.inj h
 exact er (.tup [.agg (d_wr55_Group a1_0), .I a1_1])
theorem wr55_Start.ok {K : Nat} {p0 : wr55_Group} {p1 : Int} {r : wr55_Group × Int} (h : wr55_Start K p0 p1 = some r) : PCall V P 26 [.agg (d_wr55_Group p0), .I p1] (.tup [.agg [.ro .t_aRep r.1.Replicas, .ro .t_bool r.1.Up, .I r.1.Leader, .I r.1.Epoch], .I r.2]) := ECall.pcall (eo (fn := Tryz.f26) (n := 11) (m := 100) fun Γ => wr55_Start.body h) (by kernel_rfl)
end Go.Proofs.YtmafcdkdcfaajaaGreat
