/- What functions of the program compute, as Lean functions, and that they compute it. -/
import Derived.Test.YtmafcdkdcfaajaaFn2
set_option linter.unusedVariables false
set_option maxHeartbeats 0
namespace Go.Proofs.Ytmafcdkdcfaajaa
open Eng
def group_Elect.l41 (K : Nat) (p1 : Int) (a2_0 : api_Replica) (a4_0 : Int) (a4_1 : Int) (a5 : List Int) : Nat → Int → Int → (List api_Replica) → Option (Int × (List api_Replica))
  | 0, _, _, _ => none
  | k + 1, xt12_41h, xt62_41h, xh28304_41h => (if xt62_41h < (a5.length : Int) then (if (0 : Int) ≤ xt62_41h ∧ (xt62_41h : Int) < (a5.length : Int) then (if (Int.toNat xt62_41h) < a5.length then (if (0 : Int) ≤ (a5.getD (Int.toNat xt62_41h) (0 : Int)) ∧ ((a5.getD (Int.toNat xt62_41h) (0 : Int)) : Int) < (xh28304_41h.length : Int) then (if (Int.toNat ((a5.getD (Int.toNat xt62_41h) (0 : Int)))) < xh28304_41h.length then (Option.bind (ballot_Ask K ((xh28304_41h.getD ((Int.toNat ((a5.getD (Int.toNat xt62_41h) (0 : Int))))) z_api_Replica)) ((a2_0).Epoch) p1 a4_0 a4_1) (fun (a6_0, a6_1, a6_2) => (if a6_2 ≠ 0 then group_Elect.l41 K p1 a2_0 a4_0 a4_1 a5 k xt12_41h ((IntKind.i64.wrap (xt62_41h + 1))) xh28304_41h else (if a6_1 = true then group_Elect.l41 K p1 a2_0 a4_0 a4_1 a5 k ((IntKind.i64.wrap (xt12_41h + 1))) ((IntKind.i64.wrap (xt62_41h + 1))) ((xh28304_41h.set ((Int.toNat ((a5.getD (Int.toNat xt62_41h) (0 : Int))))) ((⟨(a6_0).Epoch, (a6_0).Vote, (a6_0).Commit, (a6_0).Log⟩ : api_Replica)))) else group_Elect.l41 K p1 a2_0 a4_0 a4_1 a5 k xt12_41h ((IntKind.i64.wrap (xt62_41h + 1))) ((xh28304_41h.set ((Int.toNat ((a5.getD (Int.toNat xt62_41h) (0 : Int))))) ((⟨(a6_0).Epoch, (a6_0).Vote, (a6_0).Commit, (a6_0).Log⟩ : api_Replica)))))))) else none) else none) else none) else none) else some (xt12_41h, xh28304_41h))

def group_Elect (K : Nat) (p0 : group_Group) (p1 : Int) (p2 : List Int) : Option (group_Group × Int) := (Option.bind (group_Group_suits K p0 p1 p2) (fun a1 => (if a1 = true then (if (0 : Int) ≤ p1 ∧ (p1 : Int) < (p0.Up.length : Int) then (if ((p0.Up.getD (Int.toNat p1) false)) = true then (if (p1 : Int) < (p0.Replicas.length : Int) then (Option.bind (ballot_Stand K ((p0.Replicas.getD (Int.toNat p1) z_api_Replica)) p1) (fun (a2_0, a2_1) => (if a2_1 ≠ 0 then some (((⟨([] : List api_Replica), ([] : List Bool), 0, 0⟩ : group_Group), a2_1)) else (Option.bind (group_Group_clone_v2 K p0) (fun (a3_0, a3_1) => (if (p1 : Int) < (a3_1.length : Int) then (if (Int.toNat p1) < a3_1.length then (Option.bind (replog_Last K ((⟨(a2_0).Epoch, (a2_0).Vote, (a2_0).Commit, (a2_0).Log⟩ : api_Replica))) (fun (a4_0, a4_1) => (Option.bind (group_Group_others_v2 K ((⟨(a3_1.set (Int.toNat p1) ((⟨(a2_0).Epoch, (a2_0).Vote, (a2_0).Commit, (a2_0).Log⟩ : api_Replica))), a3_0, p0.Leader, p0.Epoch⟩ : group_Group)) p1 p2) (fun a5 => (Option.bind (group_Elect.l41 K p1 a2_0 a4_0 a4_1 a5 K 1 0 ((a3_1.set (Int.toNat p1) ((⟨(a2_0).Epoch, (a2_0).Vote, (a2_0).Commit, (a2_0).Log⟩ : api_Replica)))) : Option (Int × (List api_Replica))) (fun (xt12_41, xh28203_41) => (Option.bind (quorum_Won K xt12_41 (xh28203_41.length : Int)) (fun a7 => (if a7 = true then some (((⟨xh28203_41, a3_0, p1, (a2_0).Epoch⟩ : group_Group), 0)) else some (((⟨xh28203_41, a3_0, p0.Leader, p0.Epoch⟩ : group_Group), 27))))))))))) else none) else none)))))) else none) else some (((⟨([] : List api_Replica), ([] : List Bool), 0, 0⟩ : group_Group), 28))) else none) else some (((⟨([] : List api_Replica), ([] : List Bool), 0, 0⟩ : group_Group), 2)))))

theorem group_Elect.body {Γ : Ent} {K : Nat} {p0 : group_Group} {p1 : Int} {p2 : List Int} {r : group_Group × Int} (h : group_Elect K p0 p1 p2 = some r) : AWp V P 105 100 Γ (Try.f17.body.getD .skip) (EndsE P V Try.f17 (.tup [.agg [.ro Tag.t_api_Replica ((r.1).Replicas), .ro Tag.t_bool ((r.1).Up), .I ((r.1).Leader), .I ((r.1).Epoch)], .I r.2]) []) ⟨args0 0 [.agg [.ro Tag.t_api_Replica p0.Replicas, .ro Tag.t_bool p0.Up, .I p0.Leader, .I p0.Epoch], .I p1, .cv (.ro Tag.t_int p2)], []⟩ := by
  unfold group_Elect at h
  refine awp_seq ?_
  refine awp_region L 200 [] [] [] [1, 2, 3, 6] [200, 201] (cs := []) (S' := ⟨[(1, .I p1), (2, .cv (.ro Tag.t_int p2)), (3, .P 200), (6, .P 201)], [(200, .raw [.ro Tag.t_api_Replica p0.Replicas, .ro Tag.t_bool p0.Up, .I p0.Leader, .I p0.Epoch]), (201, .raw [.N, .N, .I 0, .I 0])]⟩) (by kernel_rfl) trivial ?_
  refine awp_seq ?_
  refine awp_seq ?_
  obtain ⟨a1, h1, h⟩ := bind_some h
  refine awp_region L 204 [] [(3, .B a1)] [] [1, 2, 3, 6, 22] [200, 201] (cs := [PCall V P 28 [.agg [.ro Tag.t_api_Replica p0.Replicas, .ro Tag.t_bool p0.Up, .I p0.Leader, .I p0.Epoch], .I p1, .cv (.ro Tag.t_int p2)] (.B a1), True]) (S' := ⟨[(1, .I p1), (2, .cv (.ro Tag.t_int p2)), (3, .P 200), (6, .P 201), (22, .B (!a1))], [(200, .raw [.ro Tag.t_api_Replica p0.Replicas, .ro Tag.t_bool p0.Up, .I p0.Leader, .I p0.Epoch]), (201, .raw [.N, .N, .I 0, .I 0])]⟩) (by kernel_rfl) (And.intro (group_Group_suits.ok h1) trivial) ?_
  rcases ite_some h with ⟨c1, h⟩ | ⟨c1, h⟩
  · refine awp_false (b := (!a1)) (by kernel_rfl) (congrArg Bool.not (c1)) ?_
    refine awp_skip [1, 2, 3, 6] [200, 201] (S' := ⟨[(1, .I p1), (2, .cv (.ro Tag.t_int p2)), (3, .P 200), (6, .P 201)], [(200, .raw [.ro Tag.t_api_Replica p0.Replicas, .ro Tag.t_bool p0.Up, .I p0.Leader, .I p0.Epoch]), (201, .raw [.N, .N, .I 0, .I 0])]⟩) (by kernel_rfl) ?_
    refine awp_seq ?_
    refine awp_seq ?_
    obtain ⟨g1, h⟩ := guard_some h
    refine awp_region L 214 [] [] [] [1, 2, 3, 6, 29] [200, 201] (cs := [(0 : Int) ≤ p1, (p1 : Int) < (p0.Up.length : Int)]) (S' := ⟨[(1, .I p1), (2, .cv (.ro Tag.t_int p2)), (3, .P 200), (6, .P 201), (29, .B ((!((p0.Up.getD (Int.toNat p1) false)))))], [(200, .raw [.ro Tag.t_api_Replica p0.Replicas, .ro Tag.t_bool p0.Up, .I p0.Leader, .I p0.Epoch]), (201, .raw [.N, .N, .I 0, .I 0])]⟩) (by kernel_rfl) (And.intro g1.1 g1.2) ?_
    rcases ite_some h with ⟨c2, h⟩ | ⟨c2, h⟩
    · refine awp_false (b := (!((p0.Up.getD (Int.toNat p1) false)))) (by kernel_rfl) (congrArg Bool.not (c2)) ?_
      refine awp_skip [1, 2, 3, 6] [200, 201] (S' := ⟨[(1, .I p1), (2, .cv (.ro Tag.t_int p2)), (3, .P 200), (6, .P 201)], [(200, .raw [.ro Tag.t_api_Replica p0.Replicas, .ro Tag.t_bool p0.Up, .I p0.Leader, .I p0.Epoch]), (201, .raw [.N, .N, .I 0, .I 0])]⟩) (by kernel_rfl) ?_
      refine awp_seq ?_
      obtain ⟨g2, h⟩ := guard_some h
      obtain ⟨⟨a2_0, a2_1⟩, h2, h⟩ := bind_some h
      dsimp only at h
      refine awp_region L 225 [] [(6, .tup [.agg [.I ((a2_0).Epoch), .I ((a2_0).Vote), .I ((a2_0).Commit), .ro Tag.t_api_Entry ((a2_0).Log)], .I a2_1])] [] [1, 2, 3, 6, 8, 9] [200, 201, 235] (cs := [(0 : Int) ≤ p1, (p1 : Int) < (p0.Replicas.length : Int), PCall V P 29 [.agg [.I (((p0.Replicas.getD (Int.toNat p1) z_api_Replica)).Epoch), .I (((p0.Replicas.getD (Int.toNat p1) z_api_Replica)).Vote), .I (((p0.Replicas.getD (Int.toNat p1) z_api_Replica)).Commit), .ro Tag.t_api_Entry (((p0.Replicas.getD (Int.toNat p1) z_api_Replica)).Log)], .I p1] (.tup [.agg [.I ((a2_0).Epoch), .I ((a2_0).Vote), .I ((a2_0).Commit), .ro Tag.t_api_Entry ((a2_0).Log)], .I a2_1]), True]) (S' := ⟨[(1, .I p1), (2, .cv (.ro Tag.t_int p2)), (3, .P 200), (6, .P 201), (8, .P 235), (9, .I a2_1)], [(200, .raw [.ro Tag.t_api_Replica p0.Replicas, .ro Tag.t_bool p0.Up, .I p0.Leader, .I p0.Epoch]), (201, .raw [.N, .N, .I 0, .I 0]), (235, .raw [.I ((a2_0).Epoch), .I ((a2_0).Vote), .I ((a2_0).Commit), .ro Tag.t_api_Entry ((a2_0).Log)])]⟩) (by kernel_rfl) (And.intro g1.1 (And.intro g2 (And.intro (ballot_Stand.ok h2) trivial))) ?_
      refine awp_seq ?_
      refine awp_seq ?_
      refine awp_region L 239 [] [] [] [1, 2, 3, 6, 8, 9, 42] [200, 201, 235] (cs := []) (S' := ⟨[(1, .I p1), (2, .cv (.ro Tag.t_int p2)), (3, .P 200), (6, .P 201), (8, .P 235), (9, .I a2_1), (42, .B ((decide (a2_1 ≠ 0))))], [(200, .raw [.ro Tag.t_api_Replica p0.Replicas, .ro Tag.t_bool p0.Up, .I p0.Leader, .I p0.Epoch]), (201, .raw [.N, .N, .I 0, .I 0]), (235, .raw [.I ((a2_0).Epoch), .I ((a2_0).Vote), .I ((a2_0).Commit), .ro Tag.t_api_Entry ((a2_0).Log)])]⟩) (by kernel_rfl) trivial ?_
      rcases ite_some h with ⟨c3, h⟩ | ⟨c3, h⟩
      · refine awp_true (b := (decide (a2_1 ≠ 0))) (by kernel_rfl) (decide_eq_true c3) ?_
        refine awp_seq ?_
        refine awp_region L 242 [] [] [] [6, 7] [201] (cs := []) (S' := ⟨[(6, .P 201), (7, .I a2_1)], [(201, .raw [.N, .N, .I 0, .I 0])]⟩) (by kernel_rfl) trivial ?_
        refine awp_turn (Turns.trans (Turns.keep [6, 7] [201] (S' := ⟨[(6, .P 201), (7, .I a2_1)], [(201, .raw [.N, .N, .I 0, .I 0])]⟩) (by kernel_rfl)) (Turns.ren [(201, 100)] (S' := ⟨[(6, .P 100), (7, .I a2_1)], [(100, .raw [.N, .N, .I 0, .I 0])]⟩) (by kernel_rfl) (by kernel_rfl))) ?_
        refine awp_ret ?_
        have hr := Option.some.inj h
        subst hr
        exact ⟨.inr rfl, .tup [.agg [.N, .N, .I 0, .I 0], .I a2_1], by kernel_rfl, by kernel_rfl, by kernel_rfl⟩
      · refine awp_false (b := (decide (a2_1 ≠ 0))) (by kernel_rfl) (decide_eq_false c3) ?_
        refine awp_skip [1, 2, 3, 6, 8] [200, 201, 235] (S' := ⟨[(1, .I p1), (2, .cv (.ro Tag.t_int p2)), (3, .P 200), (6, .P 201), (8, .P 235)], [(200, .raw [.ro Tag.t_api_Replica p0.Replicas, .ro Tag.t_bool p0.Up, .I p0.Leader, .I p0.Epoch]), (201, .raw [.N, .N, .I 0, .I 0]), (235, .raw [.I ((a2_0).Epoch), .I ((a2_0).Vote), .I ((a2_0).Commit), .ro Tag.t_api_Entry ((a2_0).Log)])]⟩) (by kernel_rfl) ?_
        refine awp_seq ?_
        obtain ⟨⟨a3_0, a3_1⟩, h3, h⟩ := bind_some h
        dsimp only at h
        refine awp_region L 247 [] [] [(1, { hids := [], fx := [], r := .agg [.own Tag.t_api_Replica 100, .ro Tag.t_bool a3_0, .I p0.Leader, .I p0.Epoch], H' := [(100, .lst Tag.t_api_Replica a3_1)], σ := [(100, 5384)] })] [1, 2, 3, 6, 8] [200, 201, 235, 5384] (cs := [ECall V P 30 [.agg [.ro Tag.t_api_Replica p0.Replicas, .ro Tag.t_bool p0.Up, .I p0.Leader, .I p0.Epoch]] [] [] (.agg [.own Tag.t_api_Replica 100, .ro Tag.t_bool a3_0, .I p0.Leader, .I p0.Epoch]) [(100, .lst Tag.t_api_Replica a3_1)]]) (S' := ⟨[(1, .I p1), (2, .cv (.ro Tag.t_int p2)), (3, .P 200), (6, .P 201), (8, .P 235)], [(200, .raw [.own Tag.t_api_Replica 5384, .ro Tag.t_bool a3_0, .I p0.Leader, .I p0.Epoch]), (201, .raw [.N, .N, .I 0, .I 0]), (235, .raw [.I ((a2_0).Epoch), .I ((a2_0).Vote), .I ((a2_0).Commit), .ro Tag.t_api_Entry ((a2_0).Log)]), (5384, .lst Tag.t_api_Replica a3_1)]⟩) (by kernel_rfl) (group_Group_clone_v2.okE h3) ?_
        refine awp_seq ?_
        obtain ⟨g3, h⟩ := guard_some h
        obtain ⟨g4, h⟩ := guard_some h
        refine awp_region L 251 [] [] [] [1, 2, 3, 6, 8] [200, 201, 235, 5384] (cs := [(0 : Int) ≤ p1, (p1 : Int) < (a3_1.length : Int), (Int.toNat p1) < a3_1.length, True]) (S' := ⟨[(1, .I p1), (2, .cv (.ro Tag.t_int p2)), (3, .P 200), (6, .P 201), (8, .P 235)], [(200, .raw [.own Tag.t_api_Replica 5384, .ro Tag.t_bool a3_0, .I p0.Leader, .I p0.Epoch]), (201, .raw [.N, .N, .I 0, .I 0]), (235, .raw [.I ((a2_0).Epoch), .I ((a2_0).Vote), .I ((a2_0).Commit), .ro Tag.t_api_Entry ((a2_0).Log)]), (5384, .lst Tag.t_api_Replica ((a3_1.set (Int.toNat p1) ((⟨(a2_0).Epoch, (a2_0).Vote, (a2_0).Commit, (a2_0).Log⟩ : api_Replica)))))]⟩) (by kernel_rfl) (And.intro g1.1 (And.intro g3 (And.intro g4 trivial))) ?_
        refine awp_seq ?_
        obtain ⟨⟨a4_0, a4_1⟩, h4, h⟩ := bind_some h
        dsimp only at h
        refine awp_region L 258 [] [(1, .tup [.I a4_0, .I a4_1])] [] [1, 2, 3, 6, 8, 10, 11] [200, 201, 235, 5384] (cs := [PCall V P 31 [.agg [.I ((a2_0).Epoch), .I ((a2_0).Vote), .I ((a2_0).Commit), .ro Tag.t_api_Entry ((a2_0).Log)]] (.tup [.I a4_0, .I a4_1]), True]) (S' := ⟨[(1, .I p1), (2, .cv (.ro Tag.t_int p2)), (3, .P 200), (6, .P 201), (8, .P 235), (10, .I a4_0), (11, .I a4_1)], [(200, .raw [.own Tag.t_api_Replica 5384, .ro Tag.t_bool a3_0, .I p0.Leader, .I p0.Epoch]), (201, .raw [.N, .N, .I 0, .I 0]), (235, .raw [.I ((a2_0).Epoch), .I ((a2_0).Vote), .I ((a2_0).Commit), .ro Tag.t_api_Entry ((a2_0).Log)]), (5384, .lst Tag.t_api_Replica ((a3_1.set (Int.toNat p1) ((⟨(a2_0).Epoch, (a2_0).Vote, (a2_0).Commit, (a2_0).Log⟩ : api_Replica)))))]⟩) (by kernel_rfl) (And.intro (replog_Last.ok h4) trivial) ?_
        refine awp_seq ?_
        refine awp_region L 266 [] [] [] [1, 2, 3, 6, 8, 10, 11, 12] [200, 201, 235, 5384] (cs := []) (S' := ⟨[(1, .I p1), (2, .cv (.ro Tag.t_int p2)), (3, .P 200), (6, .P 201), (8, .P 235), (10, .I a4_0), (11, .I a4_1), (12, .I 1)], [(200, .raw [.own Tag.t_api_Replica 5384, .ro Tag.t_bool a3_0, .I p0.Leader, .I p0.Epoch]), (201, .raw [.N, .N, .I 0, .I 0]), (235, .raw [.I ((a2_0).Epoch), .I ((a2_0).Vote), .I ((a2_0).Commit), .ro Tag.t_api_Entry ((a2_0).Log)]), (5384, .lst Tag.t_api_Replica ((a3_1.set (Int.toNat p1) ((⟨(a2_0).Epoch, (a2_0).Vote, (a2_0).Commit, (a2_0).Log⟩ : api_Replica)))))]⟩) (by kernel_rfl) trivial ?_
        refine awp_seq ?_
        refine awp_seq ?_
        obtain ⟨a5, h5, h⟩ := bind_some h
        refine awp_region L 268 [] [(3, .cv (.ron Tag.t_int a5))] [] [1, 3, 6, 8, 10, 11, 12, 60, 61, 62] [200, 201, 235, 271, 5384] (cs := [FCall V P 32 [.agg [.ro Tag.t_api_Replica ((a3_1.set (Int.toNat p1) ((⟨(a2_0).Epoch, (a2_0).Vote, (a2_0).Commit, (a2_0).Log⟩ : api_Replica)))), .ro Tag.t_bool a3_0, .I p0.Leader, .I p0.Epoch], .I p1, .cv (.ro Tag.t_int p2)] Tag.t_int a5, ∀ x, ∀ c ∈ V.E.k Tag.t_int x, c.flat = true]) (S' := ⟨[(1, .I p1), (3, .P 200), (6, .P 201), (8, .P 235), (10, .I a4_0), (11, .I a4_1), (12, .I 1), (60, .cv (.own Tag.t_int 271)), (61, .I (a5.length : Int)), (62, .I 0)], [(200, .raw [.own Tag.t_api_Replica 5384, .ro Tag.t_bool a3_0, .I p0.Leader, .I p0.Epoch]), (201, .raw [.N, .N, .I 0, .I 0]), (235, .raw [.I ((a2_0).Epoch), .I ((a2_0).Vote), .I ((a2_0).Commit), .ro Tag.t_api_Entry ((a2_0).Log)]), (271, .lst Tag.t_int a5), (5384, .lst Tag.t_api_Replica ((a3_1.set (Int.toNat p1) ((⟨(a2_0).Epoch, (a2_0).Vote, (a2_0).Commit, (a2_0).Log⟩ : api_Replica)))))]⟩) (by kernel_rfl) (And.intro (group_Group_others_v2.okF h5) flat_t_int) ?_
        refine awp_block ?_
        refine awp_turn (Turns.trans (Turns.keep [1, 3, 6, 8, 10, 11, 12, 60, 61, 62] [200, 201, 235, 271, 5384] (S' := ⟨[(1, .I p1), (3, .P 200), (6, .P 201), (8, .P 235), (10, .I a4_0), (11, .I a4_1), (12, .I 1), (60, .cv (.own Tag.t_int 271)), (61, .I (a5.length : Int)), (62, .I 0)], [(200, .raw [.own Tag.t_api_Replica 5384, .ro Tag.t_bool a3_0, .I p0.Leader, .I p0.Epoch]), (201, .raw [.N, .N, .I 0, .I 0]), (235, .raw [.I ((a2_0).Epoch), .I ((a2_0).Vote), .I ((a2_0).Commit), .ro Tag.t_api_Entry ((a2_0).Log)]), (271, .lst Tag.t_int a5), (5384, .lst Tag.t_api_Replica ((a3_1.set (Int.toNat p1) ((⟨(a2_0).Epoch, (a2_0).Vote, (a2_0).Commit, (a2_0).Log⟩ : api_Replica)))))]⟩) (by kernel_rfl)) (Turns.ren [(200, 28300), (201, 28301), (235, 28302), (271, 28303), (5384, 28304)] (S' := ⟨[(1, .I p1), (3, .P 28300), (6, .P 28301), (8, .P 28302), (10, .I a4_0), (11, .I a4_1), (12, .I 1), (60, .cv (.own Tag.t_int 28303)), (61, .I (a5.length : Int)), (62, .I 0)], [(28300, .raw [.own Tag.t_api_Replica 28304, .ro Tag.t_bool a3_0, .I p0.Leader, .I p0.Epoch]), (28301, .raw [.N, .N, .I 0, .I 0]), (28302, .raw [.I ((a2_0).Epoch), .I ((a2_0).Vote), .I ((a2_0).Commit), .ro Tag.t_api_Entry ((a2_0).Log)]), (28303, .lst Tag.t_int a5), (28304, .lst Tag.t_api_Replica ((a3_1.set (Int.toNat p1) ((⟨(a2_0).Epoch, (a2_0).Vote, (a2_0).Commit, (a2_0).Log⟩ : api_Replica)))))]⟩) (by kernel_rfl) (by kernel_rfl))) ?_
        refine awp_keep (ts := [1, 3, 6, 8, 10, 11, 12, 60, 61, 62]) (ids := [28300, 28301, 28302, 28303, 28304]) (S' := ⟨[(1, .I p1), (3, .P 28300), (6, .P 28301), (8, .P 28302), (10, .I a4_0), (11, .I a4_1), (12, .I 1), (60, .cv (.own Tag.t_int 28303)), (61, .I (a5.length : Int)), (62, .I 0)], [(28300, .raw [.own Tag.t_api_Replica 28304, .ro Tag.t_bool a3_0, .I p0.Leader, .I p0.Epoch]), (28301, .raw [.N, .N, .I 0, .I 0]), (28302, .raw [.I ((a2_0).Epoch), .I ((a2_0).Vote), .I ((a2_0).Commit), .ro Tag.t_api_Entry ((a2_0).Log)]), (28303, .lst Tag.t_int a5), (28304, .lst Tag.t_api_Replica ((a3_1.set (Int.toNat p1) ((⟨(a2_0).Epoch, (a2_0).Vote, (a2_0).Commit, (a2_0).Log⟩ : api_Replica)))))]⟩) (by kernel_rfl) ?_
        obtain ⟨o1, hp1, h⟩ := bind_some h
        refine awp_conseq (Q' := fun e S => (e = .exit 0 ∧ ∃ xt12_41 : Int, ∃ xh28203_41 : List api_Replica, S = ⟨[(1, .I p1), (3, .P 28200), (6, .P 28201), (8, .P 28202), (12, .I xt12_41)], [(28200, .raw [.own Tag.t_api_Replica 28203, .ro Tag.t_bool a3_0, .I p0.Leader, .I p0.Epoch]), (28201, .raw [.N, .N, .I 0, .I 0]), (28202, .raw [.I ((a2_0).Epoch), .I ((a2_0).Vote), .I ((a2_0).Commit), .ro Tag.t_api_Entry ((a2_0).Log)]), (28203, .lst Tag.t_api_Replica xh28203_41)]⟩ ∧ (xt12_41, xh28203_41) = o1)) (awp_loop (fun k S => ∃ xt12_41h : Int, ∃ xt62_41h : Int, ∃ xh28304_41h : List api_Replica, S = ⟨[(1, .I p1), (3, .P 28300), (6, .P 28301), (8, .P 28302), (10, .I a4_0), (11, .I a4_1), (12, .I xt12_41h), (60, .cv (.own Tag.t_int 28303)), (61, .I (a5.length : Int)), (62, .I xt62_41h)], [(28300, .raw [.own Tag.t_api_Replica 28304, .ro Tag.t_bool a3_0, .I p0.Leader, .I p0.Epoch]), (28301, .raw [.N, .N, .I 0, .I 0]), (28302, .raw [.I ((a2_0).Epoch), .I ((a2_0).Vote), .I ((a2_0).Commit), .ro Tag.t_api_Entry ((a2_0).Log)]), (28303, .lst Tag.t_int a5), (28304, .lst Tag.t_api_Replica xh28304_41h)]⟩ ∧ group_Elect.l41 K p1 a2_0 a4_0 a4_1 a5 k xt12_41h xt62_41h xh28304_41h = some o1) ?_ ⟨_, _, _, rfl, hp1⟩) ?_
        · clear h hp1
          intro k S hS
          obtain ⟨xt12_41h, xt62_41h, xh28304_41h, rfl, h⟩ := hS
          cases k with
          | zero => cases h
          | succ k =>
          unfold group_Elect.l41 at h
          refine awp_seq ?_
          refine awp_region L 275 [] [] [] [1, 3, 6, 8, 10, 11, 12, 60, 61, 62, 63] [28300, 28301, 28302, 28303, 28304] (cs := []) (S' := ⟨[(1, .I p1), (3, .P 28300), (6, .P 28301), (8, .P 28302), (10, .I a4_0), (11, .I a4_1), (12, .I xt12_41h), (60, .cv (.own Tag.t_int 28303)), (61, .I (a5.length : Int)), (62, .I xt62_41h), (63, .B ((decide (xt62_41h < (a5.length : Int)))))], [(28300, .raw [.own Tag.t_api_Replica 28304, .ro Tag.t_bool a3_0, .I p0.Leader, .I p0.Epoch]), (28301, .raw [.N, .N, .I 0, .I 0]), (28302, .raw [.I ((a2_0).Epoch), .I ((a2_0).Vote), .I ((a2_0).Commit), .ro Tag.t_api_Entry ((a2_0).Log)]), (28303, .lst Tag.t_int a5), (28304, .lst Tag.t_api_Replica xh28304_41h)]⟩) (by kernel_rfl) trivial ?_
          refine awp_seq ?_
          rcases ite_some h with ⟨c4, h⟩ | ⟨c4, h⟩
          · refine awp_true (b := (decide (xt62_41h < (a5.length : Int)))) (by kernel_rfl) (decide_eq_true c4) ?_
            refine awp_skip [1, 3, 6, 8, 10, 11, 12, 60, 61, 62] [28300, 28301, 28302, 28303, 28304] (S' := ⟨[(1, .I p1), (3, .P 28300), (6, .P 28301), (8, .P 28302), (10, .I a4_0), (11, .I a4_1), (12, .I xt12_41h), (60, .cv (.own Tag.t_int 28303)), (61, .I (a5.length : Int)), (62, .I xt62_41h)], [(28300, .raw [.own Tag.t_api_Replica 28304, .ro Tag.t_bool a3_0, .I p0.Leader, .I p0.Epoch]), (28301, .raw [.N, .N, .I 0, .I 0]), (28302, .raw [.I ((a2_0).Epoch), .I ((a2_0).Vote), .I ((a2_0).Commit), .ro Tag.t_api_Entry ((a2_0).Log)]), (28303, .lst Tag.t_int a5), (28304, .lst Tag.t_api_Replica xh28304_41h)]⟩) (by kernel_rfl) ?_
            refine awp_seq ?_
            refine awp_block ?_
            refine awp_seq ?_
            obtain ⟨g5, h⟩ := guard_some h
            obtain ⟨g6, h⟩ := guard_some h
            refine awp_region L 277 [] [] [] [1, 3, 6, 8, 10, 11, 12, 14, 60, 61, 62] [28300, 28301, 28302, 28303, 28304] (cs := [(0 : Int) ≤ xt62_41h, (xt62_41h : Int) < (a5.length : Int), (Int.toNat xt62_41h) < a5.length]) (S' := ⟨[(1, .I p1), (3, .P 28300), (6, .P 28301), (8, .P 28302), (10, .I a4_0), (11, .I a4_1), (12, .I xt12_41h), (14, .I ((a5.getD (Int.toNat xt62_41h) (0 : Int)))), (60, .cv (.own Tag.t_int 28303)), (61, .I (a5.length : Int)), (62, .I xt62_41h)], [(28300, .raw [.own Tag.t_api_Replica 28304, .ro Tag.t_bool a3_0, .I p0.Leader, .I p0.Epoch]), (28301, .raw [.N, .N, .I 0, .I 0]), (28302, .raw [.I ((a2_0).Epoch), .I ((a2_0).Vote), .I ((a2_0).Commit), .ro Tag.t_api_Entry ((a2_0).Log)]), (28303, .lst Tag.t_int a5), (28304, .lst Tag.t_api_Replica xh28304_41h)]⟩) (by kernel_rfl) (And.intro g5.1 (And.intro g5.2 g6)) ?_
            refine awp_seq ?_
            obtain ⟨g7, h⟩ := guard_some h
            obtain ⟨g8, h⟩ := guard_some h
            obtain ⟨⟨a6_0, a6_1, a6_2⟩, h6, h⟩ := bind_some h
            dsimp only at h
            refine awp_draw L mixed 281 [] [(10, .tup [.agg [.I ((a6_0).Epoch), .I ((a6_0).Vote), .I ((a6_0).Commit), .ro Tag.t_api_Entry ((a6_0).Log)], .B a6_1, .I a6_2])] [] [296] 19 [1, 3, 6, 8, 10, 11, 12, 14, 15, 16, 17, 60, 61, 62] [296, 28300, 28301, 28302, 28303, 28304] (cs := [(0 : Int) ≤ (a5.getD (Int.toNat xt62_41h) (0 : Int)), ((a5.getD (Int.toNat xt62_41h) (0 : Int)) : Int) < (xh28304_41h.length : Int), (Int.toNat ((a5.getD (Int.toNat xt62_41h) (0 : Int)))) < xh28304_41h.length, PCall V P 33 [.agg [.I (((xh28304_41h.getD ((Int.toNat ((a5.getD (Int.toNat xt62_41h) (0 : Int))))) z_api_Replica)).Epoch), .I (((xh28304_41h.getD ((Int.toNat ((a5.getD (Int.toNat xt62_41h) (0 : Int))))) z_api_Replica)).Vote), .I (((xh28304_41h.getD ((Int.toNat ((a5.getD (Int.toNat xt62_41h) (0 : Int))))) z_api_Replica)).Commit), .ro Tag.t_api_Entry (((xh28304_41h.getD ((Int.toNat ((a5.getD (Int.toNat xt62_41h) (0 : Int))))) z_api_Replica)).Log)], .I ((a2_0).Epoch), .I p1, .I a4_0, .I a4_1] (.tup [.agg [.I ((a6_0).Epoch), .I ((a6_0).Vote), .I ((a6_0).Commit), .ro Tag.t_api_Entry ((a6_0).Log)], .B a6_1, .I a6_2]), True]) (S' := ⟨[(1, .I p1), (3, .P 28300), (6, .P 28301), (8, .P 28302), (10, .I a4_0), (11, .I a4_1), (12, .I xt12_41h), (14, .I ((a5.getD (Int.toNat xt62_41h) (0 : Int)))), (15, .P 296), (16, .B a6_1), (17, .I a6_2), (60, .cv (.own Tag.t_int 28303)), (61, .I (a5.length : Int)), (62, .I xt62_41h)], [(296, .raw [.I ((a6_0).Epoch), .I ((a6_0).Vote), .I ((a6_0).Commit), .ro Tag.t_api_Entry ((a6_0).Log)]), (28300, .raw [.own Tag.t_api_Replica 28304, .ro Tag.t_bool a3_0, .I p0.Leader, .I p0.Epoch]), (28301, .raw [.N, .N, .I 0, .I 0]), (28302, .raw [.I ((a2_0).Epoch), .I ((a2_0).Vote), .I ((a2_0).Commit), .ro Tag.t_api_Entry ((a2_0).Log)]), (28303, .lst Tag.t_int a5), (28304, .lst Tag.t_api_Replica xh28304_41h)]⟩) (by kernel_rfl) (And.intro g7.1 (And.intro g7.2 (And.intro g8 (And.intro (ballot_Ask.ok h6) trivial)))) ?_
            refine awp_seq ?_
            refine awp_seq ?_
            refine awp_region L 301 [] [] [] [1, 3, 6, 8, 10, 11, 12, 14, 15, 16, 60, 61, 62, 82] [296, 28300, 28301, 28302, 28303, 28304] (cs := []) (S' := ⟨[(1, .I p1), (3, .P 28300), (6, .P 28301), (8, .P 28302), (10, .I a4_0), (11, .I a4_1), (12, .I xt12_41h), (14, .I ((a5.getD (Int.toNat xt62_41h) (0 : Int)))), (15, .P 296), (16, .B a6_1), (60, .cv (.own Tag.t_int 28303)), (61, .I (a5.length : Int)), (62, .I xt62_41h), (82, .B ((decide (a6_2 ≠ 0))))], [(296, .raw [.I ((a6_0).Epoch), .I ((a6_0).Vote), .I ((a6_0).Commit), .ro Tag.t_api_Entry ((a6_0).Log)]), (28300, .raw [.own Tag.t_api_Replica 28304, .ro Tag.t_bool a3_0, .I p0.Leader, .I p0.Epoch]), (28301, .raw [.N, .N, .I 0, .I 0]), (28302, .raw [.I ((a2_0).Epoch), .I ((a2_0).Vote), .I ((a2_0).Commit), .ro Tag.t_api_Entry ((a2_0).Log)]), (28303, .lst Tag.t_int a5), (28304, .lst Tag.t_api_Replica xh28304_41h)]⟩) (by kernel_rfl) trivial ?_
            rcases ite_some h with ⟨c5, h⟩ | ⟨c5, h⟩
            · refine awp_true (b := (decide (a6_2 ≠ 0))) (by kernel_rfl) (decide_eq_true c5) ?_
              refine awp_exit [1, 3, 6, 8, 10, 11, 12, 60, 61, 62] [28300, 28301, 28302, 28303, 28304] (S' := ⟨[(1, .I p1), (3, .P 28300), (6, .P 28301), (8, .P 28302), (10, .I a4_0), (11, .I a4_1), (12, .I xt12_41h), (60, .cv (.own Tag.t_int 28303)), (61, .I (a5.length : Int)), (62, .I xt62_41h)], [(28300, .raw [.own Tag.t_api_Replica 28304, .ro Tag.t_bool a3_0, .I p0.Leader, .I p0.Epoch]), (28301, .raw [.N, .N, .I 0, .I 0]), (28302, .raw [.I ((a2_0).Epoch), .I ((a2_0).Vote), .I ((a2_0).Commit), .ro Tag.t_api_Entry ((a2_0).Log)]), (28303, .lst Tag.t_int a5), (28304, .lst Tag.t_api_Replica xh28304_41h)]⟩) (by kernel_rfl) ?_
              refine awp_region L 317 [] [] [] [1, 3, 6, 8, 10, 11, 12, 60, 61, 62] [28300, 28301, 28302, 28303, 28304] (cs := []) (S' := ⟨[(1, .I p1), (3, .P 28300), (6, .P 28301), (8, .P 28302), (10, .I a4_0), (11, .I a4_1), (12, .I xt12_41h), (60, .cv (.own Tag.t_int 28303)), (61, .I (a5.length : Int)), (62, .I ((IntKind.i64.wrap (xt62_41h + 1))))], [(28300, .raw [.own Tag.t_api_Replica 28304, .ro Tag.t_bool a3_0, .I p0.Leader, .I p0.Epoch]), (28301, .raw [.N, .N, .I 0, .I 0]), (28302, .raw [.I ((a2_0).Epoch), .I ((a2_0).Vote), .I ((a2_0).Commit), .ro Tag.t_api_Entry ((a2_0).Log)]), (28303, .lst Tag.t_int a5), (28304, .lst Tag.t_api_Replica xh28304_41h)]⟩) (by kernel_rfl) trivial ?_
              exact ⟨k, Nat.lt_succ_self k, _, _, _, rfl, h⟩
            · refine awp_false (b := (decide (a6_2 ≠ 0))) (by kernel_rfl) (decide_eq_false c5) ?_
              refine awp_skip [1, 3, 6, 8, 10, 11, 12, 14, 15, 16, 60, 61, 62] [296, 28300, 28301, 28302, 28303, 28304] (S' := ⟨[(1, .I p1), (3, .P 28300), (6, .P 28301), (8, .P 28302), (10, .I a4_0), (11, .I a4_1), (12, .I xt12_41h), (14, .I ((a5.getD (Int.toNat xt62_41h) (0 : Int)))), (15, .P 296), (16, .B a6_1), (60, .cv (.own Tag.t_int 28303)), (61, .I (a5.length : Int)), (62, .I xt62_41h)], [(296, .raw [.I ((a6_0).Epoch), .I ((a6_0).Vote), .I ((a6_0).Commit), .ro Tag.t_api_Entry ((a6_0).Log)]), (28300, .raw [.own Tag.t_api_Replica 28304, .ro Tag.t_bool a3_0, .I p0.Leader, .I p0.Epoch]), (28301, .raw [.N, .N, .I 0, .I 0]), (28302, .raw [.I ((a2_0).Epoch), .I ((a2_0).Vote), .I ((a2_0).Commit), .ro Tag.t_api_Entry ((a2_0).Log)]), (28303, .lst Tag.t_int a5), (28304, .lst Tag.t_api_Replica xh28304_41h)]⟩) (by kernel_rfl) ?_
              refine awp_seq ?_
              refine awp_region L 304 [] [] [] [1, 3, 6, 8, 10, 11, 12, 16, 60, 61, 62] [28300, 28301, 28302, 28303, 28304] (cs := [(0 : Int) ≤ (a5.getD (Int.toNat xt62_41h) (0 : Int)), ((a5.getD (Int.toNat xt62_41h) (0 : Int)) : Int) < (xh28304_41h.length : Int), (Int.toNat ((a5.getD (Int.toNat xt62_41h) (0 : Int)))) < xh28304_41h.length, True]) (S' := ⟨[(1, .I p1), (3, .P 28300), (6, .P 28301), (8, .P 28302), (10, .I a4_0), (11, .I a4_1), (12, .I xt12_41h), (16, .B a6_1), (60, .cv (.own Tag.t_int 28303)), (61, .I (a5.length : Int)), (62, .I xt62_41h)], [(28300, .raw [.own Tag.t_api_Replica 28304, .ro Tag.t_bool a3_0, .I p0.Leader, .I p0.Epoch]), (28301, .raw [.N, .N, .I 0, .I 0]), (28302, .raw [.I ((a2_0).Epoch), .I ((a2_0).Vote), .I ((a2_0).Commit), .ro Tag.t_api_Entry ((a2_0).Log)]), (28303, .lst Tag.t_int a5), (28304, .lst Tag.t_api_Replica ((xh28304_41h.set ((Int.toNat ((a5.getD (Int.toNat xt62_41h) (0 : Int))))) ((⟨(a6_0).Epoch, (a6_0).Vote, (a6_0).Commit, (a6_0).Log⟩ : api_Replica)))))]⟩) (by kernel_rfl) (And.intro g7.1 (And.intro g7.2 (And.intro g8 trivial))) ?_
              refine awp_seq ?_
              refine awp_region L 311 [] [] [] [1, 3, 6, 8, 10, 11, 12, 60, 61, 62, 88] [28300, 28301, 28302, 28303, 28304] (cs := []) (S' := ⟨[(1, .I p1), (3, .P 28300), (6, .P 28301), (8, .P 28302), (10, .I a4_0), (11, .I a4_1), (12, .I xt12_41h), (60, .cv (.own Tag.t_int 28303)), (61, .I (a5.length : Int)), (62, .I xt62_41h), (88, .B a6_1)], [(28300, .raw [.own Tag.t_api_Replica 28304, .ro Tag.t_bool a3_0, .I p0.Leader, .I p0.Epoch]), (28301, .raw [.N, .N, .I 0, .I 0]), (28302, .raw [.I ((a2_0).Epoch), .I ((a2_0).Vote), .I ((a2_0).Commit), .ro Tag.t_api_Entry ((a2_0).Log)]), (28303, .lst Tag.t_int a5), (28304, .lst Tag.t_api_Replica ((xh28304_41h.set ((Int.toNat ((a5.getD (Int.toNat xt62_41h) (0 : Int))))) ((⟨(a6_0).Epoch, (a6_0).Vote, (a6_0).Commit, (a6_0).Log⟩ : api_Replica)))))]⟩) (by kernel_rfl) trivial ?_
              rcases ite_some h with ⟨c6, h⟩ | ⟨c6, h⟩
              · refine awp_true (b := a6_1) (by kernel_rfl) (c6) ?_
                refine awp_region L 313 [] [] [] [1, 3, 6, 8, 10, 11, 12, 60, 61, 62] [28300, 28301, 28302, 28303, 28304] (cs := []) (S' := ⟨[(1, .I p1), (3, .P 28300), (6, .P 28301), (8, .P 28302), (10, .I a4_0), (11, .I a4_1), (12, .I ((IntKind.i64.wrap (xt12_41h + 1)))), (60, .cv (.own Tag.t_int 28303)), (61, .I (a5.length : Int)), (62, .I xt62_41h)], [(28300, .raw [.own Tag.t_api_Replica 28304, .ro Tag.t_bool a3_0, .I p0.Leader, .I p0.Epoch]), (28301, .raw [.N, .N, .I 0, .I 0]), (28302, .raw [.I ((a2_0).Epoch), .I ((a2_0).Vote), .I ((a2_0).Commit), .ro Tag.t_api_Entry ((a2_0).Log)]), (28303, .lst Tag.t_int a5), (28304, .lst Tag.t_api_Replica ((xh28304_41h.set ((Int.toNat ((a5.getD (Int.toNat xt62_41h) (0 : Int))))) ((⟨(a6_0).Epoch, (a6_0).Vote, (a6_0).Commit, (a6_0).Log⟩ : api_Replica)))))]⟩) (by kernel_rfl) trivial ?_
                refine awp_region L 317 [] [] [] [1, 3, 6, 8, 10, 11, 12, 60, 61, 62] [28300, 28301, 28302, 28303, 28304] (cs := []) (S' := ⟨[(1, .I p1), (3, .P 28300), (6, .P 28301), (8, .P 28302), (10, .I a4_0), (11, .I a4_1), (12, .I ((IntKind.i64.wrap (xt12_41h + 1)))), (60, .cv (.own Tag.t_int 28303)), (61, .I (a5.length : Int)), (62, .I ((IntKind.i64.wrap (xt62_41h + 1))))], [(28300, .raw [.own Tag.t_api_Replica 28304, .ro Tag.t_bool a3_0, .I p0.Leader, .I p0.Epoch]), (28301, .raw [.N, .N, .I 0, .I 0]), (28302, .raw [.I ((a2_0).Epoch), .I ((a2_0).Vote), .I ((a2_0).Commit), .ro Tag.t_api_Entry ((a2_0).Log)]), (28303, .lst Tag.t_int a5), (28304, .lst Tag.t_api_Replica ((xh28304_41h.set ((Int.toNat ((a5.getD (Int.toNat xt62_41h) (0 : Int))))) ((⟨(a6_0).Epoch, (a6_0).Vote, (a6_0).Commit, (a6_0).Log⟩ : api_Replica)))))]⟩) (by kernel_rfl) trivial ?_
                exact ⟨k, Nat.lt_succ_self k, _, _, _, rfl, h⟩
              · refine awp_false (b := a6_1) (by kernel_rfl) (eq_false_of_ne_true c6) ?_
                refine awp_skip [1, 3, 6, 8, 10, 11, 12, 60, 61, 62] [28300, 28301, 28302, 28303, 28304] (S' := ⟨[(1, .I p1), (3, .P 28300), (6, .P 28301), (8, .P 28302), (10, .I a4_0), (11, .I a4_1), (12, .I xt12_41h), (60, .cv (.own Tag.t_int 28303)), (61, .I (a5.length : Int)), (62, .I xt62_41h)], [(28300, .raw [.own Tag.t_api_Replica 28304, .ro Tag.t_bool a3_0, .I p0.Leader, .I p0.Epoch]), (28301, .raw [.N, .N, .I 0, .I 0]), (28302, .raw [.I ((a2_0).Epoch), .I ((a2_0).Vote), .I ((a2_0).Commit), .ro Tag.t_api_Entry ((a2_0).Log)]), (28303, .lst Tag.t_int a5), (28304, .lst Tag.t_api_Replica ((xh28304_41h.set ((Int.toNat ((a5.getD (Int.toNat xt62_41h) (0 : Int))))) ((⟨(a6_0).Epoch, (a6_0).Vote, (a6_0).Commit, (a6_0).Log⟩ : api_Replica)))))]⟩) (by kernel_rfl) ?_
                refine awp_region L 317 [] [] [] [1, 3, 6, 8, 10, 11, 12, 60, 61, 62] [28300, 28301, 28302, 28303, 28304] (cs := []) (S' := ⟨[(1, .I p1), (3, .P 28300), (6, .P 28301), (8, .P 28302), (10, .I a4_0), (11, .I a4_1), (12, .I xt12_41h), (60, .cv (.own Tag.t_int 28303)), (61, .I (a5.length : Int)), (62, .I ((IntKind.i64.wrap (xt62_41h + 1))))], [(28300, .raw [.own Tag.t_api_Replica 28304, .ro Tag.t_bool a3_0, .I p0.Leader, .I p0.Epoch]), (28301, .raw [.N, .N, .I 0, .I 0]), (28302, .raw [.I ((a2_0).Epoch), .I ((a2_0).Vote), .I ((a2_0).Commit), .ro Tag.t_api_Entry ((a2_0).Log)]), (28303, .lst Tag.t_int a5), (28304, .lst Tag.t_api_Replica ((xh28304_41h.set ((Int.toNat ((a5.getD (Int.toNat xt62_41h) (0 : Int))))) ((⟨(a6_0).Epoch, (a6_0).Vote, (a6_0).Commit, (a6_0).Log⟩ : api_Replica)))))]⟩) (by kernel_rfl) trivial ?_
                exact ⟨k, Nat.lt_succ_self k, _, _, _, rfl, h⟩
          · refine awp_false (b := (decide (xt62_41h < (a5.length : Int)))) (by kernel_rfl) (decide_eq_false c4) ?_
            refine awp_turn (Turns.trans (Turns.keep [1, 3, 6, 8, 12] [28300, 28301, 28302, 28304] (S' := ⟨[(1, .I p1), (3, .P 28300), (6, .P 28301), (8, .P 28302), (12, .I xt12_41h)], [(28300, .raw [.own Tag.t_api_Replica 28304, .ro Tag.t_bool a3_0, .I p0.Leader, .I p0.Epoch]), (28301, .raw [.N, .N, .I 0, .I 0]), (28302, .raw [.I ((a2_0).Epoch), .I ((a2_0).Vote), .I ((a2_0).Commit), .ro Tag.t_api_Entry ((a2_0).Log)]), (28304, .lst Tag.t_api_Replica xh28304_41h)]⟩) (by kernel_rfl)) (Turns.ren [(28300, 28200), (28301, 28201), (28302, 28202), (28304, 28203)] (S' := ⟨[(1, .I p1), (3, .P 28200), (6, .P 28201), (8, .P 28202), (12, .I xt12_41h)], [(28200, .raw [.own Tag.t_api_Replica 28203, .ro Tag.t_bool a3_0, .I p0.Leader, .I p0.Epoch]), (28201, .raw [.N, .N, .I 0, .I 0]), (28202, .raw [.I ((a2_0).Epoch), .I ((a2_0).Vote), .I ((a2_0).Commit), .ro Tag.t_api_Entry ((a2_0).Log)]), (28203, .lst Tag.t_api_Replica xh28304_41h)]⟩) (by kernel_rfl) (by kernel_rfl))) ?_
            refine awp_exit [1, 3, 6, 8, 12] [28200, 28201, 28202, 28203] (S' := ⟨[(1, .I p1), (3, .P 28200), (6, .P 28201), (8, .P 28202), (12, .I xt12_41h)], [(28200, .raw [.own Tag.t_api_Replica 28203, .ro Tag.t_bool a3_0, .I p0.Leader, .I p0.Epoch]), (28201, .raw [.N, .N, .I 0, .I 0]), (28202, .raw [.I ((a2_0).Epoch), .I ((a2_0).Vote), .I ((a2_0).Commit), .ro Tag.t_api_Entry ((a2_0).Log)]), (28203, .lst Tag.t_api_Replica xh28304_41h)]⟩) (by kernel_rfl) ?_
            have hr := Option.some.inj h
            subst hr
            exact ⟨rfl, _, _, rfl, rfl⟩
        · rintro e S ⟨rfl, xt12_41, xh28203_41, rfl, rfl⟩
          dsimp only at h
          refine ⟨_, Turns.refl, ?_⟩
          refine awp_seq ?_
          refine awp_seq ?_
          obtain ⟨a7, h7, h⟩ := bind_some h
          refine awp_region L 320 [] [(4, .B a7)] [] [1, 3, 6, 8, 97] [28200, 28201, 28202, 28203] (cs := [PCall V P 34 [.I xt12_41, .I (xh28203_41.length : Int)] (.B a7), True]) (S' := ⟨[(1, .I p1), (3, .P 28200), (6, .P 28201), (8, .P 28202), (97, .B (!a7))], [(28200, .raw [.own Tag.t_api_Replica 28203, .ro Tag.t_bool a3_0, .I p0.Leader, .I p0.Epoch]), (28201, .raw [.N, .N, .I 0, .I 0]), (28202, .raw [.I ((a2_0).Epoch), .I ((a2_0).Vote), .I ((a2_0).Commit), .ro Tag.t_api_Entry ((a2_0).Log)]), (28203, .lst Tag.t_api_Replica xh28203_41)]⟩) (by kernel_rfl) (And.intro (quorum_Won.ok h7) trivial) ?_
          rcases ite_some h with ⟨c7, h⟩ | ⟨c7, h⟩
          · refine awp_false (b := (!a7)) (by kernel_rfl) (congrArg Bool.not (c7)) ?_
            refine awp_skip [1, 3, 6, 8] [28200, 28201, 28202, 28203] (S' := ⟨[(1, .I p1), (3, .P 28200), (6, .P 28201), (8, .P 28202)], [(28200, .raw [.own Tag.t_api_Replica 28203, .ro Tag.t_bool a3_0, .I p0.Leader, .I p0.Epoch]), (28201, .raw [.N, .N, .I 0, .I 0]), (28202, .raw [.I ((a2_0).Epoch), .I ((a2_0).Vote), .I ((a2_0).Commit), .ro Tag.t_api_Entry ((a2_0).Log)]), (28203, .lst Tag.t_api_Replica xh28203_41)]⟩) (by kernel_rfl) ?_
            refine awp_seq ?_
            refine awp_drawA L mixed 331 [] [] [] [] 0 10 [3, 6] [28200, 28201, 28203] (cs := []) (S' := ⟨[(3, .P 28200), (6, .P 28201)], [(28200, .raw [.own Tag.t_api_Replica 28203, .ro Tag.t_bool a3_0, .I p1, .I ((a2_0).Epoch)]), (28201, .raw [.N, .N, .I 0, .I 0]), (28203, .lst Tag.t_api_Replica xh28203_41)]⟩) (by kernel_rfl) trivial ?_
            refine awp_seq ?_
            refine awp_region L 339 [] [] [] [6, 7] [28201, 28203] (cs := []) (S' := ⟨[(6, .P 28201), (7, .I 0)], [(28201, .raw [.own Tag.t_api_Replica 28203, .ro Tag.t_bool a3_0, .I p1, .I ((a2_0).Epoch)]), (28203, .lst Tag.t_api_Replica xh28203_41)]⟩) (by kernel_rfl) trivial ?_
            refine awp_turn (Turns.trans (Turns.keep [6, 7] [28201, 28203] (S' := ⟨[(6, .P 28201), (7, .I 0)], [(28201, .raw [.own Tag.t_api_Replica 28203, .ro Tag.t_bool a3_0, .I p1, .I ((a2_0).Epoch)]), (28203, .lst Tag.t_api_Replica xh28203_41)]⟩) (by kernel_rfl)) (Turns.trans (Turns.frz 28203 (blk0 := .lst Tag.t_api_Replica xh28203_41) (by kernel_rfl) (by kernel_rfl) (S' := ⟨[(6, .P 28201), (7, .I 0)], [(28201, .raw [.ro Tag.t_api_Replica xh28203_41, .ro Tag.t_bool a3_0, .I p1, .I ((a2_0).Epoch)])]⟩) (by kernel_rfl)) (Turns.trans (Turns.keep [6, 7] [28201] (S' := ⟨[(6, .P 28201), (7, .I 0)], [(28201, .raw [.ro Tag.t_api_Replica xh28203_41, .ro Tag.t_bool a3_0, .I p1, .I ((a2_0).Epoch)])]⟩) (by kernel_rfl)) (Turns.ren [(28201, 100)] (S' := ⟨[(6, .P 100), (7, .I 0)], [(100, .raw [.ro Tag.t_api_Replica xh28203_41, .ro Tag.t_bool a3_0, .I p1, .I ((a2_0).Epoch)])]⟩) (by kernel_rfl) (by kernel_rfl))))) ?_
            refine awp_ret ?_
            have hr := Option.some.inj h
            subst hr
            exact ⟨.inr rfl, .tup [.agg [.ro Tag.t_api_Replica xh28203_41, .ro Tag.t_bool a3_0, .I p1, .I ((a2_0).Epoch)], .I 0], by kernel_rfl, by kernel_rfl, by kernel_rfl⟩
          · refine awp_true (b := (!a7)) (by kernel_rfl) (congrArg Bool.not (eq_false_of_ne_true c7)) ?_
            refine awp_seq ?_
            refine awp_region L 327 [] [] [] [6, 7] [28201, 28203] (cs := []) (S' := ⟨[(6, .P 28201), (7, .I 27)], [(28201, .raw [.own Tag.t_api_Replica 28203, .ro Tag.t_bool a3_0, .I p0.Leader, .I p0.Epoch]), (28203, .lst Tag.t_api_Replica xh28203_41)]⟩) (by kernel_rfl) trivial ?_
            refine awp_turn (Turns.trans (Turns.keep [6, 7] [28201, 28203] (S' := ⟨[(6, .P 28201), (7, .I 27)], [(28201, .raw [.own Tag.t_api_Replica 28203, .ro Tag.t_bool a3_0, .I p0.Leader, .I p0.Epoch]), (28203, .lst Tag.t_api_Replica xh28203_41)]⟩) (by kernel_rfl)) (Turns.trans (Turns.frz 28203 (blk0 := .lst Tag.t_api_Replica xh28203_41) (by kernel_rfl) (by kernel_rfl) (S' := ⟨[(6, .P 28201), (7, .I 27)], [(28201, .raw [.ro Tag.t_api_Replica xh28203_41, .ro Tag.t_bool a3_0, .I p0.Leader, .I p0.Epoch])]⟩) (by kernel_rfl)) (Turns.trans (Turns.keep [6, 7] [28201] (S' := ⟨[(6, .P 28201), (7, .I 27)], [(28201, .raw [.ro Tag.t_api_Replica xh28203_41, .ro Tag.t_bool a3_0, .I p0.Leader, .I p0.Epoch])]⟩) (by kernel_rfl)) (Turns.ren [(28201, 100)] (S' := ⟨[(6, .P 100), (7, .I 27)], [(100, .raw [.ro Tag.t_api_Replica xh28203_41, .ro Tag.t_bool a3_0, .I p0.Leader, .I p0.Epoch])]⟩) (by kernel_rfl) (by kernel_rfl))))) ?_
            refine awp_ret ?_
            have hr := Option.some.inj h
            subst hr
            exact ⟨.inr rfl, .tup [.agg [.ro Tag.t_api_Replica xh28203_41, .ro Tag.t_bool a3_0, .I p0.Leader, .I p0.Epoch], .I 27], by kernel_rfl, by kernel_rfl, by kernel_rfl⟩
    · refine awp_true (b := (!((p0.Up.getD (Int.toNat p1) false)))) (by kernel_rfl) (congrArg Bool.not (eq_false_of_ne_true c2)) ?_
      refine awp_seq ?_
      refine awp_region L 221 [] [] [] [6, 7] [201] (cs := []) (S' := ⟨[(6, .P 201), (7, .I 28)], [(201, .raw [.N, .N, .I 0, .I 0])]⟩) (by kernel_rfl) trivial ?_
      refine awp_turn (Turns.trans (Turns.keep [6, 7] [201] (S' := ⟨[(6, .P 201), (7, .I 28)], [(201, .raw [.N, .N, .I 0, .I 0])]⟩) (by kernel_rfl)) (Turns.ren [(201, 100)] (S' := ⟨[(6, .P 100), (7, .I 28)], [(100, .raw [.N, .N, .I 0, .I 0])]⟩) (by kernel_rfl) (by kernel_rfl))) ?_
      refine awp_ret ?_
      have hr := Option.some.inj h
      subst hr
      exact ⟨.inr rfl, .tup [.agg [.N, .N, .I 0, .I 0], .I 28], by kernel_rfl, by kernel_rfl, by kernel_rfl⟩
  · refine awp_true (b := (!a1)) (by kernel_rfl) (congrArg Bool.not (eq_false_of_ne_true c1)) ?_
    refine awp_seq ?_
    refine awp_region L 210 [] [] [] [6, 7] [201] (cs := []) (S' := ⟨[(6, .P 201), (7, .I 2)], [(201, .raw [.N, .N, .I 0, .I 0])]⟩) (by kernel_rfl) trivial ?_
    refine awp_turn (Turns.trans (Turns.keep [6, 7] [201] (S' := ⟨[(6, .P 201), (7, .I 2)], [(201, .raw [.N, .N, .I 0, .I 0])]⟩) (by kernel_rfl)) (Turns.ren [(201, 100)] (S' := ⟨[(6, .P 100), (7, .I 2)], [(100, .raw [.N, .N, .I 0, .I 0])]⟩) (by kernel_rfl) (by kernel_rfl))) ?_
    refine awp_ret ?_
    have hr := Option.some.inj h
    subst hr
    exact ⟨.inr rfl, .tup [.agg [.N, .N, .I 0, .I 0], .I 2], by kernel_rfl, by kernel_rfl, by kernel_rfl⟩

theorem group_Elect.okE {K : Nat} {p0 : group_Group} {p1 : Int} {p2 : List Int} {r : group_Group × Int} (h : group_Elect K p0 p1 p2 = some r) : ECall V P 17 [.agg [.ro Tag.t_api_Replica p0.Replicas, .ro Tag.t_bool p0.Up, .I p0.Leader, .I p0.Epoch], .I p1, .cv (.ro Tag.t_int p2)] [] [] (.tup [.agg [.ro Tag.t_api_Replica ((r.1).Replicas), .ro Tag.t_bool ((r.1).Up), .I ((r.1).Leader), .I ((r.1).Epoch)], .I r.2]) [] :=
  ecall_of (fn := Try.f17) (n := 105) (m := 100) (by kernel_rfl) (by kernel_rfl) (by kernel_rfl) rfl (by kernel_rfl) (by kernel_rfl) fun Γ => group_Elect.body h

theorem group_Elect.ok {K : Nat} {p0 : group_Group} {p1 : Int} {p2 : List Int} {r : group_Group × Int} (h : group_Elect K p0 p1 p2 = some r) : PCall V P 17 [.agg [.ro Tag.t_api_Replica p0.Replicas, .ro Tag.t_bool p0.Up, .I p0.Leader, .I p0.Epoch], .I p1, .cv (.ro Tag.t_int p2)] (.tup [.agg [.ro Tag.t_api_Replica ((r.1).Replicas), .ro Tag.t_bool ((r.1).Up), .I ((r.1).Leader), .I ((r.1).Epoch)], .I r.2]) := (group_Elect.okE h).pcall (by kernel_rfl)

def group_Group_leads_c1 (K : Nat) (p0 : Int) (p1 : group_Group) (p2 : Int) : Option Bool := (if (0 : Int) ≤ p0 ∧ (p0 : Int) < (p1.Replicas.length : Int) then some ((decide (((p1.Replicas.getD (Int.toNat p0) z_api_Replica)).Epoch > p2))) else none)

theorem group_Group_leads_c1.body {Γ : Ent} {K : Nat} {p0 : Int} {p1 : group_Group} {p2 : Int} {r : Bool} (h : group_Group_leads_c1 K p0 p1 p2 = some r) : AWp V P 13 100 Γ (Try.f55.body.getD .skip) (EndsE P V Try.f55 (.B r) []) ⟨args0 0 [.I p0, .cv (.pcs [.ro Tag.t_api_Replica p1.Replicas, .ro Tag.t_bool p1.Up, .I p1.Leader, .I p1.Epoch] 0), .cv (.pcs [.I p2] 0)], []⟩ := by
  unfold group_Group_leads_c1 at h
  refine awp_seq ?_
  refine awp_region L 200 [] [] [] [0, 1, 2] [] (cs := []) (S' := ⟨[(0, .I p0), (1, .cv (.pcs [.ro Tag.t_api_Replica p1.Replicas, .ro Tag.t_bool p1.Up, .I p1.Leader, .I p1.Epoch] 0)), (2, .cv (.pcs [.I p2] 0))], []⟩) (by kernel_rfl) trivial ?_
  refine awp_seq ?_
  obtain ⟨g1, h⟩ := guard_some h
  refine awp_draw L mixed 202 [] [] [] [] 9 [4] [] (cs := [(0 : Int) ≤ p0, (p0 : Int) < (p1.Replicas.length : Int)]) (S' := ⟨[(4, .B ((decide (((p1.Replicas.getD (Int.toNat p0) z_api_Replica)).Epoch > p2))))], []⟩) (by kernel_rfl) (And.intro g1.1 g1.2) ?_
  refine awp_ret ?_
  have hr := Option.some.inj h
  subst hr
  exact ⟨.inr rfl, .B ((decide (((p1.Replicas.getD (Int.toNat p0) z_api_Replica)).Epoch > p2))), by kernel_rfl, by kernel_rfl, by kernel_rfl⟩

theorem group_Group_leads_c1.okE {K : Nat} {p0 : Int} {p1 : group_Group} {p2 : Int} {r : Bool} (h : group_Group_leads_c1 K p0 p1 p2 = some r) : ECall V P 55 [.I p0, .cv (.pcs [.ro Tag.t_api_Replica p1.Replicas, .ro Tag.t_bool p1.Up, .I p1.Leader, .I p1.Epoch] 0), .cv (.pcs [.I p2] 0)] [] [] (.B r) [] :=
  ecall_of (fn := Try.f55) (n := 13) (m := 100) (by kernel_rfl) (by kernel_rfl) (by kernel_rfl) rfl (by kernel_rfl) (by kernel_rfl) fun Γ => group_Group_leads_c1.body h

theorem group_Group_leads_c1.ok {K : Nat} {p0 : Int} {p1 : group_Group} {p2 : Int} {r : Bool} (h : group_Group_leads_c1 K p0 p1 p2 = some r) : PCall V P 55 [.I p0, .cv (.pcs [.ro Tag.t_api_Replica p1.Replicas, .ro Tag.t_bool p1.Up, .I p1.Leader, .I p1.Epoch] 0), .cv (.pcs [.I p2] 0)] (.B r) := (group_Group_leads_c1.okE h).pcall (by kernel_rfl)

def slices_IndexFunc_62_v2.l7 (K : Nat) (p0 : List Int) (p1 : group_Group) (p2 : Int) : Nat → Int → Option (Out Int Unit)
  | 0, _ => none
  | k + 1, xt8_7h => (if xt8_7h < (p0.length : Int) then (if (0 : Int) ≤ xt8_7h ∧ (xt8_7h : Int) < (p0.length : Int) then (Option.bind (group_Group_leads_c1 K ((p0.getD (Int.toNat xt8_7h) (0 : Int))) p1 p2) (fun a1 => (if a1 = true then some (Out.done xt8_7h) else slices_IndexFunc_62_v2.l7 K p0 p1 p2 k ((IntKind.i64.wrap (xt8_7h + 1)))))) else none) else some (Out.go ()))

def slices_IndexFunc_62_v2 (K : Nat) (p0 : List Int) (p1 : group_Group) (p2 : Int) : Option Int := (obind (slices_IndexFunc_62_v2.l7 K p0 p1 p2 K 0 : Option (Out Int Unit)) (fun r => r) (fun _ => some (-1)))

theorem slices_IndexFunc_62_v2.body {Γ : Ent} {K : Nat} {p0 : List Int} {p1 : group_Group} {p2 : Int} {r : Int} (h : slices_IndexFunc_62_v2 K p0 p1 p2 = some r) : AWp V P 19 100 Γ (Try.f62.body.getD .skip) (EndsE P V Try.f62 (.I r) []) ⟨args0 0 [.cv (.ro Tag.t_int p0), .cv (.fn (.func 55) [] [.pcs [.ro Tag.t_api_Replica p1.Replicas, .ro Tag.t_bool p1.Up, .I p1.Leader, .I p1.Epoch] 0, .pcs [.I p2] 0])], []⟩ := by
  unfold slices_IndexFunc_62_v2 at h
  refine awp_seq ?_
  refine awp_region L 200 [] [] [] [0, 1] [] (cs := []) (S' := ⟨[(0, .cv (.ro Tag.t_int p0)), (1, .cv (.fn (.func 55) [] [.pcs [.ro Tag.t_api_Replica p1.Replicas, .ro Tag.t_bool p1.Up, .I p1.Leader, .I p1.Epoch] 0, .pcs [.I p2] 0]))], []⟩) (by kernel_rfl) trivial ?_
  refine awp_seq ?_
  refine awp_seq ?_
  refine awp_region L 202 [] [] [] [0, 1, 7, 8] [] (cs := []) (S' := ⟨[(0, .cv (.ro Tag.t_int p0)), (1, .cv (.fn (.func 55) [] [.pcs [.ro Tag.t_api_Replica p1.Replicas, .ro Tag.t_bool p1.Up, .I p1.Leader, .I p1.Epoch] 0, .pcs [.I p2] 0])), (7, .I (p0.length : Int)), (8, .I 0)], []⟩) (by kernel_rfl) trivial ?_
  refine awp_block ?_
  refine awp_keep (ts := [0, 1, 7, 8]) (ids := []) (S' := ⟨[(0, .cv (.ro Tag.t_int p0)), (1, .cv (.fn (.func 55) [] [.pcs [.ro Tag.t_api_Replica p1.Replicas, .ro Tag.t_bool p1.Up, .I p1.Leader, .I p1.Epoch] 0, .pcs [.I p2] 0])), (7, .I (p0.length : Int)), (8, .I 0)], []⟩) (by kernel_rfl) ?_
  obtain ⟨o1, hp1, h⟩ := obind_some h
  refine awp_conseq (Q' := fun e S => (e = .exit 0 ∧ S = ⟨[], []⟩ ∧ Out.go () = o1) ∨ (e = .ret ∧ ∃ a, Out.done a = o1 ∧ EndsE P V Try.f62 (.I a) [] .ret S)) (awp_loop (fun k S => ∃ xt8_7h : Int, S = ⟨[(0, .cv (.ro Tag.t_int p0)), (1, .cv (.fn (.func 55) [] [.pcs [.ro Tag.t_api_Replica p1.Replicas, .ro Tag.t_bool p1.Up, .I p1.Leader, .I p1.Epoch] 0, .pcs [.I p2] 0])), (7, .I (p0.length : Int)), (8, .I xt8_7h)], []⟩ ∧ slices_IndexFunc_62_v2.l7 K p0 p1 p2 k xt8_7h = some o1) ?_ ⟨_, rfl, hp1⟩) ?_
  · clear h hp1
    intro k S hS
    obtain ⟨xt8_7h, rfl, h⟩ := hS
    cases k with
    | zero => cases h
    | succ k =>
    unfold slices_IndexFunc_62_v2.l7 at h
    refine awp_seq ?_
    refine awp_region L 206 [] [] [] [0, 1, 7, 8, 9] [] (cs := []) (S' := ⟨[(0, .cv (.ro Tag.t_int p0)), (1, .cv (.fn (.func 55) [] [.pcs [.ro Tag.t_api_Replica p1.Replicas, .ro Tag.t_bool p1.Up, .I p1.Leader, .I p1.Epoch] 0, .pcs [.I p2] 0])), (7, .I (p0.length : Int)), (8, .I xt8_7h), (9, .B ((decide (xt8_7h < (p0.length : Int)))))], []⟩) (by kernel_rfl) trivial ?_
    refine awp_seq ?_
    rcases ite_some h with ⟨c1, h⟩ | ⟨c1, h⟩
    · refine awp_true (b := (decide (xt8_7h < (p0.length : Int)))) (by kernel_rfl) (decide_eq_true c1) ?_
      refine awp_skip [0, 1, 7, 8] [] (S' := ⟨[(0, .cv (.ro Tag.t_int p0)), (1, .cv (.fn (.func 55) [] [.pcs [.ro Tag.t_api_Replica p1.Replicas, .ro Tag.t_bool p1.Up, .I p1.Leader, .I p1.Epoch] 0, .pcs [.I p2] 0])), (7, .I (p0.length : Int)), (8, .I xt8_7h)], []⟩) (by kernel_rfl) ?_
      refine awp_seq ?_
      refine awp_block ?_
      refine awp_seq ?_
      refine awp_region L 208 [] [] [] [0, 1, 5, 7, 8] [] (cs := []) (S' := ⟨[(0, .cv (.ro Tag.t_int p0)), (1, .cv (.fn (.func 55) [] [.pcs [.ro Tag.t_api_Replica p1.Replicas, .ro Tag.t_bool p1.Up, .I p1.Leader, .I p1.Epoch] 0, .pcs [.I p2] 0])), (5, .I xt8_7h), (7, .I (p0.length : Int)), (8, .I xt8_7h)], []⟩) (by kernel_rfl) trivial ?_
      refine awp_seq ?_
      obtain ⟨g1, h⟩ := guard_some h
      obtain ⟨a1, h1, h⟩ := bind_some h
      refine awp_region L 211 [] [(5, .B a1)] [] [0, 1, 5, 7, 8, 16] [] (cs := [(0 : Int) ≤ xt8_7h, (xt8_7h : Int) < (p0.length : Int), PCall V P 55 [.I ((p0.getD (Int.toNat xt8_7h) (0 : Int))), .cv (.pcs [.ro Tag.t_api_Replica p1.Replicas, .ro Tag.t_bool p1.Up, .I p1.Leader, .I p1.Epoch] 0), .cv (.pcs [.I p2] 0)] (.B a1), True]) (S' := ⟨[(0, .cv (.ro Tag.t_int p0)), (1, .cv (.fn (.func 55) [] [.pcs [.ro Tag.t_api_Replica p1.Replicas, .ro Tag.t_bool p1.Up, .I p1.Leader, .I p1.Epoch] 0, .pcs [.I p2] 0])), (5, .I xt8_7h), (7, .I (p0.length : Int)), (8, .I xt8_7h), (16, .B a1)], []⟩) (by kernel_rfl) (And.intro g1.1 (And.intro g1.2 (And.intro (group_Group_leads_c1.ok h1) trivial))) ?_
      rcases ite_some h with ⟨c2, h⟩ | ⟨c2, h⟩
      · refine awp_true (b := a1) (by kernel_rfl) (c2) ?_
        refine awp_seq ?_
        refine awp_region L 218 [] [] [] [4] [] (cs := []) (S' := ⟨[(4, .I xt8_7h)], []⟩) (by kernel_rfl) trivial ?_
        refine awp_ret ?_
        have hr := Option.some.inj h
        subst hr
        exact .inr ⟨rfl, _, rfl, ⟨.inr rfl, .I xt8_7h, by kernel_rfl, by kernel_rfl, by kernel_rfl⟩⟩
      · refine awp_false (b := a1) (by kernel_rfl) (eq_false_of_ne_true c2) ?_
        refine awp_skip [0, 1, 7, 8] [] (S' := ⟨[(0, .cv (.ro Tag.t_int p0)), (1, .cv (.fn (.func 55) [] [.pcs [.ro Tag.t_api_Replica p1.Replicas, .ro Tag.t_bool p1.Up, .I p1.Leader, .I p1.Epoch] 0, .pcs [.I p2] 0])), (7, .I (p0.length : Int)), (8, .I xt8_7h)], []⟩) (by kernel_rfl) ?_
        refine awp_region L 221 [] [] [] [0, 1, 7, 8] [] (cs := []) (S' := ⟨[(0, .cv (.ro Tag.t_int p0)), (1, .cv (.fn (.func 55) [] [.pcs [.ro Tag.t_api_Replica p1.Replicas, .ro Tag.t_bool p1.Up, .I p1.Leader, .I p1.Epoch] 0, .pcs [.I p2] 0])), (7, .I (p0.length : Int)), (8, .I ((IntKind.i64.wrap (xt8_7h + 1))))], []⟩) (by kernel_rfl) trivial ?_
        exact ⟨k, Nat.lt_succ_self k, _, rfl, h⟩
    · refine awp_false (b := (decide (xt8_7h < (p0.length : Int)))) (by kernel_rfl) (decide_eq_false c1) ?_
      refine awp_exit [] [] (S' := ⟨[], []⟩) (by kernel_rfl) ?_
      have hr := Option.some.inj h
      subst hr
      exact .inl ⟨rfl, rfl, rfl⟩
  · rintro e S (⟨rfl, rfl, rfl⟩ | ⟨rfl, a, rfl, hr⟩)
    · rcases h with ⟨_, e1, h⟩ | ⟨_, e1, h⟩
      · cases e1
      · have e2 := Out.go.inj e1
        subst e2
        refine ⟨_, Turns.refl, ?_⟩
        refine awp_seq ?_
        refine awp_region L 224 [] [] [] [4] [] (cs := []) (S' := ⟨[(4, .I (-1))], []⟩) (by kernel_rfl) trivial ?_
        refine awp_ret ?_
        have hr := Option.some.inj h
        subst hr
        exact ⟨.inr rfl, .I (-1), by kernel_rfl, by kernel_rfl, by kernel_rfl⟩
    · rcases h with ⟨_, e1, h⟩ | ⟨_, e1, h⟩
      · have e2 := Out.done.inj e1
        subst e2
        subst h
        exact ⟨_, Turns.refl, hr⟩
      · cases e1

theorem slices_IndexFunc_62_v2.okE {K : Nat} {p0 : List Int} {p1 : group_Group} {p2 : Int} {r : Int} (h : slices_IndexFunc_62_v2 K p0 p1 p2 = some r) : ECall V P 62 [.cv (.ro Tag.t_int p0), .cv (.fn (.func 55) [] [.pcs [.ro Tag.t_api_Replica p1.Replicas, .ro Tag.t_bool p1.Up, .I p1.Leader, .I p1.Epoch] 0, .pcs [.I p2] 0])] [] [] (.I r) [] :=
  ecall_of (fn := Try.f62) (n := 19) (m := 100) (by kernel_rfl) (by kernel_rfl) (by kernel_rfl) rfl (by kernel_rfl) (by kernel_rfl) fun Γ => slices_IndexFunc_62_v2.body h

theorem slices_IndexFunc_62_v2.ok {K : Nat} {p0 : List Int} {p1 : group_Group} {p2 : Int} {r : Int} (h : slices_IndexFunc_62_v2 K p0 p1 p2 = some r) : PCall V P 62 [.cv (.ro Tag.t_int p0), .cv (.fn (.func 55) [] [.pcs [.ro Tag.t_api_Replica p1.Replicas, .ro Tag.t_bool p1.Up, .I p1.Leader, .I p1.Epoch] 0, .pcs [.I p2] 0])] (.I r) := (slices_IndexFunc_62_v2.okE h).pcall (by kernel_rfl)

def slices_ContainsFunc_43_v2 (K : Nat) (p0 : List Int) (p1 : group_Group) (p2 : Int) : Option Bool := (Option.bind (slices_IndexFunc_62_v2 K p0 p1 p2) (fun a1 => some ((decide (a1 ≥ 0)))))

theorem slices_ContainsFunc_43_v2.body {Γ : Ent} {K : Nat} {p0 : List Int} {p1 : group_Group} {p2 : Int} {r : Bool} (h : slices_ContainsFunc_43_v2 K p0 p1 p2 = some r) : AWp V P 9 100 Γ (Try.f43.body.getD .skip) (EndsE P V Try.f43 (.B r) []) ⟨args0 0 [.cv (.ro Tag.t_int p0), .cv (.fn (.func 55) [] [.pcs [.ro Tag.t_api_Replica p1.Replicas, .ro Tag.t_bool p1.Up, .I p1.Leader, .I p1.Epoch] 0, .pcs [.I p2] 0])], []⟩ := by
  unfold slices_ContainsFunc_43_v2 at h
  refine awp_seq ?_
  refine awp_region L 200 [] [] [] [0, 1] [] (cs := []) (S' := ⟨[(0, .cv (.ro Tag.t_int p0)), (1, .cv (.fn (.func 55) [] [.pcs [.ro Tag.t_api_Replica p1.Replicas, .ro Tag.t_bool p1.Up, .I p1.Leader, .I p1.Epoch] 0, .pcs [.I p2] 0]))], []⟩) (by kernel_rfl) trivial ?_
  refine awp_seq ?_
  obtain ⟨a1, h1, h⟩ := bind_some h
  refine awp_region L 202 [] [(2, .I a1)] [] [4] [] (cs := [PCall V P 62 [.cv (.ro Tag.t_int p0), .cv (.fn (.func 55) [] [.pcs [.ro Tag.t_api_Replica p1.Replicas, .ro Tag.t_bool p1.Up, .I p1.Leader, .I p1.Epoch] 0, .pcs [.I p2] 0])] (.I a1), True]) (S' := ⟨[(4, .B ((decide (a1 ≥ 0))))], []⟩) (by kernel_rfl) (And.intro (slices_IndexFunc_62_v2.ok h1) trivial) ?_
  refine awp_ret ?_
  have hr := Option.some.inj h
  subst hr
  exact ⟨.inr rfl, .B ((decide (a1 ≥ 0))), by kernel_rfl, by kernel_rfl, by kernel_rfl⟩

theorem slices_ContainsFunc_43_v2.okE {K : Nat} {p0 : List Int} {p1 : group_Group} {p2 : Int} {r : Bool} (h : slices_ContainsFunc_43_v2 K p0 p1 p2 = some r) : ECall V P 43 [.cv (.ro Tag.t_int p0), .cv (.fn (.func 55) [] [.pcs [.ro Tag.t_api_Replica p1.Replicas, .ro Tag.t_bool p1.Up, .I p1.Leader, .I p1.Epoch] 0, .pcs [.I p2] 0])] [] [] (.B r) [] :=
  ecall_of (fn := Try.f43) (n := 9) (m := 100) (by kernel_rfl) (by kernel_rfl) (by kernel_rfl) rfl (by kernel_rfl) (by kernel_rfl) fun Γ => slices_ContainsFunc_43_v2.body h

theorem slices_ContainsFunc_43_v2.ok {K : Nat} {p0 : List Int} {p1 : group_Group} {p2 : Int} {r : Bool} (h : slices_ContainsFunc_43_v2 K p0 p1 p2 = some r) : PCall V P 43 [.cv (.ro Tag.t_int p0), .cv (.fn (.func 55) [] [.pcs [.ro Tag.t_api_Replica p1.Replicas, .ro Tag.t_bool p1.Up, .I p1.Leader, .I p1.Epoch] 0, .pcs [.I p2] 0])] (.B r) := (slices_ContainsFunc_43_v2.okE h).pcall (by kernel_rfl)

def group_Group_leads (K : Nat) (p0 : group_Group) (p1 : Int) (p2 : Int) (p3 : List Int) : Option Int := (Option.bind (group_Group_suits K p0 p1 p3) (fun a1 => (if a1 = true then (if (0 : Int) ≤ p1 ∧ (p1 : Int) < (p0.Up.length : Int) then (if ((p0.Up.getD (Int.toNat p1) false)) = true then (if p1 ≠ p0.Leader then some 25 else (if p2 ≠ p0.Epoch then some 25 else (if (p1 : Int) < (p0.Replicas.length : Int) then (if ((p0.Replicas.getD (Int.toNat p1) z_api_Replica)).Epoch ≠ p2 then some 25 else (Option.bind (group_Group_others K p0 p1 p3) (fun a2 => (Option.bind (slices_ContainsFunc_43_v2 K a2 p0 p2) (fun a3 => (if a3 = true then some 25 else some 0)))))) else none))) else some 28) else none) else some 2)))

theorem group_Group_leads.body {Γ : Ent} {K : Nat} {p0 : group_Group} {p1 : Int} {p2 : Int} {p3 : List Int} {r : Int} (h : group_Group_leads K p0 p1 p2 p3 = some r) : AWp V P 49 100 Γ (Try.f35.body.getD .skip) (EndsE P V Try.f35 (.I r) []) ⟨args0 0 [.agg [.ro Tag.t_api_Replica p0.Replicas, .ro Tag.t_bool p0.Up, .I p0.Leader, .I p0.Epoch], .I p1, .I p2, .cv (.ro Tag.t_int p3)], []⟩ := by
  unfold group_Group_leads at h
  refine awp_seq ?_
  refine awp_region L 200 [] [] [] [1, 3, 4, 6] [200, 201] (cs := []) (S' := ⟨[(1, .I p1), (3, .cv (.ro Tag.t_int p3)), (4, .P 200), (6, .P 201)], [(200, .raw [.ro Tag.t_api_Replica p0.Replicas, .ro Tag.t_bool p0.Up, .I p0.Leader, .I p0.Epoch]), (201, .raw [.I p2])]⟩) (by kernel_rfl) trivial ?_
  refine awp_seq ?_
  refine awp_block ?_
  refine awp_seq ?_
  obtain ⟨a1, h1, h⟩ := bind_some h
  refine awp_region L 204 [] [(3, .B a1)] [] [1, 3, 4, 6, 9] [200, 201] (cs := [PCall V P 28 [.agg [.ro Tag.t_api_Replica p0.Replicas, .ro Tag.t_bool p0.Up, .I p0.Leader, .I p0.Epoch], .I p1, .cv (.ro Tag.t_int p3)] (.B a1), True]) (S' := ⟨[(1, .I p1), (3, .cv (.ro Tag.t_int p3)), (4, .P 200), (6, .P 201), (9, .B (!a1))], [(200, .raw [.ro Tag.t_api_Replica p0.Replicas, .ro Tag.t_bool p0.Up, .I p0.Leader, .I p0.Epoch]), (201, .raw [.I p2])]⟩) (by kernel_rfl) (And.intro (group_Group_suits.ok h1) trivial) ?_
  rcases ite_some h with ⟨c1, h⟩ | ⟨c1, h⟩
  · refine awp_false (b := (!a1)) (by kernel_rfl) (congrArg Bool.not (c1)) ?_
    refine awp_seq ?_
    obtain ⟨g1, h⟩ := guard_some h
    refine awp_region L 213 [] [] [] [1, 3, 4, 6, 15] [200, 201] (cs := [(0 : Int) ≤ p1, (p1 : Int) < (p0.Up.length : Int)]) (S' := ⟨[(1, .I p1), (3, .cv (.ro Tag.t_int p3)), (4, .P 200), (6, .P 201), (15, .B ((!((p0.Up.getD (Int.toNat p1) false)))))], [(200, .raw [.ro Tag.t_api_Replica p0.Replicas, .ro Tag.t_bool p0.Up, .I p0.Leader, .I p0.Epoch]), (201, .raw [.I p2])]⟩) (by kernel_rfl) (And.intro g1.1 g1.2) ?_
    rcases ite_some h with ⟨c2, h⟩ | ⟨c2, h⟩
    · refine awp_false (b := (!((p0.Up.getD (Int.toNat p1) false)))) (by kernel_rfl) (congrArg Bool.not (c2)) ?_
      refine awp_seq ?_
      rcases ite_some h with ⟨c3, h⟩ | ⟨c3, h⟩
      · refine awp_draw L mixed 223 [(4, true)] [] [] [] 21 [1, 3, 4, 6, 22] [200, 201] (cs := [(decide (p1 ≠ p0.Leader)) = true]) (S' := ⟨[(1, .I p1), (3, .cv (.ro Tag.t_int p3)), (4, .P 200), (6, .P 201), (22, .B true)], [(200, .raw [.ro Tag.t_api_Replica p0.Replicas, .ro Tag.t_bool p0.Up, .I p0.Leader, .I p0.Epoch]), (201, .raw [.I p2])]⟩) (by kernel_rfl) (decide_eq_true c3) ?_
        refine awp_true (b := true) (by kernel_rfl) (rfl) ?_
        refine awp_seq ?_
        refine awp_region L 245 [] [] [] [8] [] (cs := []) (S' := ⟨[(8, .I 25)], []⟩) (by kernel_rfl) trivial ?_
        refine awp_ret ?_
        have hr := Option.some.inj h
        subst hr
        exact ⟨.inr rfl, .I 25, by kernel_rfl, by kernel_rfl, by kernel_rfl⟩
      · rcases ite_some h with ⟨c4, h⟩ | ⟨c4, h⟩
        · refine awp_draw L mixed 223 [(4, false), (10, true)] [] [] [] 21 [1, 3, 4, 6, 22] [200, 201] (cs := [(decide (p1 ≠ p0.Leader)) = false, (decide (p2 ≠ p0.Epoch)) = true]) (S' := ⟨[(1, .I p1), (3, .cv (.ro Tag.t_int p3)), (4, .P 200), (6, .P 201), (22, .B true)], [(200, .raw [.ro Tag.t_api_Replica p0.Replicas, .ro Tag.t_bool p0.Up, .I p0.Leader, .I p0.Epoch]), (201, .raw [.I p2])]⟩) (by kernel_rfl) (And.intro (decide_eq_false c3) (decide_eq_true c4)) ?_
          refine awp_true (b := true) (by kernel_rfl) (rfl) ?_
          refine awp_seq ?_
          refine awp_region L 245 [] [] [] [8] [] (cs := []) (S' := ⟨[(8, .I 25)], []⟩) (by kernel_rfl) trivial ?_
          refine awp_ret ?_
          have hr := Option.some.inj h
          subst hr
          exact ⟨.inr rfl, .I 25, by kernel_rfl, by kernel_rfl, by kernel_rfl⟩
        · obtain ⟨g2, h⟩ := guard_some h
          refine awp_draw L mixed 223 [(4, false), (10, false)] [] [] [] 21 [1, 3, 4, 6, 22] [200, 201] (cs := [(decide (p1 ≠ p0.Leader)) = false, (decide (p2 ≠ p0.Epoch)) = false, (0 : Int) ≤ p1, (p1 : Int) < (p0.Replicas.length : Int)]) (S' := ⟨[(1, .I p1), (3, .cv (.ro Tag.t_int p3)), (4, .P 200), (6, .P 201), (22, .B ((decide (((p0.Replicas.getD (Int.toNat p1) z_api_Replica)).Epoch ≠ p2))))], [(200, .raw [.ro Tag.t_api_Replica p0.Replicas, .ro Tag.t_bool p0.Up, .I p0.Leader, .I p0.Epoch]), (201, .raw [.I p2])]⟩) (by kernel_rfl) (And.intro (decide_eq_false c3) (And.intro (decide_eq_false c4) (And.intro g1.1 g2))) ?_
          rcases ite_some h with ⟨c5, h⟩ | ⟨c5, h⟩
          · refine awp_true (b := (decide (((p0.Replicas.getD (Int.toNat p1) z_api_Replica)).Epoch ≠ p2))) (by kernel_rfl) (decide_eq_true c5) ?_
            refine awp_seq ?_
            refine awp_region L 245 [] [] [] [8] [] (cs := []) (S' := ⟨[(8, .I 25)], []⟩) (by kernel_rfl) trivial ?_
            refine awp_ret ?_
            have hr := Option.some.inj h
            subst hr
            exact ⟨.inr rfl, .I 25, by kernel_rfl, by kernel_rfl, by kernel_rfl⟩
          · refine awp_false (b := (decide (((p0.Replicas.getD (Int.toNat p1) z_api_Replica)).Epoch ≠ p2))) (by kernel_rfl) (decide_eq_false c5) ?_
            refine awp_skip [1, 3, 4, 6] [200, 201] (S' := ⟨[(1, .I p1), (3, .cv (.ro Tag.t_int p3)), (4, .P 200), (6, .P 201)], [(200, .raw [.ro Tag.t_api_Replica p0.Replicas, .ro Tag.t_bool p0.Up, .I p0.Leader, .I p0.Epoch]), (201, .raw [.I p2])]⟩) (by kernel_rfl) ?_
            refine awp_seq ?_
            refine awp_seq ?_
            obtain ⟨a2, h2, h⟩ := bind_some h
            obtain ⟨a3, h3, h⟩ := bind_some h
            refine awp_region L 247 [] [(3, .cv (.ro Tag.t_int a2)), (5, .B a3)] [] [48] [] (cs := [PCall V P 32 [.agg [.ro Tag.t_api_Replica p0.Replicas, .ro Tag.t_bool p0.Up, .I p0.Leader, .I p0.Epoch], .I p1, .cv (.ro Tag.t_int p3)] (.cv (.ro Tag.t_int a2)), True, PCall V P 43 [.cv (.ro Tag.t_int a2), .cv (.fn (.func 55) [] [.pcs [.ro Tag.t_api_Replica p0.Replicas, .ro Tag.t_bool p0.Up, .I p0.Leader, .I p0.Epoch] 0, .pcs [.I p2] 0])] (.B a3), True]) (S' := ⟨[(48, .B a3)], []⟩) (by kernel_rfl) (And.intro (group_Group_others.ok h2) (And.intro trivial (And.intro (slices_ContainsFunc_43_v2.ok h3) trivial))) ?_
            rcases ite_some h with ⟨c6, h⟩ | ⟨c6, h⟩
            · refine awp_true (b := a3) (by kernel_rfl) (c6) ?_
              refine awp_seq ?_
              refine awp_region L 254 [] [] [] [8] [] (cs := []) (S' := ⟨[(8, .I 25)], []⟩) (by kernel_rfl) trivial ?_
              refine awp_ret ?_
              have hr := Option.some.inj h
              subst hr
              exact ⟨.inr rfl, .I 25, by kernel_rfl, by kernel_rfl, by kernel_rfl⟩
            · refine awp_false (b := a3) (by kernel_rfl) (eq_false_of_ne_true c6) ?_
              refine awp_skip [] [] (S' := ⟨[], []⟩) (by kernel_rfl) ?_
              refine awp_seq ?_
              refine awp_region L 256 [] [] [] [8] [] (cs := []) (S' := ⟨[(8, .I 0)], []⟩) (by kernel_rfl) trivial ?_
              refine awp_ret ?_
              have hr := Option.some.inj h
              subst hr
              exact ⟨.inr rfl, .I 0, by kernel_rfl, by kernel_rfl, by kernel_rfl⟩
    · refine awp_true (b := (!((p0.Up.getD (Int.toNat p1) false)))) (by kernel_rfl) (congrArg Bool.not (eq_false_of_ne_true c2)) ?_
      refine awp_seq ?_
      refine awp_region L 221 [] [] [] [8] [] (cs := []) (S' := ⟨[(8, .I 28)], []⟩) (by kernel_rfl) trivial ?_
      refine awp_ret ?_
      have hr := Option.some.inj h
      subst hr
      exact ⟨.inr rfl, .I 28, by kernel_rfl, by kernel_rfl, by kernel_rfl⟩
  · refine awp_true (b := (!a1)) (by kernel_rfl) (congrArg Bool.not (eq_false_of_ne_true c1)) ?_
    refine awp_seq ?_
    refine awp_region L 211 [] [] [] [8] [] (cs := []) (S' := ⟨[(8, .I 2)], []⟩) (by kernel_rfl) trivial ?_
    refine awp_ret ?_
    have hr := Option.some.inj h
    subst hr
    exact ⟨.inr rfl, .I 2, by kernel_rfl, by kernel_rfl, by kernel_rfl⟩

theorem group_Group_leads.okE {K : Nat} {p0 : group_Group} {p1 : Int} {p2 : Int} {p3 : List Int} {r : Int} (h : group_Group_leads K p0 p1 p2 p3 = some r) : ECall V P 35 [.agg [.ro Tag.t_api_Replica p0.Replicas, .ro Tag.t_bool p0.Up, .I p0.Leader, .I p0.Epoch], .I p1, .I p2, .cv (.ro Tag.t_int p3)] [] [] (.I r) [] :=
  ecall_of (fn := Try.f35) (n := 49) (m := 100) (by kernel_rfl) (by kernel_rfl) (by kernel_rfl) rfl (by kernel_rfl) (by kernel_rfl) fun Γ => group_Group_leads.body h

theorem group_Group_leads.ok {K : Nat} {p0 : group_Group} {p1 : Int} {p2 : Int} {p3 : List Int} {r : Int} (h : group_Group_leads K p0 p1 p2 p3 = some r) : PCall V P 35 [.agg [.ro Tag.t_api_Replica p0.Replicas, .ro Tag.t_bool p0.Up, .I p0.Leader, .I p0.Epoch], .I p1, .I p2, .cv (.ro Tag.t_int p3)] (.I r) := (group_Group_leads.okE h).pcall (by kernel_rfl)

def replog_entries.l9 (K : Nat) (p0 : List api_Entry) : Nat → Int → (List api_Entry) → Option (List api_Entry)
  | 0, _, _ => none
  | k + 1, xt9_9h, xh21900_9h => (if xt9_9h < (p0.length : Int) then (if (0 : Int) ≤ xt9_9h ∧ (xt9_9h : Int) < (xh21900_9h.length : Int) then (if (Int.toNat xt9_9h) < xh21900_9h.length then (Option.bind (bytes_Clone_38 K (((xh21900_9h.getD (Int.toNat xt9_9h) z_api_Entry)).Data)) (fun a1 => replog_entries.l9 K p0 k ((IntKind.i64.wrap (xt9_9h + 1))) ((xh21900_9h.set (Int.toNat xt9_9h) ((⟨((xh21900_9h.getD (Int.toNat xt9_9h) z_api_Entry)).Epoch, a1⟩ : api_Entry)))))) else none) else none) else some xh21900_9h)

def replog_entries (K : Nat) (p0 : List api_Entry) : Option (List api_Entry) := (if p0.length * 32 ≤ 140737488355328 then (Option.bind (replog_entries.l9 K p0 K 0 p0 : Option (List api_Entry)) (fun xh21800_9 => some xh21800_9)) else none)

theorem replog_entries.body {Γ : Ent} {K : Nat} {p0 : List api_Entry} {r : List api_Entry} (h : replog_entries K p0 = some r) : AWp V P 24 100 Γ (Try.f56.body.getD .skip) (EndsE P V Try.f56 (.cv (.ro Tag.t_api_Entry r)) []) ⟨args0 0 [.cv (.ro Tag.t_api_Entry p0)], []⟩ := by
  unfold replog_entries at h
  refine awp_seq ?_
  refine awp_region L 200 [] [] [] [0] [] (cs := []) (S' := ⟨[(0, .cv (.ro Tag.t_api_Entry p0))], []⟩) (by kernel_rfl) trivial ?_
  refine awp_seq ?_
  obtain ⟨g1, h⟩ := guard_some h
  refine awp_region L 202 [] [(1, .cv (.ron Tag.t_api_Entry p0))] [] [3] [203] (cs := [FCall V P 65 [.cv (.ro Tag.t_api_Entry p0)] Tag.t_api_Entry p0]) (S' := ⟨[(3, .cv (.own Tag.t_api_Entry 203))], [(203, .lst Tag.t_api_Entry p0)]⟩) (by kernel_rfl) (slices_Clone_65.okF (show slices_Clone_65 0 p0 = some p0 from if_pos g1)) ?_
  refine awp_seq ?_
  refine awp_seq ?_
  refine awp_region L 206 [] [] [] [3, 8, 9] [203] (cs := []) (S' := ⟨[(3, .cv (.own Tag.t_api_Entry 203)), (8, .I (p0.length : Int)), (9, .I 0)], [(203, .lst Tag.t_api_Entry p0)]⟩) (by kernel_rfl) trivial ?_
  refine awp_block ?_
  refine awp_turn (Turns.trans (Turns.keep [3, 8, 9] [203] (S' := ⟨[(3, .cv (.own Tag.t_api_Entry 203)), (8, .I (p0.length : Int)), (9, .I 0)], [(203, .lst Tag.t_api_Entry p0)]⟩) (by kernel_rfl)) (Turns.ren [(203, 21900)] (S' := ⟨[(3, .cv (.own Tag.t_api_Entry 21900)), (8, .I (p0.length : Int)), (9, .I 0)], [(21900, .lst Tag.t_api_Entry p0)]⟩) (by kernel_rfl) (by kernel_rfl))) ?_
  refine awp_keep (ts := [3, 8, 9]) (ids := [21900]) (S' := ⟨[(3, .cv (.own Tag.t_api_Entry 21900)), (8, .I (p0.length : Int)), (9, .I 0)], [(21900, .lst Tag.t_api_Entry p0)]⟩) (by kernel_rfl) ?_
  obtain ⟨o1, hp1, h⟩ := bind_some h
  refine awp_conseq (Q' := fun e S => (e = .exit 0 ∧ ∃ xh21800_9 : List api_Entry, S = ⟨[(3, .cv (.own Tag.t_api_Entry 21800))], [(21800, .lst Tag.t_api_Entry xh21800_9)]⟩ ∧ xh21800_9 = o1)) (awp_loop (fun k S => ∃ xt9_9h : Int, ∃ xh21900_9h : List api_Entry, S = ⟨[(3, .cv (.own Tag.t_api_Entry 21900)), (8, .I (p0.length : Int)), (9, .I xt9_9h)], [(21900, .lst Tag.t_api_Entry xh21900_9h)]⟩ ∧ replog_entries.l9 K p0 k xt9_9h xh21900_9h = some o1) ?_ ⟨_, _, rfl, hp1⟩) ?_
  · clear h hp1
    intro k S hS
    obtain ⟨xt9_9h, xh21900_9h, rfl, h⟩ := hS
    cases k with
    | zero => cases h
    | succ k =>
    unfold replog_entries.l9 at h
    refine awp_seq ?_
    refine awp_region L 210 [] [] [] [3, 8, 9, 10] [21900] (cs := []) (S' := ⟨[(3, .cv (.own Tag.t_api_Entry 21900)), (8, .I (p0.length : Int)), (9, .I xt9_9h), (10, .B ((decide (xt9_9h < (p0.length : Int)))))], [(21900, .lst Tag.t_api_Entry xh21900_9h)]⟩) (by kernel_rfl) trivial ?_
    refine awp_seq ?_
    rcases ite_some h with ⟨c1, h⟩ | ⟨c1, h⟩
    · refine awp_true (b := (decide (xt9_9h < (p0.length : Int)))) (by kernel_rfl) (decide_eq_true c1) ?_
      refine awp_skip [3, 8, 9] [21900] (S' := ⟨[(3, .cv (.own Tag.t_api_Entry 21900)), (8, .I (p0.length : Int)), (9, .I xt9_9h)], [(21900, .lst Tag.t_api_Entry xh21900_9h)]⟩) (by kernel_rfl) ?_
      refine awp_seq ?_
      refine awp_block ?_
      refine awp_seq ?_
      refine awp_region L 212 [] [] [] [3, 4, 8, 9] [21900] (cs := []) (S' := ⟨[(3, .cv (.own Tag.t_api_Entry 21900)), (4, .I xt9_9h), (8, .I (p0.length : Int)), (9, .I xt9_9h)], [(21900, .lst Tag.t_api_Entry xh21900_9h)]⟩) (by kernel_rfl) trivial ?_
      obtain ⟨g2, h⟩ := guard_some h
      obtain ⟨g3, h⟩ := guard_some h
      obtain ⟨a1, ha1, h⟩ := bind_some h
      refine awp_region L 215 [] [(7, .cv (.ro Tag.t_uint8 a1))] [] [3, 8, 9] [21900] (cs := [(0 : Int) ≤ xt9_9h, (xt9_9h : Int) < (xh21900_9h.length : Int), (Int.toNat xt9_9h) < xh21900_9h.length, PCall V P 38 [.cv (.ro Tag.t_uint8 (((xh21900_9h.getD (Int.toNat xt9_9h) z_api_Entry)).Data))] (.cv (.ro Tag.t_uint8 a1)), True, (0 : Int) ≤ xt9_9h, (xt9_9h : Int) < (xh21900_9h.length : Int), (Int.toNat xt9_9h) < xh21900_9h.length, True]) (S' := ⟨[(3, .cv (.own Tag.t_api_Entry 21900)), (8, .I (p0.length : Int)), (9, .I xt9_9h)], [(21900, .lst Tag.t_api_Entry ((xh21900_9h.set (Int.toNat xt9_9h) ((⟨((xh21900_9h.getD (Int.toNat xt9_9h) z_api_Entry)).Epoch, a1⟩ : api_Entry)))))]⟩) (by kernel_rfl) (And.intro g2.1 (And.intro g2.2 (And.intro g3 (And.intro (bytes_Clone_38.ok ha1) (And.intro trivial (And.intro g2.1 (And.intro g2.2 (And.intro g3 trivial)))))))) ?_
      refine awp_region L 227 [] [] [] [3, 8, 9] [21900] (cs := []) (S' := ⟨[(3, .cv (.own Tag.t_api_Entry 21900)), (8, .I (p0.length : Int)), (9, .I ((IntKind.i64.wrap (xt9_9h + 1))))], [(21900, .lst Tag.t_api_Entry ((xh21900_9h.set (Int.toNat xt9_9h) ((⟨((xh21900_9h.getD (Int.toNat xt9_9h) z_api_Entry)).Epoch, a1⟩ : api_Entry)))))]⟩) (by kernel_rfl) trivial ?_
      exact ⟨k, Nat.lt_succ_self k, _, _, rfl, h⟩
    · refine awp_false (b := (decide (xt9_9h < (p0.length : Int)))) (by kernel_rfl) (decide_eq_false c1) ?_
      refine awp_turn (Turns.trans (Turns.keep [3] [21900] (S' := ⟨[(3, .cv (.own Tag.t_api_Entry 21900))], [(21900, .lst Tag.t_api_Entry xh21900_9h)]⟩) (by kernel_rfl)) (Turns.ren [(21900, 21800)] (S' := ⟨[(3, .cv (.own Tag.t_api_Entry 21800))], [(21800, .lst Tag.t_api_Entry xh21900_9h)]⟩) (by kernel_rfl) (by kernel_rfl))) ?_
      refine awp_exit [3] [21800] (S' := ⟨[(3, .cv (.own Tag.t_api_Entry 21800))], [(21800, .lst Tag.t_api_Entry xh21900_9h)]⟩) (by kernel_rfl) ?_
      have hr := Option.some.inj h
      subst hr
      exact ⟨rfl, _, rfl, rfl⟩
  · rintro e S ⟨rfl, xh21800_9, rfl, rfl⟩
    refine ⟨_, Turns.refl, ?_⟩
    refine awp_seq ?_
    refine awp_region L 230 [] [] [] [2] [21800] (cs := []) (S' := ⟨[(2, .cv (.own Tag.t_api_Entry 21800))], [(21800, .lst Tag.t_api_Entry xh21800_9)]⟩) (by kernel_rfl) trivial ?_
    refine awp_turn (Turns.trans (Turns.keep [2] [21800] (S' := ⟨[(2, .cv (.own Tag.t_api_Entry 21800))], [(21800, .lst Tag.t_api_Entry xh21800_9)]⟩) (by kernel_rfl)) (Turns.trans (Turns.frz 21800 (blk0 := .lst Tag.t_api_Entry xh21800_9) (by kernel_rfl) (by kernel_rfl) (S' := ⟨[(2, .cv (.ro Tag.t_api_Entry xh21800_9))], []⟩) (by kernel_rfl)) (Turns.keep [2] [] (S' := ⟨[(2, .cv (.ro Tag.t_api_Entry xh21800_9))], []⟩) (by kernel_rfl)))) ?_
    refine awp_ret ?_
    have hr := Option.some.inj h
    subst hr
    exact ⟨.inr rfl, .cv (.ro Tag.t_api_Entry xh21800_9), by kernel_rfl, by kernel_rfl, by kernel_rfl⟩

theorem replog_entries.okE {K : Nat} {p0 : List api_Entry} {r : List api_Entry} (h : replog_entries K p0 = some r) : ECall V P 56 [.cv (.ro Tag.t_api_Entry p0)] [] [] (.cv (.ro Tag.t_api_Entry r)) [] :=
  ecall_of (fn := Try.f56) (n := 24) (m := 100) (by kernel_rfl) (by kernel_rfl) (by kernel_rfl) rfl (by kernel_rfl) (by kernel_rfl) fun Γ => replog_entries.body h

theorem replog_entries.ok {K : Nat} {p0 : List api_Entry} {r : List api_Entry} (h : replog_entries K p0 = some r) : PCall V P 56 [.cv (.ro Tag.t_api_Entry p0)] (.cv (.ro Tag.t_api_Entry r)) := (replog_entries.okE h).pcall (by kernel_rfl)

def replog_entries_v2.l9 (K : Nat) (p0 : List api_Entry) : Nat → Int → (List api_Entry) → Option (List api_Entry)
  | 0, _, _ => none
  | k + 1, xt9_9h, xh21900_9h => (if xt9_9h < (p0.length : Int) then (if (0 : Int) ≤ xt9_9h ∧ (xt9_9h : Int) < (xh21900_9h.length : Int) then (if (Int.toNat xt9_9h) < xh21900_9h.length then (Option.bind (bytes_Clone_38 K (((xh21900_9h.getD (Int.toNat xt9_9h) z_api_Entry)).Data)) (fun a1 => replog_entries_v2.l9 K p0 k ((IntKind.i64.wrap (xt9_9h + 1))) ((xh21900_9h.set (Int.toNat xt9_9h) ((⟨((xh21900_9h.getD (Int.toNat xt9_9h) z_api_Entry)).Epoch, a1⟩ : api_Entry)))))) else none) else none) else some xh21900_9h)

def replog_entries_v2 (K : Nat) (p0 : List api_Entry) : Option (List api_Entry) := (if p0.length * 32 ≤ 140737488355328 then (Option.bind (replog_entries_v2.l9 K p0 K 0 p0 : Option (List api_Entry)) (fun xh21800_9 => some xh21800_9)) else none)

theorem replog_entries_v2.body {Γ : Ent} {K : Nat} {p0 : List api_Entry} {r : List api_Entry} (h : replog_entries_v2 K p0 = some r) : AWp V P 24 100 Γ (Try.f56.body.getD .skip) (EndsE P V Try.f56 (.cv (.own Tag.t_api_Entry 100)) [(100, .lst Tag.t_api_Entry r)]) ⟨args0 0 [.cv (.ro Tag.t_api_Entry p0)], []⟩ := by
  unfold replog_entries_v2 at h
  refine awp_seq ?_
  refine awp_region L 200 [] [] [] [0] [] (cs := []) (S' := ⟨[(0, .cv (.ro Tag.t_api_Entry p0))], []⟩) (by kernel_rfl) trivial ?_
  refine awp_seq ?_
  obtain ⟨g1, h⟩ := guard_some h
  refine awp_region L 202 [] [(1, .cv (.ron Tag.t_api_Entry p0))] [] [3] [203] (cs := [FCall V P 65 [.cv (.ro Tag.t_api_Entry p0)] Tag.t_api_Entry p0]) (S' := ⟨[(3, .cv (.own Tag.t_api_Entry 203))], [(203, .lst Tag.t_api_Entry p0)]⟩) (by kernel_rfl) (slices_Clone_65.okF (show slices_Clone_65 0 p0 = some p0 from if_pos g1)) ?_
  refine awp_seq ?_
  refine awp_seq ?_
  refine awp_region L 206 [] [] [] [3, 8, 9] [203] (cs := []) (S' := ⟨[(3, .cv (.own Tag.t_api_Entry 203)), (8, .I (p0.length : Int)), (9, .I 0)], [(203, .lst Tag.t_api_Entry p0)]⟩) (by kernel_rfl) trivial ?_
  refine awp_block ?_
  refine awp_turn (Turns.trans (Turns.keep [3, 8, 9] [203] (S' := ⟨[(3, .cv (.own Tag.t_api_Entry 203)), (8, .I (p0.length : Int)), (9, .I 0)], [(203, .lst Tag.t_api_Entry p0)]⟩) (by kernel_rfl)) (Turns.ren [(203, 21900)] (S' := ⟨[(3, .cv (.own Tag.t_api_Entry 21900)), (8, .I (p0.length : Int)), (9, .I 0)], [(21900, .lst Tag.t_api_Entry p0)]⟩) (by kernel_rfl) (by kernel_rfl))) ?_
  refine awp_keep (ts := [3, 8, 9]) (ids := [21900]) (S' := ⟨[(3, .cv (.own Tag.t_api_Entry 21900)), (8, .I (p0.length : Int)), (9, .I 0)], [(21900, .lst Tag.t_api_Entry p0)]⟩) (by kernel_rfl) ?_
  obtain ⟨o1, hp1, h⟩ := bind_some h
  refine awp_conseq (Q' := fun e S => (e = .exit 0 ∧ ∃ xh21800_9 : List api_Entry, S = ⟨[(3, .cv (.own Tag.t_api_Entry 21800))], [(21800, .lst Tag.t_api_Entry xh21800_9)]⟩ ∧ xh21800_9 = o1)) (awp_loop (fun k S => ∃ xt9_9h : Int, ∃ xh21900_9h : List api_Entry, S = ⟨[(3, .cv (.own Tag.t_api_Entry 21900)), (8, .I (p0.length : Int)), (9, .I xt9_9h)], [(21900, .lst Tag.t_api_Entry xh21900_9h)]⟩ ∧ replog_entries_v2.l9 K p0 k xt9_9h xh21900_9h = some o1) ?_ ⟨_, _, rfl, hp1⟩) ?_
  · clear h hp1
    intro k S hS
    obtain ⟨xt9_9h, xh21900_9h, rfl, h⟩ := hS
    cases k with
    | zero => cases h
    | succ k =>
    unfold replog_entries_v2.l9 at h
    refine awp_seq ?_
    refine awp_region L 210 [] [] [] [3, 8, 9, 10] [21900] (cs := []) (S' := ⟨[(3, .cv (.own Tag.t_api_Entry 21900)), (8, .I (p0.length : Int)), (9, .I xt9_9h), (10, .B ((decide (xt9_9h < (p0.length : Int)))))], [(21900, .lst Tag.t_api_Entry xh21900_9h)]⟩) (by kernel_rfl) trivial ?_
    refine awp_seq ?_
    rcases ite_some h with ⟨c1, h⟩ | ⟨c1, h⟩
    · refine awp_true (b := (decide (xt9_9h < (p0.length : Int)))) (by kernel_rfl) (decide_eq_true c1) ?_
      refine awp_skip [3, 8, 9] [21900] (S' := ⟨[(3, .cv (.own Tag.t_api_Entry 21900)), (8, .I (p0.length : Int)), (9, .I xt9_9h)], [(21900, .lst Tag.t_api_Entry xh21900_9h)]⟩) (by kernel_rfl) ?_
      refine awp_seq ?_
      refine awp_block ?_
      refine awp_seq ?_
      refine awp_region L 212 [] [] [] [3, 4, 8, 9] [21900] (cs := []) (S' := ⟨[(3, .cv (.own Tag.t_api_Entry 21900)), (4, .I xt9_9h), (8, .I (p0.length : Int)), (9, .I xt9_9h)], [(21900, .lst Tag.t_api_Entry xh21900_9h)]⟩) (by kernel_rfl) trivial ?_
      obtain ⟨g2, h⟩ := guard_some h
      obtain ⟨g3, h⟩ := guard_some h
      obtain ⟨a1, ha1, h⟩ := bind_some h
      refine awp_region L 215 [] [(7, .cv (.ro Tag.t_uint8 a1))] [] [3, 8, 9] [21900] (cs := [(0 : Int) ≤ xt9_9h, (xt9_9h : Int) < (xh21900_9h.length : Int), (Int.toNat xt9_9h) < xh21900_9h.length, PCall V P 38 [.cv (.ro Tag.t_uint8 (((xh21900_9h.getD (Int.toNat xt9_9h) z_api_Entry)).Data))] (.cv (.ro Tag.t_uint8 a1)), True, (0 : Int) ≤ xt9_9h, (xt9_9h : Int) < (xh21900_9h.length : Int), (Int.toNat xt9_9h) < xh21900_9h.length, True]) (S' := ⟨[(3, .cv (.own Tag.t_api_Entry 21900)), (8, .I (p0.length : Int)), (9, .I xt9_9h)], [(21900, .lst Tag.t_api_Entry ((xh21900_9h.set (Int.toNat xt9_9h) ((⟨((xh21900_9h.getD (Int.toNat xt9_9h) z_api_Entry)).Epoch, a1⟩ : api_Entry)))))]⟩) (by kernel_rfl) (And.intro g2.1 (And.intro g2.2 (And.intro g3 (And.intro (bytes_Clone_38.ok ha1) (And.intro trivial (And.intro g2.1 (And.intro g2.2 (And.intro g3 trivial)))))))) ?_
      refine awp_region L 227 [] [] [] [3, 8, 9] [21900] (cs := []) (S' := ⟨[(3, .cv (.own Tag.t_api_Entry 21900)), (8, .I (p0.length : Int)), (9, .I ((IntKind.i64.wrap (xt9_9h + 1))))], [(21900, .lst Tag.t_api_Entry ((xh21900_9h.set (Int.toNat xt9_9h) ((⟨((xh21900_9h.getD (Int.toNat xt9_9h) z_api_Entry)).Epoch, a1⟩ : api_Entry)))))]⟩) (by kernel_rfl) trivial ?_
      exact ⟨k, Nat.lt_succ_self k, _, _, rfl, h⟩
    · refine awp_false (b := (decide (xt9_9h < (p0.length : Int)))) (by kernel_rfl) (decide_eq_false c1) ?_
      refine awp_turn (Turns.trans (Turns.keep [3] [21900] (S' := ⟨[(3, .cv (.own Tag.t_api_Entry 21900))], [(21900, .lst Tag.t_api_Entry xh21900_9h)]⟩) (by kernel_rfl)) (Turns.ren [(21900, 21800)] (S' := ⟨[(3, .cv (.own Tag.t_api_Entry 21800))], [(21800, .lst Tag.t_api_Entry xh21900_9h)]⟩) (by kernel_rfl) (by kernel_rfl))) ?_
      refine awp_exit [3] [21800] (S' := ⟨[(3, .cv (.own Tag.t_api_Entry 21800))], [(21800, .lst Tag.t_api_Entry xh21900_9h)]⟩) (by kernel_rfl) ?_
      have hr := Option.some.inj h
      subst hr
      exact ⟨rfl, _, rfl, rfl⟩
  · rintro e S ⟨rfl, xh21800_9, rfl, rfl⟩
    refine ⟨_, Turns.refl, ?_⟩
    refine awp_seq ?_
    refine awp_region L 230 [] [] [] [2] [21800] (cs := []) (S' := ⟨[(2, .cv (.own Tag.t_api_Entry 21800))], [(21800, .lst Tag.t_api_Entry xh21800_9)]⟩) (by kernel_rfl) trivial ?_
    refine awp_turn (Turns.trans (Turns.keep [2] [21800] (S' := ⟨[(2, .cv (.own Tag.t_api_Entry 21800))], [(21800, .lst Tag.t_api_Entry xh21800_9)]⟩) (by kernel_rfl)) (Turns.ren [(21800, 100)] (S' := ⟨[(2, .cv (.own Tag.t_api_Entry 100))], [(100, .lst Tag.t_api_Entry xh21800_9)]⟩) (by kernel_rfl) (by kernel_rfl))) ?_
    refine awp_ret ?_
    have hr := Option.some.inj h
    subst hr
    exact ⟨.inr rfl, .cv (.own Tag.t_api_Entry 100), by kernel_rfl, by kernel_rfl, by kernel_rfl⟩

theorem replog_entries_v2.okE {K : Nat} {p0 : List api_Entry} {r : List api_Entry} (h : replog_entries_v2 K p0 = some r) : ECall V P 56 [.cv (.ro Tag.t_api_Entry p0)] [] [] (.cv (.own Tag.t_api_Entry 100)) [(100, .lst Tag.t_api_Entry r)] :=
  ecall_of (fn := Try.f56) (n := 24) (m := 100) (by kernel_rfl) (by kernel_rfl) (by kernel_rfl) rfl (by kernel_rfl) (by kernel_rfl) fun Γ => replog_entries_v2.body h

theorem replog_entries_v2.okF {K : Nat} {p0 : List api_Entry} {r : List api_Entry} (h : replog_entries_v2 K p0 = some r) : FCall V P 56 [.cv (.ro Tag.t_api_Entry p0)] Tag.t_api_Entry r := (replog_entries_v2.okE h).fcall

def replog_Lead (K : Nat) (p0 : api_Replica) (p1 : Int) (p2 : List UInt8) : Option (api_Replica × Int) := (Option.bind (((Option.bind (replog_Right K p0) (fun a1 => (if a1 = true then some ((decide (p1 < 1))) else some true)))) : Option Bool) (fun xt8_5 => (if xt8_5 = true then some (((⟨0, 0, 0, ([] : List api_Entry)⟩ : api_Replica), 2)) else (if (p2.length : Int) > 65536 then some (((⟨0, 0, 0, ([] : List api_Entry)⟩ : api_Replica), 6)) else (if p1 ≠ p0.Epoch then some (((⟨0, 0, 0, ([] : List api_Entry)⟩ : api_Replica), 25)) else (if (p0.Log.length : Int) ≥ 5000 then some (((⟨0, 0, 0, ([] : List api_Entry)⟩ : api_Replica), 18)) else (Option.bind (replog_entries_v2 K p0.Log) (fun a2 => (Option.bind (bytes_Clone_38 K p2) (fun a3 => (if (a2.length + (([(⟨p1, a3⟩ : api_Entry)] : List api_Entry)).length) * 32 ≤ 140737488355328 then some (((⟨p0.Epoch, p0.Vote, p0.Commit, (a2 ++ ([(⟨p1, a3⟩ : api_Entry)] : List api_Entry))⟩ : api_Replica), 0)) else none)))))))))))

theorem replog_Lead.body {Γ : Ent} {K : Nat} {p0 : api_Replica} {p1 : Int} {p2 : List UInt8} {r : api_Replica × Int} (h : replog_Lead K p0 p1 p2 = some r) : AWp V P 45 100 Γ (Try.f36.body.getD .skip) (EndsE P V Try.f36 (.tup [.agg [.I ((r.1).Epoch), .I ((r.1).Vote), .I ((r.1).Commit), .ro Tag.t_api_Entry ((r.1).Log)], .I r.2]) []) ⟨args0 0 [.agg [.I p0.Epoch, .I p0.Vote, .I p0.Commit, .ro Tag.t_api_Entry p0.Log], .I p1, .cv (.ro Tag.t_uint8 p2)], []⟩ := by
  unfold replog_Lead at h
  refine awp_seq ?_
  refine awp_region L 200 [] [] [] [1, 2, 3, 6] [200, 201] (cs := []) (S' := ⟨[(1, .I p1), (2, .cv (.ro Tag.t_uint8 p2)), (3, .P 200), (6, .P 201)], [(200, .raw [.I p0.Epoch, .I p0.Vote, .I p0.Commit, .ro Tag.t_api_Entry p0.Log]), (201, .raw [.I 0, .I 0, .I 0, .N])]⟩) (by kernel_rfl) trivial ?_
  refine awp_seq ?_
  refine awp_block ?_
  obtain ⟨o1, hp1, h⟩ := bind_some h
  refine awp_seq (awp_mono (Q' := fun e S => (e = .normal ∧ ∃ xt8_5 : Bool, S = ⟨[(1, .I p1), (2, .cv (.ro Tag.t_uint8 p2)), (3, .P 21000), (6, .P 21001), (8, .B xt8_5)], [(21000, .raw [.I p0.Epoch, .I p0.Vote, .I p0.Commit, .ro Tag.t_api_Entry p0.Log]), (21001, .raw [.I 0, .I 0, .I 0, .N])]⟩ ∧ xt8_5 = o1)) ?_ ?_)
  · clear h
    replace h := hp1
    obtain ⟨a1, h1, h⟩ := bind_some h
    rcases ite_some h with ⟨c1, h⟩ | ⟨c1, h⟩
    · refine awp_post (awp_region L 204 [(3, false)] [(1, .B a1)] [] [1, 2, 3, 6, 8] [200, 201] (cs := [PCall V P 45 [.agg [.I p0.Epoch, .I p0.Vote, .I p0.Commit, .ro Tag.t_api_Entry p0.Log]] (.B a1), True, (!a1) = false]) (S' := ⟨[(1, .I p1), (2, .cv (.ro Tag.t_uint8 p2)), (3, .P 200), (6, .P 201), (8, .B ((decide (p1 < 1))))], [(200, .raw [.I p0.Epoch, .I p0.Vote, .I p0.Commit, .ro Tag.t_api_Entry p0.Log]), (201, .raw [.I 0, .I 0, .I 0, .N])]⟩) (by kernel_rfl) (And.intro (replog_Right.ok h1) (And.intro trivial (congrArg Bool.not (c1)))) ⟨rfl, rfl⟩) (Turns.trans (Turns.keep [1, 2, 3, 6, 8] [200, 201] (S' := ⟨[(1, .I p1), (2, .cv (.ro Tag.t_uint8 p2)), (3, .P 200), (6, .P 201), (8, .B ((decide (p1 < 1))))], [(200, .raw [.I p0.Epoch, .I p0.Vote, .I p0.Commit, .ro Tag.t_api_Entry p0.Log]), (201, .raw [.I 0, .I 0, .I 0, .N])]⟩) (by kernel_rfl)) (Turns.trans (Turns.ren [(200, 21000), (201, 21001)] (S' := ⟨[(1, .I p1), (2, .cv (.ro Tag.t_uint8 p2)), (3, .P 21000), (6, .P 21001), (8, .B ((decide (p1 < 1))))], [(21000, .raw [.I p0.Epoch, .I p0.Vote, .I p0.Commit, .ro Tag.t_api_Entry p0.Log]), (21001, .raw [.I 0, .I 0, .I 0, .N])]⟩) (by kernel_rfl) (by kernel_rfl)) (Turns.keep [1, 2, 3, 6, 8] [21000, 21001] (S' := ⟨[(1, .I p1), (2, .cv (.ro Tag.t_uint8 p2)), (3, .P 21000), (6, .P 21001), (8, .B ((decide (p1 < 1))))], [(21000, .raw [.I p0.Epoch, .I p0.Vote, .I p0.Commit, .ro Tag.t_api_Entry p0.Log]), (21001, .raw [.I 0, .I 0, .I 0, .N])]⟩) (by kernel_rfl)))) ?_
      have hr := Option.some.inj h
      subst hr
      exact ⟨rfl, _, rfl, rfl⟩
    · refine awp_post (awp_region L 204 [(3, true)] [(1, .B a1)] [] [1, 2, 3, 6, 8] [200, 201] (cs := [PCall V P 45 [.agg [.I p0.Epoch, .I p0.Vote, .I p0.Commit, .ro Tag.t_api_Entry p0.Log]] (.B a1), True, (!a1) = true]) (S' := ⟨[(1, .I p1), (2, .cv (.ro Tag.t_uint8 p2)), (3, .P 200), (6, .P 201), (8, .B true)], [(200, .raw [.I p0.Epoch, .I p0.Vote, .I p0.Commit, .ro Tag.t_api_Entry p0.Log]), (201, .raw [.I 0, .I 0, .I 0, .N])]⟩) (by kernel_rfl) (And.intro (replog_Right.ok h1) (And.intro trivial (congrArg Bool.not (eq_false_of_ne_true c1)))) ⟨rfl, rfl⟩) (Turns.trans (Turns.keep [1, 2, 3, 6, 8] [200, 201] (S' := ⟨[(1, .I p1), (2, .cv (.ro Tag.t_uint8 p2)), (3, .P 200), (6, .P 201), (8, .B true)], [(200, .raw [.I p0.Epoch, .I p0.Vote, .I p0.Commit, .ro Tag.t_api_Entry p0.Log]), (201, .raw [.I 0, .I 0, .I 0, .N])]⟩) (by kernel_rfl)) (Turns.trans (Turns.ren [(200, 21000), (201, 21001)] (S' := ⟨[(1, .I p1), (2, .cv (.ro Tag.t_uint8 p2)), (3, .P 21000), (6, .P 21001), (8, .B true)], [(21000, .raw [.I p0.Epoch, .I p0.Vote, .I p0.Commit, .ro Tag.t_api_Entry p0.Log]), (21001, .raw [.I 0, .I 0, .I 0, .N])]⟩) (by kernel_rfl) (by kernel_rfl)) (Turns.keep [1, 2, 3, 6, 8] [21000, 21001] (S' := ⟨[(1, .I p1), (2, .cv (.ro Tag.t_uint8 p2)), (3, .P 21000), (6, .P 21001), (8, .B true)], [(21000, .raw [.I p0.Epoch, .I p0.Vote, .I p0.Commit, .ro Tag.t_api_Entry p0.Log]), (21001, .raw [.I 0, .I 0, .I 0, .N])]⟩) (by kernel_rfl)))) ?_
      have hr := Option.some.inj h
      subst hr
      exact ⟨rfl, _, rfl, rfl⟩
  · rintro e S ⟨rfl, xt8_5, rfl, rfl⟩
    rcases ite_some h with ⟨c2, h⟩ | ⟨c2, h⟩
    · refine awp_true (b := xt8_5) (by kernel_rfl) (c2) ?_
      refine awp_seq ?_
      refine awp_region L 213 [] [] [] [6, 7] [21001] (cs := []) (S' := ⟨[(6, .P 21001), (7, .I 2)], [(21001, .raw [.I 0, .I 0, .I 0, .N])]⟩) (by kernel_rfl) trivial ?_
      refine awp_turn (Turns.trans (Turns.keep [6, 7] [21001] (S' := ⟨[(6, .P 21001), (7, .I 2)], [(21001, .raw [.I 0, .I 0, .I 0, .N])]⟩) (by kernel_rfl)) (Turns.ren [(21001, 100)] (S' := ⟨[(6, .P 100), (7, .I 2)], [(100, .raw [.I 0, .I 0, .I 0, .N])]⟩) (by kernel_rfl) (by kernel_rfl))) ?_
      refine awp_ret ?_
      have hr := Option.some.inj h
      subst hr
      exact ⟨.inr rfl, .tup [.agg [.I 0, .I 0, .I 0, .N], .I 2], by kernel_rfl, by kernel_rfl, by kernel_rfl⟩
    · refine awp_false (b := xt8_5) (by kernel_rfl) (eq_false_of_ne_true c2) ?_
      refine awp_seq ?_
      refine awp_region L 217 [] [] [] [1, 2, 3, 6, 17] [21000, 21001] (cs := []) (S' := ⟨[(1, .I p1), (2, .cv (.ro Tag.t_uint8 p2)), (3, .P 21000), (6, .P 21001), (17, .B ((decide ((p2.length : Int) > 65536))))], [(21000, .raw [.I p0.Epoch, .I p0.Vote, .I p0.Commit, .ro Tag.t_api_Entry p0.Log]), (21001, .raw [.I 0, .I 0, .I 0, .N])]⟩) (by kernel_rfl) trivial ?_
      rcases ite_some h with ⟨c3, h⟩ | ⟨c3, h⟩
      · refine awp_true (b := (decide ((p2.length : Int) > 65536))) (by kernel_rfl) (decide_eq_true c3) ?_
        refine awp_seq ?_
        refine awp_region L 222 [] [] [] [6, 7] [21001] (cs := []) (S' := ⟨[(6, .P 21001), (7, .I 6)], [(21001, .raw [.I 0, .I 0, .I 0, .N])]⟩) (by kernel_rfl) trivial ?_
        refine awp_turn (Turns.trans (Turns.keep [6, 7] [21001] (S' := ⟨[(6, .P 21001), (7, .I 6)], [(21001, .raw [.I 0, .I 0, .I 0, .N])]⟩) (by kernel_rfl)) (Turns.ren [(21001, 100)] (S' := ⟨[(6, .P 100), (7, .I 6)], [(100, .raw [.I 0, .I 0, .I 0, .N])]⟩) (by kernel_rfl) (by kernel_rfl))) ?_
        refine awp_ret ?_
        have hr := Option.some.inj h
        subst hr
        exact ⟨.inr rfl, .tup [.agg [.I 0, .I 0, .I 0, .N], .I 6], by kernel_rfl, by kernel_rfl, by kernel_rfl⟩
      · refine awp_false (b := (decide ((p2.length : Int) > 65536))) (by kernel_rfl) (decide_eq_false c3) ?_
        refine awp_seq ?_
        refine awp_region L 226 [] [] [] [1, 2, 3, 6, 22] [21000, 21001] (cs := []) (S' := ⟨[(1, .I p1), (2, .cv (.ro Tag.t_uint8 p2)), (3, .P 21000), (6, .P 21001), (22, .B ((decide (p1 ≠ p0.Epoch))))], [(21000, .raw [.I p0.Epoch, .I p0.Vote, .I p0.Commit, .ro Tag.t_api_Entry p0.Log]), (21001, .raw [.I 0, .I 0, .I 0, .N])]⟩) (by kernel_rfl) trivial ?_
        rcases ite_some h with ⟨c4, h⟩ | ⟨c4, h⟩
        · refine awp_true (b := (decide (p1 ≠ p0.Epoch))) (by kernel_rfl) (decide_eq_true c4) ?_
          refine awp_seq ?_
          refine awp_region L 232 [] [] [] [6, 7] [21001] (cs := []) (S' := ⟨[(6, .P 21001), (7, .I 25)], [(21001, .raw [.I 0, .I 0, .I 0, .N])]⟩) (by kernel_rfl) trivial ?_
          refine awp_turn (Turns.trans (Turns.keep [6, 7] [21001] (S' := ⟨[(6, .P 21001), (7, .I 25)], [(21001, .raw [.I 0, .I 0, .I 0, .N])]⟩) (by kernel_rfl)) (Turns.ren [(21001, 100)] (S' := ⟨[(6, .P 100), (7, .I 25)], [(100, .raw [.I 0, .I 0, .I 0, .N])]⟩) (by kernel_rfl) (by kernel_rfl))) ?_
          refine awp_ret ?_
          have hr := Option.some.inj h
          subst hr
          exact ⟨.inr rfl, .tup [.agg [.I 0, .I 0, .I 0, .N], .I 25], by kernel_rfl, by kernel_rfl, by kernel_rfl⟩
        · refine awp_false (b := (decide (p1 ≠ p0.Epoch))) (by kernel_rfl) (decide_eq_false c4) ?_
          refine awp_seq ?_
          refine awp_region L 236 [] [] [] [1, 2, 3, 6, 28] [21000, 21001] (cs := []) (S' := ⟨[(1, .I p1), (2, .cv (.ro Tag.t_uint8 p2)), (3, .P 21000), (6, .P 21001), (28, .B ((decide ((p0.Log.length : Int) ≥ 5000))))], [(21000, .raw [.I p0.Epoch, .I p0.Vote, .I p0.Commit, .ro Tag.t_api_Entry p0.Log]), (21001, .raw [.I 0, .I 0, .I 0, .N])]⟩) (by kernel_rfl) trivial ?_
          rcases ite_some h with ⟨c5, h⟩ | ⟨c5, h⟩
          · refine awp_true (b := (decide ((p0.Log.length : Int) ≥ 5000))) (by kernel_rfl) (decide_eq_true c5) ?_
            refine awp_seq ?_
            refine awp_region L 242 [] [] [] [6, 7] [21001] (cs := []) (S' := ⟨[(6, .P 21001), (7, .I 18)], [(21001, .raw [.I 0, .I 0, .I 0, .N])]⟩) (by kernel_rfl) trivial ?_
            refine awp_turn (Turns.trans (Turns.keep [6, 7] [21001] (S' := ⟨[(6, .P 21001), (7, .I 18)], [(21001, .raw [.I 0, .I 0, .I 0, .N])]⟩) (by kernel_rfl)) (Turns.ren [(21001, 100)] (S' := ⟨[(6, .P 100), (7, .I 18)], [(100, .raw [.I 0, .I 0, .I 0, .N])]⟩) (by kernel_rfl) (by kernel_rfl))) ?_
            refine awp_ret ?_
            have hr := Option.some.inj h
            subst hr
            exact ⟨.inr rfl, .tup [.agg [.I 0, .I 0, .I 0, .N], .I 18], by kernel_rfl, by kernel_rfl, by kernel_rfl⟩
          · refine awp_false (b := (decide ((p0.Log.length : Int) ≥ 5000))) (by kernel_rfl) (decide_eq_false c5) ?_
            refine awp_skip [1, 2, 3, 6] [21000, 21001] (S' := ⟨[(1, .I p1), (2, .cv (.ro Tag.t_uint8 p2)), (3, .P 21000), (6, .P 21001)], [(21000, .raw [.I p0.Epoch, .I p0.Vote, .I p0.Commit, .ro Tag.t_api_Entry p0.Log]), (21001, .raw [.I 0, .I 0, .I 0, .N])]⟩) (by kernel_rfl) ?_
            refine awp_seq ?_
            obtain ⟨a2, h2, h⟩ := bind_some h
            obtain ⟨a3, ha3, h⟩ := bind_some h
            obtain ⟨g1, h⟩ := guard_some h
            refine awp_region L 246 [] [(2, .cv (.ron Tag.t_api_Entry a2)), (5, .cv (.ro Tag.t_uint8 a3))] [] [3, 6] [248, 21000, 21001] (cs := [FCall V P 56 [.cv (.ro Tag.t_api_Entry p0.Log)] Tag.t_api_Entry a2, PCall V P 38 [.cv (.ro Tag.t_uint8 p2)] (.cv (.ro Tag.t_uint8 a3)), True, (a2.length + (([(⟨p1, a3⟩ : api_Entry)] : List api_Entry)).length) * 32 ≤ 140737488355328, True]) (S' := ⟨[(3, .P 21000), (6, .P 21001)], [(248, .lst Tag.t_api_Entry ((a2 ++ ([(⟨p1, a3⟩ : api_Entry)] : List api_Entry)))), (21000, .raw [.I p0.Epoch, .I p0.Vote, .I p0.Commit, .own Tag.t_api_Entry 248]), (21001, .raw [.I 0, .I 0, .I 0, .N])]⟩) (by kernel_rfl) (And.intro (replog_entries_v2.okF h2) (And.intro (bytes_Clone_38.ok ha3) (And.intro trivial (And.intro g1 trivial)))) ?_
            refine awp_seq ?_
            refine awp_region L 258 [] [] [] [6, 7] [248, 21001] (cs := []) (S' := ⟨[(6, .P 21001), (7, .I 0)], [(248, .lst Tag.t_api_Entry ((a2 ++ ([(⟨p1, a3⟩ : api_Entry)] : List api_Entry)))), (21001, .raw [.I p0.Epoch, .I p0.Vote, .I p0.Commit, .own Tag.t_api_Entry 248])]⟩) (by kernel_rfl) trivial ?_
            refine awp_turn (Turns.trans (Turns.keep [6, 7] [248, 21001] (S' := ⟨[(6, .P 21001), (7, .I 0)], [(248, .lst Tag.t_api_Entry ((a2 ++ ([(⟨p1, a3⟩ : api_Entry)] : List api_Entry)))), (21001, .raw [.I p0.Epoch, .I p0.Vote, .I p0.Commit, .own Tag.t_api_Entry 248])]⟩) (by kernel_rfl)) (Turns.trans (Turns.frz 248 (blk0 := .lst Tag.t_api_Entry ((a2 ++ ([(⟨p1, a3⟩ : api_Entry)] : List api_Entry)))) (by kernel_rfl) (by kernel_rfl) (S' := ⟨[(6, .P 21001), (7, .I 0)], [(21001, .raw [.I p0.Epoch, .I p0.Vote, .I p0.Commit, .ro Tag.t_api_Entry ((a2 ++ ([(⟨p1, a3⟩ : api_Entry)] : List api_Entry)))])]⟩) (by kernel_rfl)) (Turns.trans (Turns.keep [6, 7] [21001] (S' := ⟨[(6, .P 21001), (7, .I 0)], [(21001, .raw [.I p0.Epoch, .I p0.Vote, .I p0.Commit, .ro Tag.t_api_Entry ((a2 ++ ([(⟨p1, a3⟩ : api_Entry)] : List api_Entry)))])]⟩) (by kernel_rfl)) (Turns.ren [(21001, 100)] (S' := ⟨[(6, .P 100), (7, .I 0)], [(100, .raw [.I p0.Epoch, .I p0.Vote, .I p0.Commit, .ro Tag.t_api_Entry ((a2 ++ ([(⟨p1, a3⟩ : api_Entry)] : List api_Entry)))])]⟩) (by kernel_rfl) (by kernel_rfl))))) ?_
            refine awp_ret ?_
            have hr := Option.some.inj h
            subst hr
            exact ⟨.inr rfl, .tup [.agg [.I p0.Epoch, .I p0.Vote, .I p0.Commit, .ro Tag.t_api_Entry ((a2 ++ ([(⟨p1, a3⟩ : api_Entry)] : List api_Entry)))], .I 0], by kernel_rfl, by kernel_rfl, by kernel_rfl⟩

theorem replog_Lead.okE {K : Nat} {p0 : api_Replica} {p1 : Int} {p2 : List UInt8} {r : api_Replica × Int} (h : replog_Lead K p0 p1 p2 = some r) : ECall V P 36 [.agg [.I p0.Epoch, .I p0.Vote, .I p0.Commit, .ro Tag.t_api_Entry p0.Log], .I p1, .cv (.ro Tag.t_uint8 p2)] [] [] (.tup [.agg [.I ((r.1).Epoch), .I ((r.1).Vote), .I ((r.1).Commit), .ro Tag.t_api_Entry ((r.1).Log)], .I r.2]) [] :=
  ecall_of (fn := Try.f36) (n := 45) (m := 100) (by kernel_rfl) (by kernel_rfl) (by kernel_rfl) rfl (by kernel_rfl) (by kernel_rfl) fun Γ => replog_Lead.body h

theorem replog_Lead.ok {K : Nat} {p0 : api_Replica} {p1 : Int} {p2 : List UInt8} {r : api_Replica × Int} (h : replog_Lead K p0 p1 p2 = some r) : PCall V P 36 [.agg [.I p0.Epoch, .I p0.Vote, .I p0.Commit, .ro Tag.t_api_Entry p0.Log], .I p1, .cv (.ro Tag.t_uint8 p2)] (.tup [.agg [.I ((r.1).Epoch), .I ((r.1).Vote), .I ((r.1).Commit), .ro Tag.t_api_Entry ((r.1).Log)], .I r.2]) := (replog_Lead.okE h).pcall (by kernel_rfl)

def replog_suits (K : Nat) (p0 : api_Replica) (p1 : Int) (p2 : Int) (p3 : Int) (p4 : List api_Entry) (p5 : Int) : Option Bool := (Option.bind (replog_Right K p0) (fun a1 => (if a1 = true then (Option.bind (replog_in K p1 1 1099511627776) (fun a2 => (if a2 = true then (Option.bind (replog_in K p2 0 5000) (fun a3 => (if a3 = true then (if p3 ≥ 0 then (if (((decide (p2 = 0)) == (decide (p3 = 0)))) = true then (if p5 ≥ 0 then (Option.bind (replog_rising K p4 p3 p1) (fun a4 => some a4)) else some false) else some false) else some false) else some false))) else some false))) else some false)))

theorem replog_suits.body {Γ : Ent} {K : Nat} {p0 : api_Replica} {p1 : Int} {p2 : Int} {p3 : Int} {p4 : List api_Entry} {p5 : Int} {r : Bool} (h : replog_suits K p0 p1 p2 p3 p4 p5 = some r) : AWp V P 44 100 Γ (Try.f70.body.getD .skip) (EndsE P V Try.f70 (.B r) []) ⟨args0 0 [.agg [.I p0.Epoch, .I p0.Vote, .I p0.Commit, .ro Tag.t_api_Entry p0.Log], .I p1, .I p2, .I p3, .cv (.ro Tag.t_api_Entry p4), .I p5], []⟩ := by
  unfold replog_suits at h
  refine awp_seq ?_
  refine awp_region L 200 [] [] [] [1, 2, 3, 4, 5, 6] [200] (cs := []) (S' := ⟨[(1, .I p1), (2, .I p2), (3, .I p3), (4, .cv (.ro Tag.t_api_Entry p4)), (5, .I p5), (6, .P 200)], [(200, .raw [.I p0.Epoch, .I p0.Vote, .I p0.Commit, .ro Tag.t_api_Entry p0.Log])]⟩) (by kernel_rfl) trivial ?_
  refine awp_seq ?_
  obtain ⟨a1, h1, h⟩ := bind_some h
  rcases ite_some h with ⟨c1, h⟩ | ⟨c1, h⟩
  · obtain ⟨a2, h2, h⟩ := bind_some h
    rcases ite_some h with ⟨c2, h⟩ | ⟨c2, h⟩
    · obtain ⟨a3, h3, h⟩ := bind_some h
      rcases ite_some h with ⟨c3, h⟩ | ⟨c3, h⟩
      · rcases ite_some h with ⟨c4, h⟩ | ⟨c4, h⟩
        · rcases ite_some h with ⟨c5, h⟩ | ⟨c5, h⟩
          · rcases ite_some h with ⟨c6, h⟩ | ⟨c6, h⟩
            · obtain ⟨a4, h4, h⟩ := bind_some h
              refine awp_region L 203 [(2, true), (6, true), (10, true), (14, true), (21, true), (25, true)] [(1, .B a1), (4, .B a2), (8, .B a3), (29, .B a4)] [] [12] [] (cs := [PCall V P 45 [.agg [.I p0.Epoch, .I p0.Vote, .I p0.Commit, .ro Tag.t_api_Entry p0.Log]] (.B a1), True, a1 = true, PCall V P 63 [.I p1, .I 1, .I 1099511627776] (.B a2), True, a2 = true, PCall V P 63 [.I p2, .I 0, .I 5000] (.B a3), True, a3 = true, (decide (p3 ≥ 0)) = true, ((decide (p2 = 0)) == (decide (p3 = 0))) = true, (decide (p5 ≥ 0)) = true, PCall V P 64 [.cv (.ro Tag.t_api_Entry p4), .I p3, .I p1] (.B a4), True]) (S' := ⟨[(12, .B a4)], []⟩) (by kernel_rfl) (And.intro (replog_Right.ok h1) (And.intro trivial (And.intro c1 (And.intro (replog_in.ok h2) (And.intro trivial (And.intro c2 (And.intro (replog_in.ok h3) (And.intro trivial (And.intro c3 (And.intro (decide_eq_true c4) (And.intro c5 (And.intro (decide_eq_true c6) (And.intro (replog_rising.ok h4) trivial))))))))))))) ?_
              refine awp_ret ?_
              have hr := Option.some.inj h
              subst hr
              exact ⟨.inr rfl, .B a4, by kernel_rfl, by kernel_rfl, by kernel_rfl⟩
            · refine awp_region L 203 [(2, true), (6, true), (10, true), (14, true), (21, true), (25, false)] [(1, .B a1), (4, .B a2), (8, .B a3)] [] [12] [] (cs := [PCall V P 45 [.agg [.I p0.Epoch, .I p0.Vote, .I p0.Commit, .ro Tag.t_api_Entry p0.Log]] (.B a1), True, a1 = true, PCall V P 63 [.I p1, .I 1, .I 1099511627776] (.B a2), True, a2 = true, PCall V P 63 [.I p2, .I 0, .I 5000] (.B a3), True, a3 = true, (decide (p3 ≥ 0)) = true, ((decide (p2 = 0)) == (decide (p3 = 0))) = true, (decide (p5 ≥ 0)) = false]) (S' := ⟨[(12, .B false)], []⟩) (by kernel_rfl) (And.intro (replog_Right.ok h1) (And.intro trivial (And.intro c1 (And.intro (replog_in.ok h2) (And.intro trivial (And.intro c2 (And.intro (replog_in.ok h3) (And.intro trivial (And.intro c3 (And.intro (decide_eq_true c4) (And.intro c5 (decide_eq_false c6)))))))))))) ?_
              refine awp_ret ?_
              have hr := Option.some.inj h
              subst hr
              exact ⟨.inr rfl, .B false, by kernel_rfl, by kernel_rfl, by kernel_rfl⟩
          · refine awp_region L 203 [(2, true), (6, true), (10, true), (14, true), (21, false)] [(1, .B a1), (4, .B a2), (8, .B a3)] [] [12] [] (cs := [PCall V P 45 [.agg [.I p0.Epoch, .I p0.Vote, .I p0.Commit, .ro Tag.t_api_Entry p0.Log]] (.B a1), True, a1 = true, PCall V P 63 [.I p1, .I 1, .I 1099511627776] (.B a2), True, a2 = true, PCall V P 63 [.I p2, .I 0, .I 5000] (.B a3), True, a3 = true, (decide (p3 ≥ 0)) = true, ((decide (p2 = 0)) == (decide (p3 = 0))) = false]) (S' := ⟨[(12, .B false)], []⟩) (by kernel_rfl) (And.intro (replog_Right.ok h1) (And.intro trivial (And.intro c1 (And.intro (replog_in.ok h2) (And.intro trivial (And.intro c2 (And.intro (replog_in.ok h3) (And.intro trivial (And.intro c3 (And.intro (decide_eq_true c4) (eq_false_of_ne_true c5))))))))))) ?_
            refine awp_ret ?_
            have hr := Option.some.inj h
            subst hr
            exact ⟨.inr rfl, .B false, by kernel_rfl, by kernel_rfl, by kernel_rfl⟩
        · refine awp_region L 203 [(2, true), (6, true), (10, true), (14, false)] [(1, .B a1), (4, .B a2), (8, .B a3)] [] [12] [] (cs := [PCall V P 45 [.agg [.I p0.Epoch, .I p0.Vote, .I p0.Commit, .ro Tag.t_api_Entry p0.Log]] (.B a1), True, a1 = true, PCall V P 63 [.I p1, .I 1, .I 1099511627776] (.B a2), True, a2 = true, PCall V P 63 [.I p2, .I 0, .I 5000] (.B a3), True, a3 = true, (decide (p3 ≥ 0)) = false]) (S' := ⟨[(12, .B false)], []⟩) (by kernel_rfl) (And.intro (replog_Right.ok h1) (And.intro trivial (And.intro c1 (And.intro (replog_in.ok h2) (And.intro trivial (And.intro c2 (And.intro (replog_in.ok h3) (And.intro trivial (And.intro c3 (decide_eq_false c4)))))))))) ?_
          refine awp_ret ?_
          have hr := Option.some.inj h
          subst hr
          exact ⟨.inr rfl, .B false, by kernel_rfl, by kernel_rfl, by kernel_rfl⟩
      · refine awp_region L 203 [(2, true), (6, true), (10, false)] [(1, .B a1), (4, .B a2), (8, .B a3)] [] [12] [] (cs := [PCall V P 45 [.agg [.I p0.Epoch, .I p0.Vote, .I p0.Commit, .ro Tag.t_api_Entry p0.Log]] (.B a1), True, a1 = true, PCall V P 63 [.I p1, .I 1, .I 1099511627776] (.B a2), True, a2 = true, PCall V P 63 [.I p2, .I 0, .I 5000] (.B a3), True, a3 = false]) (S' := ⟨[(12, .B false)], []⟩) (by kernel_rfl) (And.intro (replog_Right.ok h1) (And.intro trivial (And.intro c1 (And.intro (replog_in.ok h2) (And.intro trivial (And.intro c2 (And.intro (replog_in.ok h3) (And.intro trivial (eq_false_of_ne_true c3))))))))) ?_
        refine awp_ret ?_
        have hr := Option.some.inj h
        subst hr
        exact ⟨.inr rfl, .B false, by kernel_rfl, by kernel_rfl, by kernel_rfl⟩
    · refine awp_region L 203 [(2, true), (6, false)] [(1, .B a1), (4, .B a2)] [] [12] [] (cs := [PCall V P 45 [.agg [.I p0.Epoch, .I p0.Vote, .I p0.Commit, .ro Tag.t_api_Entry p0.Log]] (.B a1), True, a1 = true, PCall V P 63 [.I p1, .I 1, .I 1099511627776] (.B a2), True, a2 = false]) (S' := ⟨[(12, .B false)], []⟩) (by kernel_rfl) (And.intro (replog_Right.ok h1) (And.intro trivial (And.intro c1 (And.intro (replog_in.ok h2) (And.intro trivial (eq_false_of_ne_true c2)))))) ?_
      refine awp_ret ?_
      have hr := Option.some.inj h
      subst hr
      exact ⟨.inr rfl, .B false, by kernel_rfl, by kernel_rfl, by kernel_rfl⟩
  · refine awp_region L 203 [(2, false)] [(1, .B a1)] [] [12] [] (cs := [PCall V P 45 [.agg [.I p0.Epoch, .I p0.Vote, .I p0.Commit, .ro Tag.t_api_Entry p0.Log]] (.B a1), True, a1 = false]) (S' := ⟨[(12, .B false)], []⟩) (by kernel_rfl) (And.intro (replog_Right.ok h1) (And.intro trivial (eq_false_of_ne_true c1))) ?_
    refine awp_ret ?_
    have hr := Option.some.inj h
    subst hr
    exact ⟨.inr rfl, .B false, by kernel_rfl, by kernel_rfl, by kernel_rfl⟩

theorem replog_suits.okE {K : Nat} {p0 : api_Replica} {p1 : Int} {p2 : Int} {p3 : Int} {p4 : List api_Entry} {p5 : Int} {r : Bool} (h : replog_suits K p0 p1 p2 p3 p4 p5 = some r) : ECall V P 70 [.agg [.I p0.Epoch, .I p0.Vote, .I p0.Commit, .ro Tag.t_api_Entry p0.Log], .I p1, .I p2, .I p3, .cv (.ro Tag.t_api_Entry p4), .I p5] [] [] (.B r) [] :=
  ecall_of (fn := Try.f70) (n := 44) (m := 100) (by kernel_rfl) (by kernel_rfl) (by kernel_rfl) rfl (by kernel_rfl) (by kernel_rfl) fun Γ => replog_suits.body h

theorem replog_suits.ok {K : Nat} {p0 : api_Replica} {p1 : Int} {p2 : Int} {p3 : Int} {p4 : List api_Entry} {p5 : Int} {r : Bool} (h : replog_suits K p0 p1 p2 p3 p4 p5 = some r) : PCall V P 70 [.agg [.I p0.Epoch, .I p0.Vote, .I p0.Commit, .ro Tag.t_api_Entry p0.Log], .I p1, .I p2, .I p3, .cv (.ro Tag.t_api_Entry p4), .I p5] (.B r) := (replog_suits.okE h).pcall (by kernel_rfl)

def replog_Accept.l28 (K : Nat) (p0 : api_Replica) (p2 : Int) (p4 : List api_Entry) : Nat → Int → Option Int
  | 0, _ => none
  | k + 1, xt14_28h => (if xt14_28h < (p4.length : Int) then (if (IntKind.i64.wrap (p2 + xt14_28h)) < (p0.Log.length : Int) then (if (0 : Int) ≤ xt14_28h ∧ (xt14_28h : Int) < (p4.length : Int) then (if (0 : Int) ≤ (IntKind.i64.wrap (p2 + xt14_28h)) ∧ ((IntKind.i64.wrap (p2 + xt14_28h)) : Int) < (p0.Log.length : Int) then (Option.bind (replog_agree K ((p4.getD (Int.toNat xt14_28h) z_api_Entry)) ((p0.Log.getD (Int.toNat ((IntKind.i64.wrap (p2 + xt14_28h)))) z_api_Entry))) (fun a2 => (if a2 = true then replog_Accept.l28 K p0 p2 p4 k ((IntKind.i64.wrap (xt14_28h + 1))) else some xt14_28h))) else none) else none) else some xt14_28h) else some xt14_28h)

def replog_Accept (K : Nat) (p0 : api_Replica) (p1 : Int) (p2 : Int) (p3 : Int) (p4 : List api_Entry) (p5 : Int) : Option (api_Replica × Int) := (obind (((Option.bind (replog_suits K p0 p1 p2 p3 p4 p5) (fun a1 => (if a1 = true then (if p1 < p0.Epoch then some (Out.done (((⟨0, 0, 0, ([] : List api_Entry)⟩ : api_Replica), 25))) else (if (p0.Log.length : Int) < p2 then some (Out.done (((⟨0, 0, 0, ([] : List api_Entry)⟩ : api_Replica), 26))) else (if p2 > 0 then (if (0 : Int) ≤ (IntKind.i64.wrap (p2 - 1)) ∧ ((IntKind.i64.wrap (p2 - 1)) : Int) < (p0.Log.length : Int) then (if ((p0.Log.getD (Int.toNat ((IntKind.i64.wrap (p2 - 1)))) z_api_Entry)).Epoch ≠ p3 then some (Out.done (((⟨0, 0, 0, ([] : List api_Entry)⟩ : api_Replica), 26))) else some (Out.go ())) else none) else some (Out.go ())))) else some (Out.done (((⟨0, 0, 0, ([] : List api_Entry)⟩ : api_Replica), 2))))))) : Option (Out (api_Replica × Int) Unit)) (fun r => r) (fun _ => (Option.bind (replog_Accept.l28 K p0 p2 p4 K 0 : Option Int) (fun xt14_28 => (Option.bind (((if xt14_28 < (p4.length : Int) then some ((decide ((IntKind.i64.wrap (p2 + xt14_28)) < (p0.Log.length : Int)))) else some false)) : Option Bool) (fun xt15_37 => (Option.bind (((if xt15_37 = true then some ((decide ((IntKind.i64.wrap (p2 + xt14_28)) < p0.Commit))) else some false)) : Option Bool) (fun xt97_41 => (if xt97_41 = true then some (((⟨0, 0, 0, ([] : List api_Entry)⟩ : api_Replica), 16)) else (if (p4.length : Int) > (IntKind.i64.wrap (5000 - p2)) then some (((⟨0, 0, 0, ([] : List api_Entry)⟩ : api_Replica), 18)) else (Option.bind (((if p1 > p0.Epoch then some (-1) else some p0.Vote)) : Option Int) (fun xh31202_1_56 => (if xt15_37 = true then (if (0 : Int) ≤ p2 ∧ p2 ≤ (p0.Log.length : Int) then (Option.bind (replog_entries_v2 K (slc p0.Log 0 p2)) (fun a3 => (Option.bind (replog_entries K p4) (fun a4 => (if (a3.length + a4.length) * 32 ≤ 140737488355328 then some (((⟨p1, xh31202_1_56, (if (if (IntKind.i64.wrap (p2 + (p4.length : Int))) < p5 then (IntKind.i64.wrap (p2 + (p4.length : Int))) else p5) > p0.Commit then (if (IntKind.i64.wrap (p2 + (p4.length : Int))) < p5 then (IntKind.i64.wrap (p2 + (p4.length : Int))) else p5) else p0.Commit), (a3 ++ a4)⟩ : api_Replica), 0)) else none))))) else none) else (Option.bind (replog_entries_v2 K p0.Log) (fun a5 => (if (0 : Int) ≤ xt14_28 ∧ xt14_28 ≤ (p4.length : Int) then (Option.bind (replog_entries K ((slc p4 xt14_28 (p4.length : Int)))) (fun a6 => (if (a5.length + a6.length) * 32 ≤ 140737488355328 then some (((⟨p1, xh31202_1_56, (if (if (IntKind.i64.wrap (p2 + (p4.length : Int))) < p5 then (IntKind.i64.wrap (p2 + (p4.length : Int))) else p5) > p0.Commit then (if (IntKind.i64.wrap (p2 + (p4.length : Int))) < p5 then (IntKind.i64.wrap (p2 + (p4.length : Int))) else p5) else p0.Commit), (a5 ++ a6)⟩ : api_Replica), 0)) else none))) else none))))))))))))))))

theorem replog_Accept.body {Γ : Ent} {K : Nat} {p0 : api_Replica} {p1 : Int} {p2 : Int} {p3 : Int} {p4 : List api_Entry} {p5 : Int} {r : api_Replica × Int} (h : replog_Accept K p0 p1 p2 p3 p4 p5 = some r) : AWp V P 153 100 Γ (Try.f67.body.getD .skip) (EndsE P V Try.f67 (.tup [.agg [.I ((r.1).Epoch), .I ((r.1).Vote), .I ((r.1).Commit), .ro Tag.t_api_Entry ((r.1).Log)], .I r.2]) []) ⟨args0 0 [.agg [.I p0.Epoch, .I p0.Vote, .I p0.Commit, .ro Tag.t_api_Entry p0.Log], .I p1, .I p2, .I p3, .cv (.ro Tag.t_api_Entry p4), .I p5], []⟩ := by
  unfold replog_Accept at h
  refine awp_seq ?_
  refine awp_region L 200 [] [] [] [1, 2, 3, 4, 5, 6, 12] [200, 201] (cs := []) (S' := ⟨[(1, .I p1), (2, .I p2), (3, .I p3), (4, .cv (.ro Tag.t_api_Entry p4)), (5, .I p5), (6, .P 200), (12, .P 201)], [(200, .raw [.I p0.Epoch, .I p0.Vote, .I p0.Commit, .ro Tag.t_api_Entry p0.Log]), (201, .raw [.I 0, .I 0, .I 0, .N])]⟩) (by kernel_rfl) trivial ?_
  obtain ⟨o1, hp1, h⟩ := obind_some h
  refine awp_seq (awp_mono (Q' := fun e S => (e = .normal ∧ S = ⟨[(1, .I p1), (2, .I p2), (4, .cv (.ro Tag.t_api_Entry p4)), (5, .I p5), (6, .P 20600), (12, .P 20601)], [(20600, .raw [.I p0.Epoch, .I p0.Vote, .I p0.Commit, .ro Tag.t_api_Entry p0.Log]), (20601, .raw [.I 0, .I 0, .I 0, .N])]⟩ ∧ Out.go () = o1) ∨ (e = .ret ∧ ∃ a, Out.done a = o1 ∧ EndsE P V Try.f67 (.tup [.agg [.I ((a.1).Epoch), .I ((a.1).Vote), .I ((a.1).Commit), .ro Tag.t_api_Entry ((a.1).Log)], .I a.2]) [] .ret S)) ?_ ?_)
  · clear h
    replace h := hp1
    refine awp_block ?_
    refine awp_seq ?_
    obtain ⟨a1, h1, h⟩ := bind_some h
    refine awp_region L 204 [] [(6, .B a1)] [] [1, 2, 3, 4, 5, 6, 12, 17] [200, 201] (cs := [PCall V P 70 [.agg [.I p0.Epoch, .I p0.Vote, .I p0.Commit, .ro Tag.t_api_Entry p0.Log], .I p1, .I p2, .I p3, .cv (.ro Tag.t_api_Entry p4), .I p5] (.B a1), True]) (S' := ⟨[(1, .I p1), (2, .I p2), (3, .I p3), (4, .cv (.ro Tag.t_api_Entry p4)), (5, .I p5), (6, .P 200), (12, .P 201), (17, .B (!a1))], [(200, .raw [.I p0.Epoch, .I p0.Vote, .I p0.Commit, .ro Tag.t_api_Entry p0.Log]), (201, .raw [.I 0, .I 0, .I 0, .N])]⟩) (by kernel_rfl) (And.intro (replog_suits.ok h1) trivial) ?_
    rcases ite_some h with ⟨c1, h⟩ | ⟨c1, h⟩
    · refine awp_false (b := (!a1)) (by kernel_rfl) (congrArg Bool.not (c1)) ?_
      refine awp_seq ?_
      refine awp_region L 218 [] [] [] [1, 2, 3, 4, 5, 6, 12, 27] [200, 201] (cs := []) (S' := ⟨[(1, .I p1), (2, .I p2), (3, .I p3), (4, .cv (.ro Tag.t_api_Entry p4)), (5, .I p5), (6, .P 200), (12, .P 201), (27, .B ((decide (p1 < p0.Epoch))))], [(200, .raw [.I p0.Epoch, .I p0.Vote, .I p0.Commit, .ro Tag.t_api_Entry p0.Log]), (201, .raw [.I 0, .I 0, .I 0, .N])]⟩) (by kernel_rfl) trivial ?_
      rcases ite_some h with ⟨c2, h⟩ | ⟨c2, h⟩
      · refine awp_true (b := (decide (p1 < p0.Epoch))) (by kernel_rfl) (decide_eq_true c2) ?_
        refine awp_seq ?_
        refine awp_region L 224 [] [] [] [12, 13] [201] (cs := []) (S' := ⟨[(12, .P 201), (13, .I 25)], [(201, .raw [.I 0, .I 0, .I 0, .N])]⟩) (by kernel_rfl) trivial ?_
        refine awp_turn (Turns.trans (Turns.keep [12, 13] [201] (S' := ⟨[(12, .P 201), (13, .I 25)], [(201, .raw [.I 0, .I 0, .I 0, .N])]⟩) (by kernel_rfl)) (Turns.ren [(201, 100)] (S' := ⟨[(12, .P 100), (13, .I 25)], [(100, .raw [.I 0, .I 0, .I 0, .N])]⟩) (by kernel_rfl) (by kernel_rfl))) ?_
        refine awp_ret ?_
        have hr := Option.some.inj h
        subst hr
        exact .inr ⟨rfl, _, rfl, ⟨.inr rfl, .tup [.agg [.I 0, .I 0, .I 0, .N], .I 25], by kernel_rfl, by kernel_rfl, by kernel_rfl⟩⟩
      · refine awp_false (b := (decide (p1 < p0.Epoch))) (by kernel_rfl) (decide_eq_false c2) ?_
        refine awp_seq ?_
        rcases ite_some h with ⟨c3, h⟩ | ⟨c3, h⟩
        · refine awp_region L 228 [(5, true)] [] [] [1, 2, 4, 5, 6, 12, 33] [200, 201] (cs := [(decide ((p0.Log.length : Int) < p2)) = true]) (S' := ⟨[(1, .I p1), (2, .I p2), (4, .cv (.ro Tag.t_api_Entry p4)), (5, .I p5), (6, .P 200), (12, .P 201), (33, .B true)], [(200, .raw [.I p0.Epoch, .I p0.Vote, .I p0.Commit, .ro Tag.t_api_Entry p0.Log]), (201, .raw [.I 0, .I 0, .I 0, .N])]⟩) (by kernel_rfl) (decide_eq_true c3) ?_
          refine awp_true (b := true) (by kernel_rfl) (rfl) ?_
          refine awp_seq ?_
          refine awp_region L 250 [] [] [] [12, 13] [201] (cs := []) (S' := ⟨[(12, .P 201), (13, .I 26)], [(201, .raw [.I 0, .I 0, .I 0, .N])]⟩) (by kernel_rfl) trivial ?_
          refine awp_turn (Turns.trans (Turns.keep [12, 13] [201] (S' := ⟨[(12, .P 201), (13, .I 26)], [(201, .raw [.I 0, .I 0, .I 0, .N])]⟩) (by kernel_rfl)) (Turns.ren [(201, 100)] (S' := ⟨[(12, .P 100), (13, .I 26)], [(100, .raw [.I 0, .I 0, .I 0, .N])]⟩) (by kernel_rfl) (by kernel_rfl))) ?_
          refine awp_ret ?_
          have hr := Option.some.inj h
          subst hr
          exact .inr ⟨rfl, _, rfl, ⟨.inr rfl, .tup [.agg [.I 0, .I 0, .I 0, .N], .I 26], by kernel_rfl, by kernel_rfl, by kernel_rfl⟩⟩
        · rcases ite_some h with ⟨c4, h⟩ | ⟨c4, h⟩
          · obtain ⟨g1, h⟩ := guard_some h
            refine awp_region L 228 [(5, false), (8, true)] [] [] [1, 2, 4, 5, 6, 12, 33] [200, 201] (cs := [(decide ((p0.Log.length : Int) < p2)) = false, (decide (p2 > 0)) = true, (0 : Int) ≤ (IntKind.i64.wrap (p2 - 1)), ((IntKind.i64.wrap (p2 - 1)) : Int) < (p0.Log.length : Int)]) (S' := ⟨[(1, .I p1), (2, .I p2), (4, .cv (.ro Tag.t_api_Entry p4)), (5, .I p5), (6, .P 200), (12, .P 201), (33, .B ((decide (((p0.Log.getD (Int.toNat ((IntKind.i64.wrap (p2 - 1)))) z_api_Entry)).Epoch ≠ p3))))], [(200, .raw [.I p0.Epoch, .I p0.Vote, .I p0.Commit, .ro Tag.t_api_Entry p0.Log]), (201, .raw [.I 0, .I 0, .I 0, .N])]⟩) (by kernel_rfl) (And.intro (decide_eq_false c3) (And.intro (decide_eq_true c4) (And.intro g1.1 g1.2))) ?_
            rcases ite_some h with ⟨c5, h⟩ | ⟨c5, h⟩
            · refine awp_true (b := (decide (((p0.Log.getD (Int.toNat ((IntKind.i64.wrap (p2 - 1)))) z_api_Entry)).Epoch ≠ p3))) (by kernel_rfl) (decide_eq_true c5) ?_
              refine awp_seq ?_
              refine awp_region L 250 [] [] [] [12, 13] [201] (cs := []) (S' := ⟨[(12, .P 201), (13, .I 26)], [(201, .raw [.I 0, .I 0, .I 0, .N])]⟩) (by kernel_rfl) trivial ?_
              refine awp_turn (Turns.trans (Turns.keep [12, 13] [201] (S' := ⟨[(12, .P 201), (13, .I 26)], [(201, .raw [.I 0, .I 0, .I 0, .N])]⟩) (by kernel_rfl)) (Turns.ren [(201, 100)] (S' := ⟨[(12, .P 100), (13, .I 26)], [(100, .raw [.I 0, .I 0, .I 0, .N])]⟩) (by kernel_rfl) (by kernel_rfl))) ?_
              refine awp_ret ?_
              have hr := Option.some.inj h
              subst hr
              exact .inr ⟨rfl, _, rfl, ⟨.inr rfl, .tup [.agg [.I 0, .I 0, .I 0, .N], .I 26], by kernel_rfl, by kernel_rfl, by kernel_rfl⟩⟩
            · refine awp_false (b := (decide (((p0.Log.getD (Int.toNat ((IntKind.i64.wrap (p2 - 1)))) z_api_Entry)).Epoch ≠ p3))) (by kernel_rfl) (decide_eq_false c5) ?_
              refine awp_turn (Turns.trans (Turns.keep [1, 2, 4, 5, 6, 12] [200, 201] (S' := ⟨[(1, .I p1), (2, .I p2), (4, .cv (.ro Tag.t_api_Entry p4)), (5, .I p5), (6, .P 200), (12, .P 201)], [(200, .raw [.I p0.Epoch, .I p0.Vote, .I p0.Commit, .ro Tag.t_api_Entry p0.Log]), (201, .raw [.I 0, .I 0, .I 0, .N])]⟩) (by kernel_rfl)) (Turns.ren [(200, 20600), (201, 20601)] (S' := ⟨[(1, .I p1), (2, .I p2), (4, .cv (.ro Tag.t_api_Entry p4)), (5, .I p5), (6, .P 20600), (12, .P 20601)], [(20600, .raw [.I p0.Epoch, .I p0.Vote, .I p0.Commit, .ro Tag.t_api_Entry p0.Log]), (20601, .raw [.I 0, .I 0, .I 0, .N])]⟩) (by kernel_rfl) (by kernel_rfl))) ?_
              refine awp_skip [1, 2, 4, 5, 6, 12] [20600, 20601] (S' := ⟨[(1, .I p1), (2, .I p2), (4, .cv (.ro Tag.t_api_Entry p4)), (5, .I p5), (6, .P 20600), (12, .P 20601)], [(20600, .raw [.I p0.Epoch, .I p0.Vote, .I p0.Commit, .ro Tag.t_api_Entry p0.Log]), (20601, .raw [.I 0, .I 0, .I 0, .N])]⟩) (by kernel_rfl) ?_
              have hr := Option.some.inj h
              subst hr
              exact .inl ⟨rfl, rfl, rfl⟩
          · refine awp_region L 228 [(5, false), (8, false)] [] [] [1, 2, 4, 5, 6, 12, 33] [200, 201] (cs := [(decide ((p0.Log.length : Int) < p2)) = false, (decide (p2 > 0)) = false]) (S' := ⟨[(1, .I p1), (2, .I p2), (4, .cv (.ro Tag.t_api_Entry p4)), (5, .I p5), (6, .P 200), (12, .P 201), (33, .B false)], [(200, .raw [.I p0.Epoch, .I p0.Vote, .I p0.Commit, .ro Tag.t_api_Entry p0.Log]), (201, .raw [.I 0, .I 0, .I 0, .N])]⟩) (by kernel_rfl) (And.intro (decide_eq_false c3) (decide_eq_false c4)) ?_
            refine awp_false (b := false) (by kernel_rfl) (rfl) ?_
            refine awp_turn (Turns.trans (Turns.keep [1, 2, 4, 5, 6, 12] [200, 201] (S' := ⟨[(1, .I p1), (2, .I p2), (4, .cv (.ro Tag.t_api_Entry p4)), (5, .I p5), (6, .P 200), (12, .P 201)], [(200, .raw [.I p0.Epoch, .I p0.Vote, .I p0.Commit, .ro Tag.t_api_Entry p0.Log]), (201, .raw [.I 0, .I 0, .I 0, .N])]⟩) (by kernel_rfl)) (Turns.ren [(200, 20600), (201, 20601)] (S' := ⟨[(1, .I p1), (2, .I p2), (4, .cv (.ro Tag.t_api_Entry p4)), (5, .I p5), (6, .P 20600), (12, .P 20601)], [(20600, .raw [.I p0.Epoch, .I p0.Vote, .I p0.Commit, .ro Tag.t_api_Entry p0.Log]), (20601, .raw [.I 0, .I 0, .I 0, .N])]⟩) (by kernel_rfl) (by kernel_rfl))) ?_
            refine awp_skip [1, 2, 4, 5, 6, 12] [20600, 20601] (S' := ⟨[(1, .I p1), (2, .I p2), (4, .cv (.ro Tag.t_api_Entry p4)), (5, .I p5), (6, .P 20600), (12, .P 20601)], [(20600, .raw [.I p0.Epoch, .I p0.Vote, .I p0.Commit, .ro Tag.t_api_Entry p0.Log]), (20601, .raw [.I 0, .I 0, .I 0, .N])]⟩) (by kernel_rfl) ?_
            have hr := Option.some.inj h
            subst hr
            exact .inl ⟨rfl, rfl, rfl⟩
    · refine awp_true (b := (!a1)) (by kernel_rfl) (congrArg Bool.not (eq_false_of_ne_true c1)) ?_
      refine awp_seq ?_
      refine awp_region L 214 [] [] [] [12, 13] [201] (cs := []) (S' := ⟨[(12, .P 201), (13, .I 2)], [(201, .raw [.I 0, .I 0, .I 0, .N])]⟩) (by kernel_rfl) trivial ?_
      refine awp_turn (Turns.trans (Turns.keep [12, 13] [201] (S' := ⟨[(12, .P 201), (13, .I 2)], [(201, .raw [.I 0, .I 0, .I 0, .N])]⟩) (by kernel_rfl)) (Turns.ren [(201, 100)] (S' := ⟨[(12, .P 100), (13, .I 2)], [(100, .raw [.I 0, .I 0, .I 0, .N])]⟩) (by kernel_rfl) (by kernel_rfl))) ?_
      refine awp_ret ?_
      have hr := Option.some.inj h
      subst hr
      exact .inr ⟨rfl, _, rfl, ⟨.inr rfl, .tup [.agg [.I 0, .I 0, .I 0, .N], .I 2], by kernel_rfl, by kernel_rfl, by kernel_rfl⟩⟩
  · rintro e S (⟨rfl, rfl, rfl⟩ | ⟨rfl, a, rfl, hr⟩)
    · rcases h with ⟨_, e1, h⟩ | ⟨_, e1, h⟩
      · cases e1
      · have e2 := Out.go.inj e1
        subst e2
        refine awp_seq ?_
        refine awp_region L 254 [] [] [] [1, 2, 4, 5, 6, 12, 14] [20600, 20601] (cs := []) (S' := ⟨[(1, .I p1), (2, .I p2), (4, .cv (.ro Tag.t_api_Entry p4)), (5, .I p5), (6, .P 20600), (12, .P 20601), (14, .I 0)], [(20600, .raw [.I p0.Epoch, .I p0.Vote, .I p0.Commit, .ro Tag.t_api_Entry p0.Log]), (20601, .raw [.I 0, .I 0, .I 0, .N])]⟩) (by kernel_rfl) trivial ?_
        refine awp_seq ?_
        refine awp_block ?_
        refine awp_turn (Turns.trans (Turns.keep [1, 2, 4, 5, 6, 12, 14] [20600, 20601] (S' := ⟨[(1, .I p1), (2, .I p2), (4, .cv (.ro Tag.t_api_Entry p4)), (5, .I p5), (6, .P 20600), (12, .P 20601), (14, .I 0)], [(20600, .raw [.I p0.Epoch, .I p0.Vote, .I p0.Commit, .ro Tag.t_api_Entry p0.Log]), (20601, .raw [.I 0, .I 0, .I 0, .N])]⟩) (by kernel_rfl)) (Turns.ren [(20600, 25700), (20601, 25701)] (S' := ⟨[(1, .I p1), (2, .I p2), (4, .cv (.ro Tag.t_api_Entry p4)), (5, .I p5), (6, .P 25700), (12, .P 25701), (14, .I 0)], [(25700, .raw [.I p0.Epoch, .I p0.Vote, .I p0.Commit, .ro Tag.t_api_Entry p0.Log]), (25701, .raw [.I 0, .I 0, .I 0, .N])]⟩) (by kernel_rfl) (by kernel_rfl))) ?_
        refine awp_keep (ts := [1, 2, 4, 5, 6, 12, 14]) (ids := [25700, 25701]) (S' := ⟨[(1, .I p1), (2, .I p2), (4, .cv (.ro Tag.t_api_Entry p4)), (5, .I p5), (6, .P 25700), (12, .P 25701), (14, .I 0)], [(25700, .raw [.I p0.Epoch, .I p0.Vote, .I p0.Commit, .ro Tag.t_api_Entry p0.Log]), (25701, .raw [.I 0, .I 0, .I 0, .N])]⟩) (by kernel_rfl) ?_
        obtain ⟨o2, hp2, h⟩ := bind_some h
        refine awp_conseq (Q' := fun e S => (e = .exit 1 ∧ ∃ xt14_28 : Int, S = ⟨[(1, .I p1), (2, .I p2), (4, .cv (.ro Tag.t_api_Entry p4)), (5, .I p5), (6, .P 25600), (12, .P 25601), (14, .I xt14_28)], [(25600, .raw [.I p0.Epoch, .I p0.Vote, .I p0.Commit, .ro Tag.t_api_Entry p0.Log]), (25601, .raw [.I 0, .I 0, .I 0, .N])]⟩ ∧ xt14_28 = o2)) (awp_loop (fun k S => ∃ xt14_28h : Int, S = ⟨[(1, .I p1), (2, .I p2), (4, .cv (.ro Tag.t_api_Entry p4)), (5, .I p5), (6, .P 25700), (12, .P 25701), (14, .I xt14_28h)], [(25700, .raw [.I p0.Epoch, .I p0.Vote, .I p0.Commit, .ro Tag.t_api_Entry p0.Log]), (25701, .raw [.I 0, .I 0, .I 0, .N])]⟩ ∧ replog_Accept.l28 K p0 p2 p4 k xt14_28h = some o2) ?_ ⟨_, rfl, hp2⟩) ?_
        · clear h hp2
          intro k S hS
          obtain ⟨xt14_28h, rfl, h⟩ := hS
          cases k with
          | zero => cases h
          | succ k =>
          unfold replog_Accept.l28 at h
          refine awp_seq ?_
          refine awp_seq ?_
          rcases ite_some h with ⟨c6, h⟩ | ⟨c6, h⟩
          · rcases ite_some h with ⟨c7, h⟩ | ⟨c7, h⟩
            · obtain ⟨g2, h⟩ := guard_some h
              obtain ⟨g3, h⟩ := guard_some h
              obtain ⟨a2, h2, h⟩ := bind_some h
              refine awp_draw L mixed 256 [(4, true), (13, true)] [(25, .B a2)] [] [] 27 [1, 2, 4, 5, 6, 12, 14, 81] [25700, 25701] (cs := [(decide (xt14_28h < (p4.length : Int))) = true, (decide ((IntKind.i64.wrap (p2 + xt14_28h)) < (p0.Log.length : Int))) = true, (0 : Int) ≤ xt14_28h, (xt14_28h : Int) < (p4.length : Int), (0 : Int) ≤ (IntKind.i64.wrap (p2 + xt14_28h)), ((IntKind.i64.wrap (p2 + xt14_28h)) : Int) < (p0.Log.length : Int), PCall V P 39 [.agg [.I (((p4.getD (Int.toNat xt14_28h) z_api_Entry)).Epoch), .ro Tag.t_uint8 (((p4.getD (Int.toNat xt14_28h) z_api_Entry)).Data)], .agg [.I (((p0.Log.getD (Int.toNat ((IntKind.i64.wrap (p2 + xt14_28h)))) z_api_Entry)).Epoch), .ro Tag.t_uint8 (((p0.Log.getD (Int.toNat ((IntKind.i64.wrap (p2 + xt14_28h)))) z_api_Entry)).Data)]] (.B a2), True]) (S' := ⟨[(1, .I p1), (2, .I p2), (4, .cv (.ro Tag.t_api_Entry p4)), (5, .I p5), (6, .P 25700), (12, .P 25701), (14, .I xt14_28h), (81, .B a2)], [(25700, .raw [.I p0.Epoch, .I p0.Vote, .I p0.Commit, .ro Tag.t_api_Entry p0.Log]), (25701, .raw [.I 0, .I 0, .I 0, .N])]⟩) (by kernel_rfl) (And.intro (decide_eq_true c6) (And.intro (decide_eq_true c7) (And.intro g2.1 (And.intro g2.2 (And.intro g3.1 (And.intro g3.2 (And.intro (replog_agree.ok h2) trivial))))))) ?_
              rcases ite_some h with ⟨c8, h⟩ | ⟨c8, h⟩
              · refine awp_true (b := a2) (by kernel_rfl) (c8) ?_
                refine awp_skip [1, 2, 4, 5, 6, 12, 14] [25700, 25701] (S' := ⟨[(1, .I p1), (2, .I p2), (4, .cv (.ro Tag.t_api_Entry p4)), (5, .I p5), (6, .P 25700), (12, .P 25701), (14, .I xt14_28h)], [(25700, .raw [.I p0.Epoch, .I p0.Vote, .I p0.Commit, .ro Tag.t_api_Entry p0.Log]), (25701, .raw [.I 0, .I 0, .I 0, .N])]⟩) (by kernel_rfl) ?_
                refine awp_block ?_
                refine awp_region L 284 [] [] [] [1, 2, 4, 5, 6, 12, 14] [25700, 25701] (cs := []) (S' := ⟨[(1, .I p1), (2, .I p2), (4, .cv (.ro Tag.t_api_Entry p4)), (5, .I p5), (6, .P 25700), (12, .P 25701), (14, .I ((IntKind.i64.wrap (xt14_28h + 1))))], [(25700, .raw [.I p0.Epoch, .I p0.Vote, .I p0.Commit, .ro Tag.t_api_Entry p0.Log]), (25701, .raw [.I 0, .I 0, .I 0, .N])]⟩) (by kernel_rfl) trivial ?_
                exact ⟨k, Nat.lt_succ_self k, _, rfl, h⟩
              · refine awp_false (b := a2) (by kernel_rfl) (eq_false_of_ne_true c8) ?_
                refine awp_turn (Turns.trans (Turns.keep [1, 2, 4, 5, 6, 12, 14] [25700, 25701] (S' := ⟨[(1, .I p1), (2, .I p2), (4, .cv (.ro Tag.t_api_Entry p4)), (5, .I p5), (6, .P 25700), (12, .P 25701), (14, .I xt14_28h)], [(25700, .raw [.I p0.Epoch, .I p0.Vote, .I p0.Commit, .ro Tag.t_api_Entry p0.Log]), (25701, .raw [.I 0, .I 0, .I 0, .N])]⟩) (by kernel_rfl)) (Turns.ren [(25700, 25600), (25701, 25601)] (S' := ⟨[(1, .I p1), (2, .I p2), (4, .cv (.ro Tag.t_api_Entry p4)), (5, .I p5), (6, .P 25600), (12, .P 25601), (14, .I xt14_28h)], [(25600, .raw [.I p0.Epoch, .I p0.Vote, .I p0.Commit, .ro Tag.t_api_Entry p0.Log]), (25601, .raw [.I 0, .I 0, .I 0, .N])]⟩) (by kernel_rfl) (by kernel_rfl))) ?_
                refine awp_exit [1, 2, 4, 5, 6, 12, 14] [25600, 25601] (S' := ⟨[(1, .I p1), (2, .I p2), (4, .cv (.ro Tag.t_api_Entry p4)), (5, .I p5), (6, .P 25600), (12, .P 25601), (14, .I xt14_28h)], [(25600, .raw [.I p0.Epoch, .I p0.Vote, .I p0.Commit, .ro Tag.t_api_Entry p0.Log]), (25601, .raw [.I 0, .I 0, .I 0, .N])]⟩) (by kernel_rfl) ?_
                have hr := Option.some.inj h
                subst hr
                exact ⟨rfl, _, rfl, rfl⟩
            · refine awp_draw L mixed 256 [(4, true), (13, false)] [] [] [] 27 [1, 2, 4, 5, 6, 12, 14, 81] [25700, 25701] (cs := [(decide (xt14_28h < (p4.length : Int))) = true, (decide ((IntKind.i64.wrap (p2 + xt14_28h)) < (p0.Log.length : Int))) = false]) (S' := ⟨[(1, .I p1), (2, .I p2), (4, .cv (.ro Tag.t_api_Entry p4)), (5, .I p5), (6, .P 25700), (12, .P 25701), (14, .I xt14_28h), (81, .B false)], [(25700, .raw [.I p0.Epoch, .I p0.Vote, .I p0.Commit, .ro Tag.t_api_Entry p0.Log]), (25701, .raw [.I 0, .I 0, .I 0, .N])]⟩) (by kernel_rfl) (And.intro (decide_eq_true c6) (decide_eq_false c7)) ?_
              refine awp_false (b := false) (by kernel_rfl) (rfl) ?_
              refine awp_turn (Turns.trans (Turns.keep [1, 2, 4, 5, 6, 12, 14] [25700, 25701] (S' := ⟨[(1, .I p1), (2, .I p2), (4, .cv (.ro Tag.t_api_Entry p4)), (5, .I p5), (6, .P 25700), (12, .P 25701), (14, .I xt14_28h)], [(25700, .raw [.I p0.Epoch, .I p0.Vote, .I p0.Commit, .ro Tag.t_api_Entry p0.Log]), (25701, .raw [.I 0, .I 0, .I 0, .N])]⟩) (by kernel_rfl)) (Turns.ren [(25700, 25600), (25701, 25601)] (S' := ⟨[(1, .I p1), (2, .I p2), (4, .cv (.ro Tag.t_api_Entry p4)), (5, .I p5), (6, .P 25600), (12, .P 25601), (14, .I xt14_28h)], [(25600, .raw [.I p0.Epoch, .I p0.Vote, .I p0.Commit, .ro Tag.t_api_Entry p0.Log]), (25601, .raw [.I 0, .I 0, .I 0, .N])]⟩) (by kernel_rfl) (by kernel_rfl))) ?_
              refine awp_exit [1, 2, 4, 5, 6, 12, 14] [25600, 25601] (S' := ⟨[(1, .I p1), (2, .I p2), (4, .cv (.ro Tag.t_api_Entry p4)), (5, .I p5), (6, .P 25600), (12, .P 25601), (14, .I xt14_28h)], [(25600, .raw [.I p0.Epoch, .I p0.Vote, .I p0.Commit, .ro Tag.t_api_Entry p0.Log]), (25601, .raw [.I 0, .I 0, .I 0, .N])]⟩) (by kernel_rfl) ?_
              have hr := Option.some.inj h
              subst hr
              exact ⟨rfl, _, rfl, rfl⟩
          · refine awp_draw L mixed 256 [(4, false)] [] [] [] 27 [1, 2, 4, 5, 6, 12, 14, 81] [25700, 25701] (cs := [(decide (xt14_28h < (p4.length : Int))) = false]) (S' := ⟨[(1, .I p1), (2, .I p2), (4, .cv (.ro Tag.t_api_Entry p4)), (5, .I p5), (6, .P 25700), (12, .P 25701), (14, .I xt14_28h), (81, .B false)], [(25700, .raw [.I p0.Epoch, .I p0.Vote, .I p0.Commit, .ro Tag.t_api_Entry p0.Log]), (25701, .raw [.I 0, .I 0, .I 0, .N])]⟩) (by kernel_rfl) (decide_eq_false c6) ?_
            refine awp_false (b := false) (by kernel_rfl) (rfl) ?_
            refine awp_turn (Turns.trans (Turns.keep [1, 2, 4, 5, 6, 12, 14] [25700, 25701] (S' := ⟨[(1, .I p1), (2, .I p2), (4, .cv (.ro Tag.t_api_Entry p4)), (5, .I p5), (6, .P 25700), (12, .P 25701), (14, .I xt14_28h)], [(25700, .raw [.I p0.Epoch, .I p0.Vote, .I p0.Commit, .ro Tag.t_api_Entry p0.Log]), (25701, .raw [.I 0, .I 0, .I 0, .N])]⟩) (by kernel_rfl)) (Turns.ren [(25700, 25600), (25701, 25601)] (S' := ⟨[(1, .I p1), (2, .I p2), (4, .cv (.ro Tag.t_api_Entry p4)), (5, .I p5), (6, .P 25600), (12, .P 25601), (14, .I xt14_28h)], [(25600, .raw [.I p0.Epoch, .I p0.Vote, .I p0.Commit, .ro Tag.t_api_Entry p0.Log]), (25601, .raw [.I 0, .I 0, .I 0, .N])]⟩) (by kernel_rfl) (by kernel_rfl))) ?_
            refine awp_exit [1, 2, 4, 5, 6, 12, 14] [25600, 25601] (S' := ⟨[(1, .I p1), (2, .I p2), (4, .cv (.ro Tag.t_api_Entry p4)), (5, .I p5), (6, .P 25600), (12, .P 25601), (14, .I xt14_28h)], [(25600, .raw [.I p0.Epoch, .I p0.Vote, .I p0.Commit, .ro Tag.t_api_Entry p0.Log]), (25601, .raw [.I 0, .I 0, .I 0, .N])]⟩) (by kernel_rfl) ?_
            have hr := Option.some.inj h
            subst hr
            exact ⟨rfl, _, rfl, rfl⟩
        · rintro e S ⟨rfl, xt14_28, rfl, rfl⟩
          refine ⟨_, Turns.refl, ?_⟩
          obtain ⟨o3, hp3, h⟩ := bind_some h
          refine awp_seq (awp_mono (Q' := fun e S => (e = .normal ∧ ∃ xt15_37 : Bool, S = ⟨[(1, .I p1), (2, .I p2), (4, .cv (.ro Tag.t_api_Entry p4)), (5, .I p5), (6, .P 27400), (12, .P 27401), (14, .I xt14_28), (15, .B xt15_37)], [(27400, .raw [.I p0.Epoch, .I p0.Vote, .I p0.Commit, .ro Tag.t_api_Entry p0.Log]), (27401, .raw [.I 0, .I 0, .I 0, .N])]⟩ ∧ xt15_37 = o3)) ?_ ?_)
          · clear h
            replace h := hp3
            rcases ite_some h with ⟨c9, h⟩ | ⟨c9, h⟩
            · refine awp_post (awp_region L 288 [(4, true)] [] [] [1, 2, 4, 5, 6, 12, 14, 15] [25600, 25601] (cs := [(decide (xt14_28 < (p4.length : Int))) = true]) (S' := ⟨[(1, .I p1), (2, .I p2), (4, .cv (.ro Tag.t_api_Entry p4)), (5, .I p5), (6, .P 25600), (12, .P 25601), (14, .I xt14_28), (15, .B ((decide ((IntKind.i64.wrap (p2 + xt14_28)) < (p0.Log.length : Int)))))], [(25600, .raw [.I p0.Epoch, .I p0.Vote, .I p0.Commit, .ro Tag.t_api_Entry p0.Log]), (25601, .raw [.I 0, .I 0, .I 0, .N])]⟩) (by kernel_rfl) (decide_eq_true c9) ⟨rfl, rfl⟩) (Turns.trans (Turns.keep [1, 2, 4, 5, 6, 12, 14, 15] [25600, 25601] (S' := ⟨[(1, .I p1), (2, .I p2), (4, .cv (.ro Tag.t_api_Entry p4)), (5, .I p5), (6, .P 25600), (12, .P 25601), (14, .I xt14_28), (15, .B ((decide ((IntKind.i64.wrap (p2 + xt14_28)) < (p0.Log.length : Int)))))], [(25600, .raw [.I p0.Epoch, .I p0.Vote, .I p0.Commit, .ro Tag.t_api_Entry p0.Log]), (25601, .raw [.I 0, .I 0, .I 0, .N])]⟩) (by kernel_rfl)) (Turns.trans (Turns.ren [(25600, 27400), (25601, 27401)] (S' := ⟨[(1, .I p1), (2, .I p2), (4, .cv (.ro Tag.t_api_Entry p4)), (5, .I p5), (6, .P 27400), (12, .P 27401), (14, .I xt14_28), (15, .B ((decide ((IntKind.i64.wrap (p2 + xt14_28)) < (p0.Log.length : Int)))))], [(27400, .raw [.I p0.Epoch, .I p0.Vote, .I p0.Commit, .ro Tag.t_api_Entry p0.Log]), (27401, .raw [.I 0, .I 0, .I 0, .N])]⟩) (by kernel_rfl) (by kernel_rfl)) (Turns.keep [1, 2, 4, 5, 6, 12, 14, 15] [27400, 27401] (S' := ⟨[(1, .I p1), (2, .I p2), (4, .cv (.ro Tag.t_api_Entry p4)), (5, .I p5), (6, .P 27400), (12, .P 27401), (14, .I xt14_28), (15, .B ((decide ((IntKind.i64.wrap (p2 + xt14_28)) < (p0.Log.length : Int)))))], [(27400, .raw [.I p0.Epoch, .I p0.Vote, .I p0.Commit, .ro Tag.t_api_Entry p0.Log]), (27401, .raw [.I 0, .I 0, .I 0, .N])]⟩) (by kernel_rfl)))) ?_
              have hr := Option.some.inj h
              subst hr
              exact ⟨rfl, _, rfl, rfl⟩
            · refine awp_post (awp_region L 288 [(4, false)] [] [] [1, 2, 4, 5, 6, 12, 14, 15] [25600, 25601] (cs := [(decide (xt14_28 < (p4.length : Int))) = false]) (S' := ⟨[(1, .I p1), (2, .I p2), (4, .cv (.ro Tag.t_api_Entry p4)), (5, .I p5), (6, .P 25600), (12, .P 25601), (14, .I xt14_28), (15, .B false)], [(25600, .raw [.I p0.Epoch, .I p0.Vote, .I p0.Commit, .ro Tag.t_api_Entry p0.Log]), (25601, .raw [.I 0, .I 0, .I 0, .N])]⟩) (by kernel_rfl) (decide_eq_false c9) ⟨rfl, rfl⟩) (Turns.trans (Turns.keep [1, 2, 4, 5, 6, 12, 14, 15] [25600, 25601] (S' := ⟨[(1, .I p1), (2, .I p2), (4, .cv (.ro Tag.t_api_Entry p4)), (5, .I p5), (6, .P 25600), (12, .P 25601), (14, .I xt14_28), (15, .B false)], [(25600, .raw [.I p0.Epoch, .I p0.Vote, .I p0.Commit, .ro Tag.t_api_Entry p0.Log]), (25601, .raw [.I 0, .I 0, .I 0, .N])]⟩) (by kernel_rfl)) (Turns.trans (Turns.ren [(25600, 27400), (25601, 27401)] (S' := ⟨[(1, .I p1), (2, .I p2), (4, .cv (.ro Tag.t_api_Entry p4)), (5, .I p5), (6, .P 27400), (12, .P 27401), (14, .I xt14_28), (15, .B false)], [(27400, .raw [.I p0.Epoch, .I p0.Vote, .I p0.Commit, .ro Tag.t_api_Entry p0.Log]), (27401, .raw [.I 0, .I 0, .I 0, .N])]⟩) (by kernel_rfl) (by kernel_rfl)) (Turns.keep [1, 2, 4, 5, 6, 12, 14, 15] [27400, 27401] (S' := ⟨[(1, .I p1), (2, .I p2), (4, .cv (.ro Tag.t_api_Entry p4)), (5, .I p5), (6, .P 27400), (12, .P 27401), (14, .I xt14_28), (15, .B false)], [(27400, .raw [.I p0.Epoch, .I p0.Vote, .I p0.Commit, .ro Tag.t_api_Entry p0.Log]), (27401, .raw [.I 0, .I 0, .I 0, .N])]⟩) (by kernel_rfl)))) ?_
              have hr := Option.some.inj h
              subst hr
              exact ⟨rfl, _, rfl, rfl⟩
          · rintro e S ⟨rfl, xt15_37, rfl, rfl⟩
            refine awp_seq ?_
            refine awp_block ?_
            obtain ⟨o4, hp4, h⟩ := bind_some h
            refine awp_seq (awp_mono (Q' := fun e S => (e = .normal ∧ ∃ xt97_41 : Bool, S = ⟨[(1, .I p1), (2, .I p2), (4, .cv (.ro Tag.t_api_Entry p4)), (5, .I p5), (6, .P 28200), (12, .P 28201), (14, .I xt14_28), (15, .B xt15_37), (97, .B xt97_41)], [(28200, .raw [.I p0.Epoch, .I p0.Vote, .I p0.Commit, .ro Tag.t_api_Entry p0.Log]), (28201, .raw [.I 0, .I 0, .I 0, .N])]⟩ ∧ xt97_41 = o4)) ?_ ?_)
            · clear h
              replace h := hp4
              rcases ite_some h with ⟨c10, h⟩ | ⟨c10, h⟩
              · refine awp_post (awp_region L 303 [(1, true)] [] [] [1, 2, 4, 5, 6, 12, 14, 15, 97] [27400, 27401] (cs := [xt15_37 = true]) (S' := ⟨[(1, .I p1), (2, .I p2), (4, .cv (.ro Tag.t_api_Entry p4)), (5, .I p5), (6, .P 27400), (12, .P 27401), (14, .I xt14_28), (15, .B xt15_37), (97, .B ((decide ((IntKind.i64.wrap (p2 + xt14_28)) < p0.Commit))))], [(27400, .raw [.I p0.Epoch, .I p0.Vote, .I p0.Commit, .ro Tag.t_api_Entry p0.Log]), (27401, .raw [.I 0, .I 0, .I 0, .N])]⟩) (by kernel_rfl) c10 ⟨rfl, rfl⟩) (Turns.trans (Turns.keep [1, 2, 4, 5, 6, 12, 14, 15, 97] [27400, 27401] (S' := ⟨[(1, .I p1), (2, .I p2), (4, .cv (.ro Tag.t_api_Entry p4)), (5, .I p5), (6, .P 27400), (12, .P 27401), (14, .I xt14_28), (15, .B xt15_37), (97, .B ((decide ((IntKind.i64.wrap (p2 + xt14_28)) < p0.Commit))))], [(27400, .raw [.I p0.Epoch, .I p0.Vote, .I p0.Commit, .ro Tag.t_api_Entry p0.Log]), (27401, .raw [.I 0, .I 0, .I 0, .N])]⟩) (by kernel_rfl)) (Turns.trans (Turns.ren [(27400, 28200), (27401, 28201)] (S' := ⟨[(1, .I p1), (2, .I p2), (4, .cv (.ro Tag.t_api_Entry p4)), (5, .I p5), (6, .P 28200), (12, .P 28201), (14, .I xt14_28), (15, .B xt15_37), (97, .B ((decide ((IntKind.i64.wrap (p2 + xt14_28)) < p0.Commit))))], [(28200, .raw [.I p0.Epoch, .I p0.Vote, .I p0.Commit, .ro Tag.t_api_Entry p0.Log]), (28201, .raw [.I 0, .I 0, .I 0, .N])]⟩) (by kernel_rfl) (by kernel_rfl)) (Turns.keep [1, 2, 4, 5, 6, 12, 14, 15, 97] [28200, 28201] (S' := ⟨[(1, .I p1), (2, .I p2), (4, .cv (.ro Tag.t_api_Entry p4)), (5, .I p5), (6, .P 28200), (12, .P 28201), (14, .I xt14_28), (15, .B xt15_37), (97, .B ((decide ((IntKind.i64.wrap (p2 + xt14_28)) < p0.Commit))))], [(28200, .raw [.I p0.Epoch, .I p0.Vote, .I p0.Commit, .ro Tag.t_api_Entry p0.Log]), (28201, .raw [.I 0, .I 0, .I 0, .N])]⟩) (by kernel_rfl)))) ?_
                have hr := Option.some.inj h
                subst hr
                exact ⟨rfl, _, rfl, rfl⟩
              · refine awp_post (awp_region L 303 [(1, false)] [] [] [1, 2, 4, 5, 6, 12, 14, 15, 97] [27400, 27401] (cs := [xt15_37 = false]) (S' := ⟨[(1, .I p1), (2, .I p2), (4, .cv (.ro Tag.t_api_Entry p4)), (5, .I p5), (6, .P 27400), (12, .P 27401), (14, .I xt14_28), (15, .B xt15_37), (97, .B false)], [(27400, .raw [.I p0.Epoch, .I p0.Vote, .I p0.Commit, .ro Tag.t_api_Entry p0.Log]), (27401, .raw [.I 0, .I 0, .I 0, .N])]⟩) (by kernel_rfl) (eq_false_of_ne_true c10) ⟨rfl, rfl⟩) (Turns.trans (Turns.keep [1, 2, 4, 5, 6, 12, 14, 15, 97] [27400, 27401] (S' := ⟨[(1, .I p1), (2, .I p2), (4, .cv (.ro Tag.t_api_Entry p4)), (5, .I p5), (6, .P 27400), (12, .P 27401), (14, .I xt14_28), (15, .B xt15_37), (97, .B false)], [(27400, .raw [.I p0.Epoch, .I p0.Vote, .I p0.Commit, .ro Tag.t_api_Entry p0.Log]), (27401, .raw [.I 0, .I 0, .I 0, .N])]⟩) (by kernel_rfl)) (Turns.trans (Turns.ren [(27400, 28200), (27401, 28201)] (S' := ⟨[(1, .I p1), (2, .I p2), (4, .cv (.ro Tag.t_api_Entry p4)), (5, .I p5), (6, .P 28200), (12, .P 28201), (14, .I xt14_28), (15, .B xt15_37), (97, .B false)], [(28200, .raw [.I p0.Epoch, .I p0.Vote, .I p0.Commit, .ro Tag.t_api_Entry p0.Log]), (28201, .raw [.I 0, .I 0, .I 0, .N])]⟩) (by kernel_rfl) (by kernel_rfl)) (Turns.keep [1, 2, 4, 5, 6, 12, 14, 15, 97] [28200, 28201] (S' := ⟨[(1, .I p1), (2, .I p2), (4, .cv (.ro Tag.t_api_Entry p4)), (5, .I p5), (6, .P 28200), (12, .P 28201), (14, .I xt14_28), (15, .B xt15_37), (97, .B false)], [(28200, .raw [.I p0.Epoch, .I p0.Vote, .I p0.Commit, .ro Tag.t_api_Entry p0.Log]), (28201, .raw [.I 0, .I 0, .I 0, .N])]⟩) (by kernel_rfl)))) ?_
                have hr := Option.some.inj h
                subst hr
                exact ⟨rfl, _, rfl, rfl⟩
            · rintro e S ⟨rfl, xt97_41, rfl, rfl⟩
              rcases ite_some h with ⟨c11, h⟩ | ⟨c11, h⟩
              · refine awp_true (b := xt97_41) (by kernel_rfl) (c11) ?_
                refine awp_seq ?_
                refine awp_region L 314 [] [] [] [12, 13] [28201] (cs := []) (S' := ⟨[(12, .P 28201), (13, .I 16)], [(28201, .raw [.I 0, .I 0, .I 0, .N])]⟩) (by kernel_rfl) trivial ?_
                refine awp_turn (Turns.trans (Turns.keep [12, 13] [28201] (S' := ⟨[(12, .P 28201), (13, .I 16)], [(28201, .raw [.I 0, .I 0, .I 0, .N])]⟩) (by kernel_rfl)) (Turns.ren [(28201, 100)] (S' := ⟨[(12, .P 100), (13, .I 16)], [(100, .raw [.I 0, .I 0, .I 0, .N])]⟩) (by kernel_rfl) (by kernel_rfl))) ?_
                refine awp_ret ?_
                have hr := Option.some.inj h
                subst hr
                exact ⟨.inr rfl, .tup [.agg [.I 0, .I 0, .I 0, .N], .I 16], by kernel_rfl, by kernel_rfl, by kernel_rfl⟩
              · refine awp_false (b := xt97_41) (by kernel_rfl) (eq_false_of_ne_true c11) ?_
                refine awp_seq ?_
                refine awp_region L 318 [] [] [] [1, 2, 4, 5, 6, 12, 14, 15, 108] [28200, 28201] (cs := []) (S' := ⟨[(1, .I p1), (2, .I p2), (4, .cv (.ro Tag.t_api_Entry p4)), (5, .I p5), (6, .P 28200), (12, .P 28201), (14, .I xt14_28), (15, .B xt15_37), (108, .B ((decide ((p4.length : Int) > (IntKind.i64.wrap (5000 - p2))))))], [(28200, .raw [.I p0.Epoch, .I p0.Vote, .I p0.Commit, .ro Tag.t_api_Entry p0.Log]), (28201, .raw [.I 0, .I 0, .I 0, .N])]⟩) (by kernel_rfl) trivial ?_
                rcases ite_some h with ⟨c12, h⟩ | ⟨c12, h⟩
                · refine awp_true (b := (decide ((p4.length : Int) > (IntKind.i64.wrap (5000 - p2))))) (by kernel_rfl) (decide_eq_true c12) ?_
                  refine awp_seq ?_
                  refine awp_region L 325 [] [] [] [12, 13] [28201] (cs := []) (S' := ⟨[(12, .P 28201), (13, .I 18)], [(28201, .raw [.I 0, .I 0, .I 0, .N])]⟩) (by kernel_rfl) trivial ?_
                  refine awp_turn (Turns.trans (Turns.keep [12, 13] [28201] (S' := ⟨[(12, .P 28201), (13, .I 18)], [(28201, .raw [.I 0, .I 0, .I 0, .N])]⟩) (by kernel_rfl)) (Turns.ren [(28201, 100)] (S' := ⟨[(12, .P 100), (13, .I 18)], [(100, .raw [.I 0, .I 0, .I 0, .N])]⟩) (by kernel_rfl) (by kernel_rfl))) ?_
                  refine awp_ret ?_
                  have hr := Option.some.inj h
                  subst hr
                  exact ⟨.inr rfl, .tup [.agg [.I 0, .I 0, .I 0, .N], .I 18], by kernel_rfl, by kernel_rfl, by kernel_rfl⟩
                · refine awp_false (b := (decide ((p4.length : Int) > (IntKind.i64.wrap (5000 - p2))))) (by kernel_rfl) (decide_eq_false c12) ?_
                  refine awp_skip [1, 2, 4, 5, 6, 12, 14, 15] [28200, 28201] (S' := ⟨[(1, .I p1), (2, .I p2), (4, .cv (.ro Tag.t_api_Entry p4)), (5, .I p5), (6, .P 28200), (12, .P 28201), (14, .I xt14_28), (15, .B xt15_37)], [(28200, .raw [.I p0.Epoch, .I p0.Vote, .I p0.Commit, .ro Tag.t_api_Entry p0.Log]), (28201, .raw [.I 0, .I 0, .I 0, .N])]⟩) (by kernel_rfl) ?_
                  refine awp_seq ?_
                  refine awp_region L 329 [] [] [] [1, 2, 4, 6, 12, 14, 15, 16] [342, 28200, 28201] (cs := []) (S' := ⟨[(1, .I p1), (2, .I p2), (4, .cv (.ro Tag.t_api_Entry p4)), (6, .P 28200), (12, .P 28201), (14, .I xt14_28), (15, .B xt15_37), (16, .P 342)], [(342, .raw [.I p1, .I p0.Vote, .I ((if (if (IntKind.i64.wrap (p2 + (p4.length : Int))) < p5 then (IntKind.i64.wrap (p2 + (p4.length : Int))) else p5) > p0.Commit then (if (IntKind.i64.wrap (p2 + (p4.length : Int))) < p5 then (IntKind.i64.wrap (p2 + (p4.length : Int))) else p5) else p0.Commit)), .N]), (28200, .raw [.I p0.Epoch, .I p0.Vote, .I p0.Commit, .ro Tag.t_api_Entry p0.Log]), (28201, .raw [.I 0, .I 0, .I 0, .N])]⟩) (by kernel_rfl) trivial ?_
                  obtain ⟨o5, hp5, h⟩ := bind_some h
                  refine awp_seq (awp_mono (Q' := fun e S => (e = .normal ∧ ∃ xh31202_1_56 : Int, S = ⟨[(2, .I p2), (4, .cv (.ro Tag.t_api_Entry p4)), (6, .P 31200), (12, .P 31201), (14, .I xt14_28), (15, .B xt15_37), (16, .P 31202)], [(31200, .raw [.I p0.Epoch, .I p0.Vote, .I p0.Commit, .ro Tag.t_api_Entry p0.Log]), (31201, .raw [.I 0, .I 0, .I 0, .N]), (31202, .raw [.I p1, .I xh31202_1_56, .I ((if (if (IntKind.i64.wrap (p2 + (p4.length : Int))) < p5 then (IntKind.i64.wrap (p2 + (p4.length : Int))) else p5) > p0.Commit then (if (IntKind.i64.wrap (p2 + (p4.length : Int))) < p5 then (IntKind.i64.wrap (p2 + (p4.length : Int))) else p5) else p0.Commit)), .N])]⟩ ∧ xh31202_1_56 = o5)) ?_ ?_)
                  · clear h
                    replace h := hp5
                    refine awp_seq ?_
                    refine awp_region L 345 [] [] [] [2, 4, 6, 12, 14, 15, 16, 131] [342, 28200, 28201] (cs := []) (S' := ⟨[(2, .I p2), (4, .cv (.ro Tag.t_api_Entry p4)), (6, .P 28200), (12, .P 28201), (14, .I xt14_28), (15, .B xt15_37), (16, .P 342), (131, .B ((decide (p1 > p0.Epoch))))], [(342, .raw [.I p1, .I p0.Vote, .I ((if (if (IntKind.i64.wrap (p2 + (p4.length : Int))) < p5 then (IntKind.i64.wrap (p2 + (p4.length : Int))) else p5) > p0.Commit then (if (IntKind.i64.wrap (p2 + (p4.length : Int))) < p5 then (IntKind.i64.wrap (p2 + (p4.length : Int))) else p5) else p0.Commit)), .N]), (28200, .raw [.I p0.Epoch, .I p0.Vote, .I p0.Commit, .ro Tag.t_api_Entry p0.Log]), (28201, .raw [.I 0, .I 0, .I 0, .N])]⟩) (by kernel_rfl) trivial ?_
                    rcases ite_some h with ⟨c13, h⟩ | ⟨c13, h⟩
                    · refine awp_true (b := (decide (p1 > p0.Epoch))) (by kernel_rfl) (decide_eq_true c13) ?_
                      refine awp_post (awp_region L 350 [] [] [] [2, 4, 6, 12, 14, 15, 16] [342, 28200, 28201] (cs := []) (S' := ⟨[(2, .I p2), (4, .cv (.ro Tag.t_api_Entry p4)), (6, .P 28200), (12, .P 28201), (14, .I xt14_28), (15, .B xt15_37), (16, .P 342)], [(342, .raw [.I p1, .I (-1), .I ((if (if (IntKind.i64.wrap (p2 + (p4.length : Int))) < p5 then (IntKind.i64.wrap (p2 + (p4.length : Int))) else p5) > p0.Commit then (if (IntKind.i64.wrap (p2 + (p4.length : Int))) < p5 then (IntKind.i64.wrap (p2 + (p4.length : Int))) else p5) else p0.Commit)), .N]), (28200, .raw [.I p0.Epoch, .I p0.Vote, .I p0.Commit, .ro Tag.t_api_Entry p0.Log]), (28201, .raw [.I 0, .I 0, .I 0, .N])]⟩) (by kernel_rfl) trivial ⟨rfl, rfl⟩) (Turns.trans (Turns.keep [2, 4, 6, 12, 14, 15, 16] [342, 28200, 28201] (S' := ⟨[(2, .I p2), (4, .cv (.ro Tag.t_api_Entry p4)), (6, .P 28200), (12, .P 28201), (14, .I xt14_28), (15, .B xt15_37), (16, .P 342)], [(342, .raw [.I p1, .I (-1), .I ((if (if (IntKind.i64.wrap (p2 + (p4.length : Int))) < p5 then (IntKind.i64.wrap (p2 + (p4.length : Int))) else p5) > p0.Commit then (if (IntKind.i64.wrap (p2 + (p4.length : Int))) < p5 then (IntKind.i64.wrap (p2 + (p4.length : Int))) else p5) else p0.Commit)), .N]), (28200, .raw [.I p0.Epoch, .I p0.Vote, .I p0.Commit, .ro Tag.t_api_Entry p0.Log]), (28201, .raw [.I 0, .I 0, .I 0, .N])]⟩) (by kernel_rfl)) (Turns.trans (Turns.ren [(342, 31202), (28200, 31200), (28201, 31201)] (S' := ⟨[(2, .I p2), (4, .cv (.ro Tag.t_api_Entry p4)), (6, .P 31200), (12, .P 31201), (14, .I xt14_28), (15, .B xt15_37), (16, .P 31202)], [(31202, .raw [.I p1, .I (-1), .I ((if (if (IntKind.i64.wrap (p2 + (p4.length : Int))) < p5 then (IntKind.i64.wrap (p2 + (p4.length : Int))) else p5) > p0.Commit then (if (IntKind.i64.wrap (p2 + (p4.length : Int))) < p5 then (IntKind.i64.wrap (p2 + (p4.length : Int))) else p5) else p0.Commit)), .N]), (31200, .raw [.I p0.Epoch, .I p0.Vote, .I p0.Commit, .ro Tag.t_api_Entry p0.Log]), (31201, .raw [.I 0, .I 0, .I 0, .N])]⟩) (by kernel_rfl) (by kernel_rfl)) (Turns.keep [2, 4, 6, 12, 14, 15, 16] [31200, 31201, 31202] (S' := ⟨[(2, .I p2), (4, .cv (.ro Tag.t_api_Entry p4)), (6, .P 31200), (12, .P 31201), (14, .I xt14_28), (15, .B xt15_37), (16, .P 31202)], [(31200, .raw [.I p0.Epoch, .I p0.Vote, .I p0.Commit, .ro Tag.t_api_Entry p0.Log]), (31201, .raw [.I 0, .I 0, .I 0, .N]), (31202, .raw [.I p1, .I (-1), .I ((if (if (IntKind.i64.wrap (p2 + (p4.length : Int))) < p5 then (IntKind.i64.wrap (p2 + (p4.length : Int))) else p5) > p0.Commit then (if (IntKind.i64.wrap (p2 + (p4.length : Int))) < p5 then (IntKind.i64.wrap (p2 + (p4.length : Int))) else p5) else p0.Commit)), .N])]⟩) (by kernel_rfl)))) ?_
                      have hr := Option.some.inj h
                      subst hr
                      exact ⟨rfl, _, rfl, rfl⟩
                    · refine awp_false (b := (decide (p1 > p0.Epoch))) (by kernel_rfl) (decide_eq_false c13) ?_
                      refine awp_turn (Turns.trans (Turns.keep [2, 4, 6, 12, 14, 15, 16] [342, 28200, 28201] (S' := ⟨[(2, .I p2), (4, .cv (.ro Tag.t_api_Entry p4)), (6, .P 28200), (12, .P 28201), (14, .I xt14_28), (15, .B xt15_37), (16, .P 342)], [(342, .raw [.I p1, .I p0.Vote, .I ((if (if (IntKind.i64.wrap (p2 + (p4.length : Int))) < p5 then (IntKind.i64.wrap (p2 + (p4.length : Int))) else p5) > p0.Commit then (if (IntKind.i64.wrap (p2 + (p4.length : Int))) < p5 then (IntKind.i64.wrap (p2 + (p4.length : Int))) else p5) else p0.Commit)), .N]), (28200, .raw [.I p0.Epoch, .I p0.Vote, .I p0.Commit, .ro Tag.t_api_Entry p0.Log]), (28201, .raw [.I 0, .I 0, .I 0, .N])]⟩) (by kernel_rfl)) (Turns.ren [(342, 31202), (28200, 31200), (28201, 31201)] (S' := ⟨[(2, .I p2), (4, .cv (.ro Tag.t_api_Entry p4)), (6, .P 31200), (12, .P 31201), (14, .I xt14_28), (15, .B xt15_37), (16, .P 31202)], [(31202, .raw [.I p1, .I p0.Vote, .I ((if (if (IntKind.i64.wrap (p2 + (p4.length : Int))) < p5 then (IntKind.i64.wrap (p2 + (p4.length : Int))) else p5) > p0.Commit then (if (IntKind.i64.wrap (p2 + (p4.length : Int))) < p5 then (IntKind.i64.wrap (p2 + (p4.length : Int))) else p5) else p0.Commit)), .N]), (31200, .raw [.I p0.Epoch, .I p0.Vote, .I p0.Commit, .ro Tag.t_api_Entry p0.Log]), (31201, .raw [.I 0, .I 0, .I 0, .N])]⟩) (by kernel_rfl) (by kernel_rfl))) ?_
                      refine awp_skip [2, 4, 6, 12, 14, 15, 16] [31200, 31201, 31202] (S' := ⟨[(2, .I p2), (4, .cv (.ro Tag.t_api_Entry p4)), (6, .P 31200), (12, .P 31201), (14, .I xt14_28), (15, .B xt15_37), (16, .P 31202)], [(31200, .raw [.I p0.Epoch, .I p0.Vote, .I p0.Commit, .ro Tag.t_api_Entry p0.Log]), (31201, .raw [.I 0, .I 0, .I 0, .N]), (31202, .raw [.I p1, .I p0.Vote, .I ((if (if (IntKind.i64.wrap (p2 + (p4.length : Int))) < p5 then (IntKind.i64.wrap (p2 + (p4.length : Int))) else p5) > p0.Commit then (if (IntKind.i64.wrap (p2 + (p4.length : Int))) < p5 then (IntKind.i64.wrap (p2 + (p4.length : Int))) else p5) else p0.Commit)), .N])]⟩) (by kernel_rfl) ?_
                      have hr := Option.some.inj h
                      subst hr
                      exact ⟨rfl, _, rfl, rfl⟩
                  · rintro e S ⟨rfl, xh31202_1_56, rfl, rfl⟩
                    refine awp_seq ?_
                    refine awp_seq ?_
                    refine awp_region L 353 [] [] [] [2, 4, 6, 12, 14, 16, 133] [31200, 31201, 31202] (cs := []) (S' := ⟨[(2, .I p2), (4, .cv (.ro Tag.t_api_Entry p4)), (6, .P 31200), (12, .P 31201), (14, .I xt14_28), (16, .P 31202), (133, .B xt15_37)], [(31200, .raw [.I p0.Epoch, .I p0.Vote, .I p0.Commit, .ro Tag.t_api_Entry p0.Log]), (31201, .raw [.I 0, .I 0, .I 0, .N]), (31202, .raw [.I p1, .I xh31202_1_56, .I ((if (if (IntKind.i64.wrap (p2 + (p4.length : Int))) < p5 then (IntKind.i64.wrap (p2 + (p4.length : Int))) else p5) > p0.Commit then (if (IntKind.i64.wrap (p2 + (p4.length : Int))) < p5 then (IntKind.i64.wrap (p2 + (p4.length : Int))) else p5) else p0.Commit)), .N])]⟩) (by kernel_rfl) trivial ?_
                    rcases ite_some h with ⟨c14, h⟩ | ⟨c14, h⟩
                    · refine awp_true (b := xt15_37) (by kernel_rfl) (c14) ?_
                      obtain ⟨g4, h⟩ := guard_some h
                      obtain ⟨a3, h3, h⟩ := bind_some h
                      obtain ⟨a4, h4, h⟩ := bind_some h
                      obtain ⟨g5, h⟩ := guard_some h
                      refine awp_region L 355 [] [(4, .cv (.ron Tag.t_api_Entry a3)), (6, .cv (.ro Tag.t_api_Entry a4))] [] [12, 16] [359, 31201, 31202] (cs := [(0 : Int) ≤ 0, (0 : Int) ≤ p2, p2 ≤ (p0.Log.length : Int), FCall V P 56 [.cv (.ro Tag.t_api_Entry (slc p0.Log 0 p2))] Tag.t_api_Entry a3, PCall V P 56 [.cv (.ro Tag.t_api_Entry p4)] (.cv (.ro Tag.t_api_Entry a4)), True, (a3.length + a4.length) * 32 ≤ 140737488355328, True]) (S' := ⟨[(12, .P 31201), (16, .P 31202)], [(359, .lst Tag.t_api_Entry (a3 ++ a4)), (31201, .raw [.I 0, .I 0, .I 0, .N]), (31202, .raw [.I p1, .I xh31202_1_56, .I ((if (if (IntKind.i64.wrap (p2 + (p4.length : Int))) < p5 then (IntKind.i64.wrap (p2 + (p4.length : Int))) else p5) > p0.Commit then (if (IntKind.i64.wrap (p2 + (p4.length : Int))) < p5 then (IntKind.i64.wrap (p2 + (p4.length : Int))) else p5) else p0.Commit)), .own Tag.t_api_Entry 359])]⟩) (by kernel_rfl) (And.intro (Int.le_refl _) (And.intro g4.1 (And.intro g4.2 (And.intro (replog_entries_v2.okF h3) (And.intro (replog_entries.ok h4) (And.intro trivial (And.intro g5 trivial))))))) ?_
                      refine awp_seq ?_
                      refine awp_region L 377 [] [] [] [12, 13] [359, 31201] (cs := []) (S' := ⟨[(12, .P 31201), (13, .I 0)], [(359, .lst Tag.t_api_Entry (a3 ++ a4)), (31201, .raw [.I p1, .I xh31202_1_56, .I ((if (if (IntKind.i64.wrap (p2 + (p4.length : Int))) < p5 then (IntKind.i64.wrap (p2 + (p4.length : Int))) else p5) > p0.Commit then (if (IntKind.i64.wrap (p2 + (p4.length : Int))) < p5 then (IntKind.i64.wrap (p2 + (p4.length : Int))) else p5) else p0.Commit)), .own Tag.t_api_Entry 359])]⟩) (by kernel_rfl) trivial ?_
                      refine awp_turn (Turns.trans (Turns.keep [12, 13] [359, 31201] (S' := ⟨[(12, .P 31201), (13, .I 0)], [(359, .lst Tag.t_api_Entry (a3 ++ a4)), (31201, .raw [.I p1, .I xh31202_1_56, .I ((if (if (IntKind.i64.wrap (p2 + (p4.length : Int))) < p5 then (IntKind.i64.wrap (p2 + (p4.length : Int))) else p5) > p0.Commit then (if (IntKind.i64.wrap (p2 + (p4.length : Int))) < p5 then (IntKind.i64.wrap (p2 + (p4.length : Int))) else p5) else p0.Commit)), .own Tag.t_api_Entry 359])]⟩) (by kernel_rfl)) (Turns.trans (Turns.frz 359 (blk0 := .lst Tag.t_api_Entry (a3 ++ a4)) (by kernel_rfl) (by kernel_rfl) (S' := ⟨[(12, .P 31201), (13, .I 0)], [(31201, .raw [.I p1, .I xh31202_1_56, .I ((if (if (IntKind.i64.wrap (p2 + (p4.length : Int))) < p5 then (IntKind.i64.wrap (p2 + (p4.length : Int))) else p5) > p0.Commit then (if (IntKind.i64.wrap (p2 + (p4.length : Int))) < p5 then (IntKind.i64.wrap (p2 + (p4.length : Int))) else p5) else p0.Commit)), .ro Tag.t_api_Entry (a3 ++ a4)])]⟩) (by kernel_rfl)) (Turns.trans (Turns.keep [12, 13] [31201] (S' := ⟨[(12, .P 31201), (13, .I 0)], [(31201, .raw [.I p1, .I xh31202_1_56, .I ((if (if (IntKind.i64.wrap (p2 + (p4.length : Int))) < p5 then (IntKind.i64.wrap (p2 + (p4.length : Int))) else p5) > p0.Commit then (if (IntKind.i64.wrap (p2 + (p4.length : Int))) < p5 then (IntKind.i64.wrap (p2 + (p4.length : Int))) else p5) else p0.Commit)), .ro Tag.t_api_Entry (a3 ++ a4)])]⟩) (by kernel_rfl)) (Turns.ren [(31201, 100)] (S' := ⟨[(12, .P 100), (13, .I 0)], [(100, .raw [.I p1, .I xh31202_1_56, .I ((if (if (IntKind.i64.wrap (p2 + (p4.length : Int))) < p5 then (IntKind.i64.wrap (p2 + (p4.length : Int))) else p5) > p0.Commit then (if (IntKind.i64.wrap (p2 + (p4.length : Int))) < p5 then (IntKind.i64.wrap (p2 + (p4.length : Int))) else p5) else p0.Commit)), .ro Tag.t_api_Entry (a3 ++ a4)])]⟩) (by kernel_rfl) (by kernel_rfl))))) ?_
                      refine awp_ret ?_
                      have hr := Option.some.inj h
                      subst hr
                      exact ⟨.inr rfl, .tup [.agg [.I p1, .I xh31202_1_56, .I ((if (if (IntKind.i64.wrap (p2 + (p4.length : Int))) < p5 then (IntKind.i64.wrap (p2 + (p4.length : Int))) else p5) > p0.Commit then (if (IntKind.i64.wrap (p2 + (p4.length : Int))) < p5 then (IntKind.i64.wrap (p2 + (p4.length : Int))) else p5) else p0.Commit)), .ro Tag.t_api_Entry (a3 ++ a4)], .I 0], by kernel_rfl, by kernel_rfl, by kernel_rfl⟩
                    · refine awp_false (b := xt15_37) (by kernel_rfl) (eq_false_of_ne_true c14) ?_
                      obtain ⟨a5, h5, h⟩ := bind_some h
                      obtain ⟨g6, h⟩ := guard_some h
                      obtain ⟨a6, h6, h⟩ := bind_some h
                      obtain ⟨g7, h⟩ := guard_some h
                      refine awp_draw L mixed 366 [] [(2, .cv (.ron Tag.t_api_Entry a5)), (6, .cv (.ro Tag.t_api_Entry a6))] [] [] 7 [12, 16] [368, 31201, 31202] (cs := [FCall V P 56 [.cv (.ro Tag.t_api_Entry p0.Log)] Tag.t_api_Entry a5, (0 : Int) ≤ xt14_28, xt14_28 ≤ (p4.length : Int), (p4.length : Int) ≤ (p4.length : Int), PCall V P 56 [.cv (.ro Tag.t_api_Entry ((slc p4 xt14_28 (p4.length : Int))))] (.cv (.ro Tag.t_api_Entry a6)), True, (a5.length + a6.length) * 32 ≤ 140737488355328, True]) (S' := ⟨[(12, .P 31201), (16, .P 31202)], [(368, .lst Tag.t_api_Entry (a5 ++ a6)), (31201, .raw [.I 0, .I 0, .I 0, .N]), (31202, .raw [.I p1, .I xh31202_1_56, .I ((if (if (IntKind.i64.wrap (p2 + (p4.length : Int))) < p5 then (IntKind.i64.wrap (p2 + (p4.length : Int))) else p5) > p0.Commit then (if (IntKind.i64.wrap (p2 + (p4.length : Int))) < p5 then (IntKind.i64.wrap (p2 + (p4.length : Int))) else p5) else p0.Commit)), .own Tag.t_api_Entry 368])]⟩) (by kernel_rfl) (And.intro (replog_entries_v2.okF h5) (And.intro g6.1 (And.intro g6.2 (And.intro (Int.le_refl _) (And.intro (replog_entries.ok h6) (And.intro trivial (And.intro g7 trivial))))))) ?_
                      refine awp_seq ?_
                      refine awp_region L 377 [] [] [] [12, 13] [368, 31201] (cs := []) (S' := ⟨[(12, .P 31201), (13, .I 0)], [(368, .lst Tag.t_api_Entry (a5 ++ a6)), (31201, .raw [.I p1, .I xh31202_1_56, .I ((if (if (IntKind.i64.wrap (p2 + (p4.length : Int))) < p5 then (IntKind.i64.wrap (p2 + (p4.length : Int))) else p5) > p0.Commit then (if (IntKind.i64.wrap (p2 + (p4.length : Int))) < p5 then (IntKind.i64.wrap (p2 + (p4.length : Int))) else p5) else p0.Commit)), .own Tag.t_api_Entry 368])]⟩) (by kernel_rfl) trivial ?_
                      refine awp_turn (Turns.trans (Turns.keep [12, 13] [368, 31201] (S' := ⟨[(12, .P 31201), (13, .I 0)], [(368, .lst Tag.t_api_Entry (a5 ++ a6)), (31201, .raw [.I p1, .I xh31202_1_56, .I ((if (if (IntKind.i64.wrap (p2 + (p4.length : Int))) < p5 then (IntKind.i64.wrap (p2 + (p4.length : Int))) else p5) > p0.Commit then (if (IntKind.i64.wrap (p2 + (p4.length : Int))) < p5 then (IntKind.i64.wrap (p2 + (p4.length : Int))) else p5) else p0.Commit)), .own Tag.t_api_Entry 368])]⟩) (by kernel_rfl)) (Turns.trans (Turns.frz 368 (blk0 := .lst Tag.t_api_Entry (a5 ++ a6)) (by kernel_rfl) (by kernel_rfl) (S' := ⟨[(12, .P 31201), (13, .I 0)], [(31201, .raw [.I p1, .I xh31202_1_56, .I ((if (if (IntKind.i64.wrap (p2 + (p4.length : Int))) < p5 then (IntKind.i64.wrap (p2 + (p4.length : Int))) else p5) > p0.Commit then (if (IntKind.i64.wrap (p2 + (p4.length : Int))) < p5 then (IntKind.i64.wrap (p2 + (p4.length : Int))) else p5) else p0.Commit)), .ro Tag.t_api_Entry (a5 ++ a6)])]⟩) (by kernel_rfl)) (Turns.trans (Turns.keep [12, 13] [31201] (S' := ⟨[(12, .P 31201), (13, .I 0)], [(31201, .raw [.I p1, .I xh31202_1_56, .I ((if (if (IntKind.i64.wrap (p2 + (p4.length : Int))) < p5 then (IntKind.i64.wrap (p2 + (p4.length : Int))) else p5) > p0.Commit then (if (IntKind.i64.wrap (p2 + (p4.length : Int))) < p5 then (IntKind.i64.wrap (p2 + (p4.length : Int))) else p5) else p0.Commit)), .ro Tag.t_api_Entry (a5 ++ a6)])]⟩) (by kernel_rfl)) (Turns.ren [(31201, 100)] (S' := ⟨[(12, .P 100), (13, .I 0)], [(100, .raw [.I p1, .I xh31202_1_56, .I ((if (if (IntKind.i64.wrap (p2 + (p4.length : Int))) < p5 then (IntKind.i64.wrap (p2 + (p4.length : Int))) else p5) > p0.Commit then (if (IntKind.i64.wrap (p2 + (p4.length : Int))) < p5 then (IntKind.i64.wrap (p2 + (p4.length : Int))) else p5) else p0.Commit)), .ro Tag.t_api_Entry (a5 ++ a6)])]⟩) (by kernel_rfl) (by kernel_rfl))))) ?_
                      refine awp_ret ?_
                      have hr := Option.some.inj h
                      subst hr
                      exact ⟨.inr rfl, .tup [.agg [.I p1, .I xh31202_1_56, .I ((if (if (IntKind.i64.wrap (p2 + (p4.length : Int))) < p5 then (IntKind.i64.wrap (p2 + (p4.length : Int))) else p5) > p0.Commit then (if (IntKind.i64.wrap (p2 + (p4.length : Int))) < p5 then (IntKind.i64.wrap (p2 + (p4.length : Int))) else p5) else p0.Commit)), .ro Tag.t_api_Entry (a5 ++ a6)], .I 0], by kernel_rfl, by kernel_rfl, by kernel_rfl⟩
    · rcases h with ⟨_, e1, h⟩ | ⟨_, e1, h⟩
      · have e2 := Out.done.inj e1
        subst e2
        subst h
        exact hr
      · cases e1

theorem replog_Accept.okE {K : Nat} {p0 : api_Replica} {p1 : Int} {p2 : Int} {p3 : Int} {p4 : List api_Entry} {p5 : Int} {r : api_Replica × Int} (h : replog_Accept K p0 p1 p2 p3 p4 p5 = some r) : ECall V P 67 [.agg [.I p0.Epoch, .I p0.Vote, .I p0.Commit, .ro Tag.t_api_Entry p0.Log], .I p1, .I p2, .I p3, .cv (.ro Tag.t_api_Entry p4), .I p5] [] [] (.tup [.agg [.I ((r.1).Epoch), .I ((r.1).Vote), .I ((r.1).Commit), .ro Tag.t_api_Entry ((r.1).Log)], .I r.2]) [] :=
  ecall_of (fn := Try.f67) (n := 153) (m := 100) (by kernel_rfl) (by kernel_rfl) (by kernel_rfl) rfl (by kernel_rfl) (by kernel_rfl) fun Γ => replog_Accept.body h

theorem replog_Accept.ok {K : Nat} {p0 : api_Replica} {p1 : Int} {p2 : Int} {p3 : Int} {p4 : List api_Entry} {p5 : Int} {r : api_Replica × Int} (h : replog_Accept K p0 p1 p2 p3 p4 p5 = some r) : PCall V P 67 [.agg [.I p0.Epoch, .I p0.Vote, .I p0.Commit, .ro Tag.t_api_Entry p0.Log], .I p1, .I p2, .I p3, .cv (.ro Tag.t_api_Entry p4), .I p5] (.tup [.agg [.I ((r.1).Epoch), .I ((r.1).Vote), .I ((r.1).Commit), .ro Tag.t_api_Entry ((r.1).Log)], .I r.2]) := (replog_Accept.okE h).pcall (by kernel_rfl)

def group_Group_accept_v2 (K : Nat) (p0 : List Bool) (p1 : Int) (p2 : Int) (p3 : Int) (p4 : api_Replica) (p5 : Int) (p6 : List api_Entry) (p7 : List api_Replica) : Option (Bool × (List api_Replica)) := (Option.bind (((if p5 > 0 then (if (0 : Int) ≤ (IntKind.i64.wrap (p5 - 1)) ∧ ((IntKind.i64.wrap (p5 - 1)) : Int) < (p4.Log.length : Int) then some (((p4.Log.getD (Int.toNat ((IntKind.i64.wrap (p5 - 1)))) z_api_Entry)).Epoch) else none) else some 0)) : Option Int) (fun xt11_5 => (if (0 : Int) ≤ p3 ∧ (p3 : Int) < (p7.length : Int) then (if (Int.toNat p3) < p7.length then (Option.bind (replog_Accept K ((p7.getD (Int.toNat p3) z_api_Replica)) p4.Epoch p5 xt11_5 p6 p4.Commit) (fun (a1_0, a1_1) => (if a1_1 = 0 then some (((decide (a1_1 = 0)), (p7.set (Int.toNat p3) ((⟨(a1_0).Epoch, (a1_0).Vote, (a1_0).Commit, (a1_0).Log⟩ : api_Replica))))) else some (((decide (a1_1 = 0)), p7))))) else none) else none)))

theorem group_Group_accept_v2.body {Γ : Ent} {K : Nat} {p0 : List Bool} {p1 : Int} {p2 : Int} {p3 : Int} {p4 : api_Replica} {p5 : Int} {p6 : List api_Entry} {p7 : List api_Replica} {r : Bool × (List api_Replica)} (h : group_Group_accept_v2 K p0 p1 p2 p3 p4 p5 p6 p7 = some r) : AWp V P 48 100 Γ (Try.f57.body.getD .skip) (EndsE P V Try.f57 (.B r.1) [(0, .lst Tag.t_api_Replica r.2)]) ⟨args0 0 [.agg [.own Tag.t_api_Replica 0, .ro Tag.t_bool p0, .I p1, .I p2], .I p3, .agg [.I p4.Epoch, .I p4.Vote, .I p4.Commit, .ro Tag.t_api_Entry p4.Log], .I p5, .cv (.ro Tag.t_api_Entry p6)], [(0, .lst Tag.t_api_Replica p7)]⟩ := by
  unfold group_Group_accept_v2 at h
  refine awp_seq ?_
  refine awp_region L 200 [] [] [] [1, 3, 4, 5, 7] [0, 200, 201] (cs := []) (S' := ⟨[(1, .I p3), (3, .I p5), (4, .cv (.ro Tag.t_api_Entry p6)), (5, .P 200), (7, .P 201)], [(0, .lst Tag.t_api_Replica p7), (200, .raw [.own Tag.t_api_Replica 0, .ro Tag.t_bool p0, .I p1, .I p2]), (201, .raw [.I p4.Epoch, .I p4.Vote, .I p4.Commit, .ro Tag.t_api_Entry p4.Log])]⟩) (by kernel_rfl) trivial ?_
  refine awp_seq ?_
  refine awp_region L 204 [] [] [] [1, 3, 4, 5, 7, 11] [0, 200, 201] (cs := []) (S' := ⟨[(1, .I p3), (3, .I p5), (4, .cv (.ro Tag.t_api_Entry p6)), (5, .P 200), (7, .P 201), (11, .I 0)], [(0, .lst Tag.t_api_Replica p7), (200, .raw [.own Tag.t_api_Replica 0, .ro Tag.t_bool p0, .I p1, .I p2]), (201, .raw [.I p4.Epoch, .I p4.Vote, .I p4.Commit, .ro Tag.t_api_Entry p4.Log])]⟩) (by kernel_rfl) trivial ?_
  obtain ⟨o1, hp1, h⟩ := bind_some h
  refine awp_seq (awp_mono (Q' := fun e S => (e = .normal ∧ ∃ xt11_5 : Int, S = ⟨[(1, .I p3), (3, .I p5), (4, .cv (.ro Tag.t_api_Entry p6)), (5, .P 21000), (7, .P 21001), (11, .I xt11_5)], [(0, .lst Tag.t_api_Replica p7), (21000, .raw [.own Tag.t_api_Replica 0, .ro Tag.t_bool p0, .I p1, .I p2]), (21001, .raw [.I p4.Epoch, .I p4.Vote, .I p4.Commit, .ro Tag.t_api_Entry p4.Log])]⟩ ∧ xt11_5 = o1)) ?_ ?_)
  · clear h
    replace h := hp1
    refine awp_seq ?_
    refine awp_region L 206 [] [] [] [1, 3, 4, 5, 7, 11, 15] [0, 200, 201] (cs := []) (S' := ⟨[(1, .I p3), (3, .I p5), (4, .cv (.ro Tag.t_api_Entry p6)), (5, .P 200), (7, .P 201), (11, .I 0), (15, .B ((decide (p5 > 0))))], [(0, .lst Tag.t_api_Replica p7), (200, .raw [.own Tag.t_api_Replica 0, .ro Tag.t_bool p0, .I p1, .I p2]), (201, .raw [.I p4.Epoch, .I p4.Vote, .I p4.Commit, .ro Tag.t_api_Entry p4.Log])]⟩) (by kernel_rfl) trivial ?_
    rcases ite_some h with ⟨c1, h⟩ | ⟨c1, h⟩
    · refine awp_true (b := (decide (p5 > 0))) (by kernel_rfl) (decide_eq_true c1) ?_
      obtain ⟨g1, h⟩ := guard_some h
      refine awp_post (awp_region L 209 [] [] [] [1, 3, 4, 5, 7, 11] [0, 200, 201] (cs := [(0 : Int) ≤ (IntKind.i64.wrap (p5 - 1)), ((IntKind.i64.wrap (p5 - 1)) : Int) < (p4.Log.length : Int)]) (S' := ⟨[(1, .I p3), (3, .I p5), (4, .cv (.ro Tag.t_api_Entry p6)), (5, .P 200), (7, .P 201), (11, .I (((p4.Log.getD (Int.toNat ((IntKind.i64.wrap (p5 - 1)))) z_api_Entry)).Epoch))], [(0, .lst Tag.t_api_Replica p7), (200, .raw [.own Tag.t_api_Replica 0, .ro Tag.t_bool p0, .I p1, .I p2]), (201, .raw [.I p4.Epoch, .I p4.Vote, .I p4.Commit, .ro Tag.t_api_Entry p4.Log])]⟩) (by kernel_rfl) (And.intro g1.1 g1.2) ⟨rfl, rfl⟩) (Turns.trans (Turns.keep [1, 3, 4, 5, 7, 11] [0, 200, 201] (S' := ⟨[(1, .I p3), (3, .I p5), (4, .cv (.ro Tag.t_api_Entry p6)), (5, .P 200), (7, .P 201), (11, .I (((p4.Log.getD (Int.toNat ((IntKind.i64.wrap (p5 - 1)))) z_api_Entry)).Epoch))], [(0, .lst Tag.t_api_Replica p7), (200, .raw [.own Tag.t_api_Replica 0, .ro Tag.t_bool p0, .I p1, .I p2]), (201, .raw [.I p4.Epoch, .I p4.Vote, .I p4.Commit, .ro Tag.t_api_Entry p4.Log])]⟩) (by kernel_rfl)) (Turns.trans (Turns.ren [(0, 0), (200, 21000), (201, 21001)] (S' := ⟨[(1, .I p3), (3, .I p5), (4, .cv (.ro Tag.t_api_Entry p6)), (5, .P 21000), (7, .P 21001), (11, .I (((p4.Log.getD (Int.toNat ((IntKind.i64.wrap (p5 - 1)))) z_api_Entry)).Epoch))], [(0, .lst Tag.t_api_Replica p7), (21000, .raw [.own Tag.t_api_Replica 0, .ro Tag.t_bool p0, .I p1, .I p2]), (21001, .raw [.I p4.Epoch, .I p4.Vote, .I p4.Commit, .ro Tag.t_api_Entry p4.Log])]⟩) (by kernel_rfl) (by kernel_rfl)) (Turns.keep [1, 3, 4, 5, 7, 11] [0, 21000, 21001] (S' := ⟨[(1, .I p3), (3, .I p5), (4, .cv (.ro Tag.t_api_Entry p6)), (5, .P 21000), (7, .P 21001), (11, .I (((p4.Log.getD (Int.toNat ((IntKind.i64.wrap (p5 - 1)))) z_api_Entry)).Epoch))], [(0, .lst Tag.t_api_Replica p7), (21000, .raw [.own Tag.t_api_Replica 0, .ro Tag.t_bool p0, .I p1, .I p2]), (21001, .raw [.I p4.Epoch, .I p4.Vote, .I p4.Commit, .ro Tag.t_api_Entry p4.Log])]⟩) (by kernel_rfl)))) ?_
      have hr := Option.some.inj h
      subst hr
      exact ⟨rfl, _, rfl, rfl⟩
    · refine awp_false (b := (decide (p5 > 0))) (by kernel_rfl) (decide_eq_false c1) ?_
      refine awp_turn (Turns.trans (Turns.keep [1, 3, 4, 5, 7, 11] [0, 200, 201] (S' := ⟨[(1, .I p3), (3, .I p5), (4, .cv (.ro Tag.t_api_Entry p6)), (5, .P 200), (7, .P 201), (11, .I 0)], [(0, .lst Tag.t_api_Replica p7), (200, .raw [.own Tag.t_api_Replica 0, .ro Tag.t_bool p0, .I p1, .I p2]), (201, .raw [.I p4.Epoch, .I p4.Vote, .I p4.Commit, .ro Tag.t_api_Entry p4.Log])]⟩) (by kernel_rfl)) (Turns.ren [(0, 0), (200, 21000), (201, 21001)] (S' := ⟨[(1, .I p3), (3, .I p5), (4, .cv (.ro Tag.t_api_Entry p6)), (5, .P 21000), (7, .P 21001), (11, .I 0)], [(0, .lst Tag.t_api_Replica p7), (21000, .raw [.own Tag.t_api_Replica 0, .ro Tag.t_bool p0, .I p1, .I p2]), (21001, .raw [.I p4.Epoch, .I p4.Vote, .I p4.Commit, .ro Tag.t_api_Entry p4.Log])]⟩) (by kernel_rfl) (by kernel_rfl))) ?_
      refine awp_skip [1, 3, 4, 5, 7, 11] [0, 21000, 21001] (S' := ⟨[(1, .I p3), (3, .I p5), (4, .cv (.ro Tag.t_api_Entry p6)), (5, .P 21000), (7, .P 21001), (11, .I 0)], [(0, .lst Tag.t_api_Replica p7), (21000, .raw [.own Tag.t_api_Replica 0, .ro Tag.t_bool p0, .I p1, .I p2]), (21001, .raw [.I p4.Epoch, .I p4.Vote, .I p4.Commit, .ro Tag.t_api_Entry p4.Log])]⟩) (by kernel_rfl) ?_
      have hr := Option.some.inj h
      subst hr
      exact ⟨rfl, _, rfl, rfl⟩
  · rintro e S ⟨rfl, xt11_5, rfl, rfl⟩
    refine awp_seq ?_
    obtain ⟨g2, h⟩ := guard_some h
    obtain ⟨g3, h⟩ := guard_some h
    obtain ⟨⟨a1_0, a1_1⟩, h1, h⟩ := bind_some h
    dsimp only at h
    refine awp_draw L mixed 218 [] [(12, .tup [.agg [.I ((a1_0).Epoch), .I ((a1_0).Vote), .I ((a1_0).Commit), .ro Tag.t_api_Entry ((a1_0).Log)], .I a1_1])] [] [234] 19 [1, 5, 12, 13] [0, 234, 21000] (cs := [(0 : Int) ≤ p3, (p3 : Int) < (p7.length : Int), (Int.toNat p3) < p7.length, PCall V P 67 [.agg [.I (((p7.getD (Int.toNat p3) z_api_Replica)).Epoch), .I (((p7.getD (Int.toNat p3) z_api_Replica)).Vote), .I (((p7.getD (Int.toNat p3) z_api_Replica)).Commit), .ro Tag.t_api_Entry (((p7.getD (Int.toNat p3) z_api_Replica)).Log)], .I p4.Epoch, .I p5, .I xt11_5, .cv (.ro Tag.t_api_Entry p6), .I p4.Commit] (.tup [.agg [.I ((a1_0).Epoch), .I ((a1_0).Vote), .I ((a1_0).Commit), .ro Tag.t_api_Entry ((a1_0).Log)], .I a1_1]), True]) (S' := ⟨[(1, .I p3), (5, .P 21000), (12, .P 234), (13, .I a1_1)], [(0, .lst Tag.t_api_Replica p7), (234, .raw [.I ((a1_0).Epoch), .I ((a1_0).Vote), .I ((a1_0).Commit), .ro Tag.t_api_Entry ((a1_0).Log)]), (21000, .raw [.own Tag.t_api_Replica 0, .ro Tag.t_bool p0, .I p1, .I p2])]⟩) (by kernel_rfl) (And.intro g2.1 (And.intro g2.2 (And.intro g3 (And.intro (replog_Accept.ok h1) trivial)))) ?_
    refine awp_seq ?_
    refine awp_seq ?_
    refine awp_region L 238 [] [] [] [1, 5, 12, 13, 40] [0, 234, 21000] (cs := []) (S' := ⟨[(1, .I p3), (5, .P 21000), (12, .P 234), (13, .I a1_1), (40, .B ((decide (a1_1 = 0))))], [(0, .lst Tag.t_api_Replica p7), (234, .raw [.I ((a1_0).Epoch), .I ((a1_0).Vote), .I ((a1_0).Commit), .ro Tag.t_api_Entry ((a1_0).Log)]), (21000, .raw [.own Tag.t_api_Replica 0, .ro Tag.t_bool p0, .I p1, .I p2])]⟩) (by kernel_rfl) trivial ?_
    rcases ite_some h with ⟨c2, h⟩ | ⟨c2, h⟩
    · refine awp_true (b := (decide (a1_1 = 0))) (by kernel_rfl) (decide_eq_true c2) ?_
      refine awp_region L 241 [] [] [] [13] [0] (cs := [(0 : Int) ≤ p3, (p3 : Int) < (p7.length : Int), (Int.toNat p3) < p7.length, True]) (S' := ⟨[(13, .I a1_1)], [(0, .lst Tag.t_api_Replica ((p7.set (Int.toNat p3) ((⟨(a1_0).Epoch, (a1_0).Vote, (a1_0).Commit, (a1_0).Log⟩ : api_Replica)))))]⟩) (by kernel_rfl) (And.intro g2.1 (And.intro g2.2 (And.intro g3 trivial))) ?_
      refine awp_seq ?_
      refine awp_region L 248 [] [] [] [10] [0] (cs := []) (S' := ⟨[(10, .B ((decide (a1_1 = 0))))], [(0, .lst Tag.t_api_Replica ((p7.set (Int.toNat p3) ((⟨(a1_0).Epoch, (a1_0).Vote, (a1_0).Commit, (a1_0).Log⟩ : api_Replica)))))]⟩) (by kernel_rfl) trivial ?_
      refine awp_ret ?_
      have hr := Option.some.inj h
      subst hr
      exact ⟨.inr rfl, .B ((decide (a1_1 = 0))), by kernel_rfl, by kernel_rfl, by kernel_rfl⟩
    · refine awp_false (b := (decide (a1_1 = 0))) (by kernel_rfl) (decide_eq_false c2) ?_
      refine awp_skip [13] [0] (S' := ⟨[(13, .I a1_1)], [(0, .lst Tag.t_api_Replica p7)]⟩) (by kernel_rfl) ?_
      refine awp_seq ?_
      refine awp_region L 248 [] [] [] [10] [0] (cs := []) (S' := ⟨[(10, .B ((decide (a1_1 = 0))))], [(0, .lst Tag.t_api_Replica p7)]⟩) (by kernel_rfl) trivial ?_
      refine awp_ret ?_
      have hr := Option.some.inj h
      subst hr
      exact ⟨.inr rfl, .B ((decide (a1_1 = 0))), by kernel_rfl, by kernel_rfl, by kernel_rfl⟩

theorem group_Group_accept_v2.okE {K : Nat} {p0 : List Bool} {p1 : Int} {p2 : Int} {p3 : Int} {p4 : api_Replica} {p5 : Int} {p6 : List api_Entry} {p7 : List api_Replica} {r : Bool × (List api_Replica)} (h : group_Group_accept_v2 K p0 p1 p2 p3 p4 p5 p6 p7 = some r) : ECall V P 57 [.agg [.own Tag.t_api_Replica 0, .ro Tag.t_bool p0, .I p1, .I p2], .I p3, .agg [.I p4.Epoch, .I p4.Vote, .I p4.Commit, .ro Tag.t_api_Entry p4.Log], .I p5, .cv (.ro Tag.t_api_Entry p6)] [(0, .lst Tag.t_api_Replica p7)] [0] (.B r.1) [(0, .lst Tag.t_api_Replica r.2)] :=
  ecall_of (fn := Try.f57) (n := 48) (m := 100) (by kernel_rfl) (by kernel_rfl) (by kernel_rfl) rfl (by kernel_rfl) (by kernel_rfl) fun Γ => group_Group_accept_v2.body h

def quorum_Index (K : Nat) (p0 : List Int) : Option Int := (if (p0.length : Int) = 0 then some 0 else (if p0.length * 8 ≤ 140737488351232 then (Option.bind (quorum_Majority K (((isrt p0).length : Int))) (fun a1 => (if (0 : Int) ≤ (IntKind.i64.wrap (((isrt p0).length : Int) - a1)) ∧ ((IntKind.i64.wrap (((isrt p0).length : Int) - a1)) : Int) < ((isrt p0).length : Int) then (if (Int.toNat ((IntKind.i64.wrap (((isrt p0).length : Int) - a1)))) < (isrt p0).length then some ((if (0 : Int) > ((isrt p0).getD ((Int.toNat ((IntKind.i64.wrap (((isrt p0).length : Int) - a1))))) (0 : Int)) then 0 else ((isrt p0).getD ((Int.toNat ((IntKind.i64.wrap (((isrt p0).length : Int) - a1))))) (0 : Int)))) else none) else none))) else none))

theorem quorum_Index.body {Γ : Ent} {K : Nat} {p0 : List Int} {r : Int} (h : quorum_Index K p0 = some r) : AWp V P 20 100 Γ (Try.f68.body.getD .skip) (EndsE P V Try.f68 (.I r) []) ⟨args0 0 [.cv (.ro Tag.t_int p0)], []⟩ := by
  unfold quorum_Index at h
  refine awp_seq ?_
  refine awp_region L 200 [] [] [] [0] [] (cs := []) (S' := ⟨[(0, .cv (.ro Tag.t_int p0))], []⟩) (by kernel_rfl) trivial ?_
  refine awp_seq ?_
  refine awp_seq ?_
  refine awp_region L 202 [] [] [] [0, 6] [] (cs := []) (S' := ⟨[(0, .cv (.ro Tag.t_int p0)), (6, .B ((decide ((p0.length : Int) = 0))))], []⟩) (by kernel_rfl) trivial ?_
  rcases ite_some h with ⟨c1, h⟩ | ⟨c1, h⟩
  · refine awp_true (b := (decide ((p0.length : Int) = 0))) (by kernel_rfl) (decide_eq_true c1) ?_
    refine awp_seq ?_
    refine awp_region L 206 [] [] [] [2] [] (cs := []) (S' := ⟨[(2, .I 0)], []⟩) (by kernel_rfl) trivial ?_
    refine awp_ret ?_
    have hr := Option.some.inj h
    subst hr
    exact ⟨.inr rfl, .I 0, by kernel_rfl, by kernel_rfl, by kernel_rfl⟩
  · refine awp_false (b := (decide ((p0.length : Int) = 0))) (by kernel_rfl) (decide_eq_false c1) ?_
    refine awp_skip [0] [] (S' := ⟨[(0, .cv (.ro Tag.t_int p0))], []⟩) (by kernel_rfl) ?_
    refine awp_seq ?_
    obtain ⟨g1, h⟩ := guard_some h
    refine awp_region L 208 [] [(1, .cv (.fn (.func 75) [] [.pcs [.ro Tag.t_int p0] 0])), (2, .cv (.ron Tag.t_int (isrt p0)))] [] [3] [210] (cs := [PCall V P 72 [.cv (.ro Tag.t_int p0)] (.cv (.fn (.func 75) [] [.pcs [.ro Tag.t_int p0] 0])), True, FCall V P 71 [.cv (.fn (.func 75) [] [.pcs [.ro Tag.t_int p0] 0])] Tag.t_int (isrt p0)]) (S' := ⟨[(3, .cv (.own Tag.t_int 210))], [(210, .lst Tag.t_int (isrt p0))]⟩) (by kernel_rfl) (And.intro (slices_Values.ok p0) (And.intro trivial (slices_Sorted.okF p0 g1))) ?_
    refine awp_seq ?_
    obtain ⟨a1, h1, h⟩ := bind_some h
    obtain ⟨g2, h⟩ := guard_some h
    obtain ⟨g3, h⟩ := guard_some h
    refine awp_region L 213 [] [(5, .I a1)] [] [2] [] (cs := [PCall V P 54 [.I (((isrt p0).length : Int))] (.I a1), True, (0 : Int) ≤ (IntKind.i64.wrap (((isrt p0).length : Int) - a1)), ((IntKind.i64.wrap (((isrt p0).length : Int) - a1)) : Int) < ((isrt p0).length : Int), (Int.toNat ((IntKind.i64.wrap (((isrt p0).length : Int) - a1)))) < (isrt p0).length]) (S' := ⟨[(2, .I ((if (0 : Int) > ((isrt p0).getD ((Int.toNat ((IntKind.i64.wrap (((isrt p0).length : Int) - a1))))) (0 : Int)) then 0 else ((isrt p0).getD ((Int.toNat ((IntKind.i64.wrap (((isrt p0).length : Int) - a1))))) (0 : Int)))))], []⟩) (by kernel_rfl) (And.intro (quorum_Majority.ok h1) (And.intro trivial (And.intro g2.1 (And.intro g2.2 g3)))) ?_
    refine awp_ret ?_
    have hr := Option.some.inj h
    subst hr
    exact ⟨.inr rfl, .I ((if (0 : Int) > ((isrt p0).getD ((Int.toNat ((IntKind.i64.wrap (((isrt p0).length : Int) - a1))))) (0 : Int)) then 0 else ((isrt p0).getD ((Int.toNat ((IntKind.i64.wrap (((isrt p0).length : Int) - a1))))) (0 : Int)))), by kernel_rfl, by kernel_rfl, by kernel_rfl⟩

theorem quorum_Index.okE {K : Nat} {p0 : List Int} {r : Int} (h : quorum_Index K p0 = some r) : ECall V P 68 [.cv (.ro Tag.t_int p0)] [] [] (.I r) [] :=
  ecall_of (fn := Try.f68) (n := 20) (m := 100) (by kernel_rfl) (by kernel_rfl) (by kernel_rfl) rfl (by kernel_rfl) (by kernel_rfl) fun Γ => quorum_Index.body h

theorem quorum_Index.ok {K : Nat} {p0 : List Int} {r : Int} (h : quorum_Index K p0 = some r) : PCall V P 68 [.cv (.ro Tag.t_int p0)] (.I r) := (quorum_Index.okE h).pcall (by kernel_rfl)

def quorum_Commit.l7 (K : Nat) (p0 : api_Replica) : Nat → Int → Option (Out Int Unit)
  | 0, _ => none
  | k + 1, xt5_7h => (if xt5_7h > p0.Commit then (if xt5_7h > 0 then (if (0 : Int) ≤ (IntKind.i64.wrap (xt5_7h - 1)) ∧ ((IntKind.i64.wrap (xt5_7h - 1)) : Int) < (p0.Log.length : Int) then (if ((p0.Log.getD (Int.toNat ((IntKind.i64.wrap (xt5_7h - 1)))) z_api_Entry)).Epoch = p0.Epoch then some (Out.done xt5_7h) else quorum_Commit.l7 K p0 k ((IntKind.i64.wrap (xt5_7h - 1)))) else none) else some (Out.go ())) else some (Out.go ()))

def quorum_Commit (K : Nat) (p0 : api_Replica) (p1 : List Int) : Option Int := (Option.bind (quorum_Index K p1) (fun a1 => (obind (quorum_Commit.l7 K p0 K ((if (p0.Log.length : Int) < a1 then (p0.Log.length : Int) else a1)) : Option (Out Int Unit)) (fun r => r) (fun _ => some p0.Commit))))

theorem quorum_Commit.body {Γ : Ent} {K : Nat} {p0 : api_Replica} {p1 : List Int} {r : Int} (h : quorum_Commit K p0 p1 = some r) : AWp V P 35 100 Γ (Try.f58.body.getD .skip) (EndsE P V Try.f58 (.I r) []) ⟨args0 0 [.agg [.I p0.Epoch, .I p0.Vote, .I p0.Commit, .ro Tag.t_api_Entry p0.Log], .cv (.ro Tag.t_int p1)], []⟩ := by
  unfold quorum_Commit at h
  refine awp_seq ?_
  refine awp_region L 200 [] [] [] [1, 2] [200] (cs := []) (S' := ⟨[(1, .cv (.ro Tag.t_int p1)), (2, .P 200)], [(200, .raw [.I p0.Epoch, .I p0.Vote, .I p0.Commit, .ro Tag.t_api_Entry p0.Log])]⟩) (by kernel_rfl) trivial ?_
  refine awp_seq ?_
  refine awp_seq ?_
  obtain ⟨a1, h1, h⟩ := bind_some h
  refine awp_draw L mixed 203 [] [(1, .I a1)] [] [] 7 [2, 5] [200] (cs := [PCall V P 68 [.cv (.ro Tag.t_int p1)] (.I a1), True]) (S' := ⟨[(2, .P 200), (5, .I ((if (p0.Log.length : Int) < a1 then (p0.Log.length : Int) else a1)))], [(200, .raw [.I p0.Epoch, .I p0.Vote, .I p0.Commit, .ro Tag.t_api_Entry p0.Log])]⟩) (by kernel_rfl) (And.intro (quorum_Index.ok h1) trivial) ?_
  refine awp_block ?_
  refine awp_turn (Turns.trans (Turns.keep [2, 5] [200] (S' := ⟨[(2, .P 200), (5, .I ((if (p0.Log.length : Int) < a1 then (p0.Log.length : Int) else a1)))], [(200, .raw [.I p0.Epoch, .I p0.Vote, .I p0.Commit, .ro Tag.t_api_Entry p0.Log])]⟩) (by kernel_rfl)) (Turns.ren [(200, 21500)] (S' := ⟨[(2, .P 21500), (5, .I ((if (p0.Log.length : Int) < a1 then (p0.Log.length : Int) else a1)))], [(21500, .raw [.I p0.Epoch, .I p0.Vote, .I p0.Commit, .ro Tag.t_api_Entry p0.Log])]⟩) (by kernel_rfl) (by kernel_rfl))) ?_
  refine awp_keep (ts := [2, 5]) (ids := [21500]) (S' := ⟨[(2, .P 21500), (5, .I ((if (p0.Log.length : Int) < a1 then (p0.Log.length : Int) else a1)))], [(21500, .raw [.I p0.Epoch, .I p0.Vote, .I p0.Commit, .ro Tag.t_api_Entry p0.Log])]⟩) (by kernel_rfl) ?_
  obtain ⟨o1, hp1, h⟩ := obind_some h
  refine awp_conseq (Q' := fun e S => (e = .exit 0 ∧ S = ⟨[(2, .P 21400)], [(21400, .raw [.I p0.Epoch, .I p0.Vote, .I p0.Commit, .ro Tag.t_api_Entry p0.Log])]⟩ ∧ Out.go () = o1) ∨ (e = .ret ∧ ∃ a, Out.done a = o1 ∧ EndsE P V Try.f58 (.I a) [] .ret S)) (awp_loop (fun k S => ∃ xt5_7h : Int, S = ⟨[(2, .P 21500), (5, .I xt5_7h)], [(21500, .raw [.I p0.Epoch, .I p0.Vote, .I p0.Commit, .ro Tag.t_api_Entry p0.Log])]⟩ ∧ quorum_Commit.l7 K p0 k xt5_7h = some o1) ?_ ⟨_, rfl, hp1⟩) ?_
  · clear h hp1
    intro k S hS
    obtain ⟨xt5_7h, rfl, h⟩ := hS
    cases k with
    | zero => cases h
    | succ k =>
    unfold quorum_Commit.l7 at h
    refine awp_seq ?_
    refine awp_seq ?_
    rcases ite_some h with ⟨c1, h⟩ | ⟨c1, h⟩
    · refine awp_region L 211 [(4, true)] [] [] [2, 5, 19] [21500] (cs := [(decide (xt5_7h > p0.Commit)) = true]) (S' := ⟨[(2, .P 21500), (5, .I xt5_7h), (19, .B ((decide (xt5_7h > 0))))], [(21500, .raw [.I p0.Epoch, .I p0.Vote, .I p0.Commit, .ro Tag.t_api_Entry p0.Log])]⟩) (by kernel_rfl) (decide_eq_true c1) ?_
      rcases ite_some h with ⟨c2, h⟩ | ⟨c2, h⟩
      · refine awp_true (b := (decide (xt5_7h > 0))) (by kernel_rfl) (decide_eq_true c2) ?_
        refine awp_skip [2, 5] [21500] (S' := ⟨[(2, .P 21500), (5, .I xt5_7h)], [(21500, .raw [.I p0.Epoch, .I p0.Vote, .I p0.Commit, .ro Tag.t_api_Entry p0.Log])]⟩) (by kernel_rfl) ?_
        refine awp_seq ?_
        refine awp_block ?_
        refine awp_seq ?_
        obtain ⟨g1, h⟩ := guard_some h
        refine awp_draw L mixed 220 [] [] [] [] 10 [2, 5, 31] [21500] (cs := [(0 : Int) ≤ (IntKind.i64.wrap (xt5_7h - 1)), ((IntKind.i64.wrap (xt5_7h - 1)) : Int) < (p0.Log.length : Int)]) (S' := ⟨[(2, .P 21500), (5, .I xt5_7h), (31, .B ((decide (((p0.Log.getD (Int.toNat ((IntKind.i64.wrap (xt5_7h - 1)))) z_api_Entry)).Epoch = p0.Epoch))))], [(21500, .raw [.I p0.Epoch, .I p0.Vote, .I p0.Commit, .ro Tag.t_api_Entry p0.Log])]⟩) (by kernel_rfl) (And.intro g1.1 g1.2) ?_
        rcases ite_some h with ⟨c3, h⟩ | ⟨c3, h⟩
        · refine awp_true (b := (decide (((p0.Log.getD (Int.toNat ((IntKind.i64.wrap (xt5_7h - 1)))) z_api_Entry)).Epoch = p0.Epoch))) (by kernel_rfl) (decide_eq_true c3) ?_
          refine awp_seq ?_
          refine awp_region L 231 [] [] [] [4] [] (cs := []) (S' := ⟨[(4, .I xt5_7h)], []⟩) (by kernel_rfl) trivial ?_
          refine awp_ret ?_
          have hr := Option.some.inj h
          subst hr
          exact .inr ⟨rfl, _, rfl, ⟨.inr rfl, .I xt5_7h, by kernel_rfl, by kernel_rfl, by kernel_rfl⟩⟩
        · refine awp_false (b := (decide (((p0.Log.getD (Int.toNat ((IntKind.i64.wrap (xt5_7h - 1)))) z_api_Entry)).Epoch = p0.Epoch))) (by kernel_rfl) (decide_eq_false c3) ?_
          refine awp_skip [2, 5] [21500] (S' := ⟨[(2, .P 21500), (5, .I xt5_7h)], [(21500, .raw [.I p0.Epoch, .I p0.Vote, .I p0.Commit, .ro Tag.t_api_Entry p0.Log])]⟩) (by kernel_rfl) ?_
          refine awp_region L 234 [] [] [] [2, 5] [21500] (cs := []) (S' := ⟨[(2, .P 21500), (5, .I ((IntKind.i64.wrap (xt5_7h - 1))))], [(21500, .raw [.I p0.Epoch, .I p0.Vote, .I p0.Commit, .ro Tag.t_api_Entry p0.Log])]⟩) (by kernel_rfl) trivial ?_
          exact ⟨k, Nat.lt_succ_self k, _, rfl, h⟩
      · refine awp_false (b := (decide (xt5_7h > 0))) (by kernel_rfl) (decide_eq_false c2) ?_
        refine awp_turn (Turns.trans (Turns.keep [2] [21500] (S' := ⟨[(2, .P 21500)], [(21500, .raw [.I p0.Epoch, .I p0.Vote, .I p0.Commit, .ro Tag.t_api_Entry p0.Log])]⟩) (by kernel_rfl)) (Turns.ren [(21500, 21400)] (S' := ⟨[(2, .P 21400)], [(21400, .raw [.I p0.Epoch, .I p0.Vote, .I p0.Commit, .ro Tag.t_api_Entry p0.Log])]⟩) (by kernel_rfl) (by kernel_rfl))) ?_
        refine awp_exit [2] [21400] (S' := ⟨[(2, .P 21400)], [(21400, .raw [.I p0.Epoch, .I p0.Vote, .I p0.Commit, .ro Tag.t_api_Entry p0.Log])]⟩) (by kernel_rfl) ?_
        have hr := Option.some.inj h
        subst hr
        exact .inl ⟨rfl, rfl, rfl⟩
    · refine awp_region L 211 [(4, false)] [] [] [2, 5, 19] [21500] (cs := [(decide (xt5_7h > p0.Commit)) = false]) (S' := ⟨[(2, .P 21500), (5, .I xt5_7h), (19, .B false)], [(21500, .raw [.I p0.Epoch, .I p0.Vote, .I p0.Commit, .ro Tag.t_api_Entry p0.Log])]⟩) (by kernel_rfl) (decide_eq_false c1) ?_
      refine awp_false (b := false) (by kernel_rfl) (rfl) ?_
      refine awp_turn (Turns.trans (Turns.keep [2] [21500] (S' := ⟨[(2, .P 21500)], [(21500, .raw [.I p0.Epoch, .I p0.Vote, .I p0.Commit, .ro Tag.t_api_Entry p0.Log])]⟩) (by kernel_rfl)) (Turns.ren [(21500, 21400)] (S' := ⟨[(2, .P 21400)], [(21400, .raw [.I p0.Epoch, .I p0.Vote, .I p0.Commit, .ro Tag.t_api_Entry p0.Log])]⟩) (by kernel_rfl) (by kernel_rfl))) ?_
      refine awp_exit [2] [21400] (S' := ⟨[(2, .P 21400)], [(21400, .raw [.I p0.Epoch, .I p0.Vote, .I p0.Commit, .ro Tag.t_api_Entry p0.Log])]⟩) (by kernel_rfl) ?_
      have hr := Option.some.inj h
      subst hr
      exact .inl ⟨rfl, rfl, rfl⟩
  · rintro e S (⟨rfl, rfl, rfl⟩ | ⟨rfl, a, rfl, hr⟩)
    · rcases h with ⟨_, e1, h⟩ | ⟨_, e1, h⟩
      · cases e1
      · have e2 := Out.go.inj e1
        subst e2
        refine ⟨_, Turns.refl, ?_⟩
        refine awp_seq ?_
        refine awp_region L 238 [] [] [] [4] [] (cs := []) (S' := ⟨[(4, .I p0.Commit)], []⟩) (by kernel_rfl) trivial ?_
        refine awp_ret ?_
        have hr := Option.some.inj h
        subst hr
        exact ⟨.inr rfl, .I p0.Commit, by kernel_rfl, by kernel_rfl, by kernel_rfl⟩
    · rcases h with ⟨_, e1, h⟩ | ⟨_, e1, h⟩
      · have e2 := Out.done.inj e1
        subst e2
        subst h
        exact ⟨_, Turns.refl, hr⟩
      · cases e1

theorem quorum_Commit.okE {K : Nat} {p0 : api_Replica} {p1 : List Int} {r : Int} (h : quorum_Commit K p0 p1 = some r) : ECall V P 58 [.agg [.I p0.Epoch, .I p0.Vote, .I p0.Commit, .ro Tag.t_api_Entry p0.Log], .cv (.ro Tag.t_int p1)] [] [] (.I r) [] :=
  ecall_of (fn := Try.f58) (n := 35) (m := 100) (by kernel_rfl) (by kernel_rfl) (by kernel_rfl) rfl (by kernel_rfl) (by kernel_rfl) fun Γ => quorum_Commit.body h

theorem quorum_Commit.ok {K : Nat} {p0 : api_Replica} {p1 : List Int} {r : Int} (h : quorum_Commit K p0 p1 = some r) : PCall V P 58 [.agg [.I p0.Epoch, .I p0.Vote, .I p0.Commit, .ro Tag.t_api_Entry p0.Log], .cv (.ro Tag.t_int p1)] (.I r) := (quorum_Commit.okE h).pcall (by kernel_rfl)

def group_Group_replicate_v2.l15 (K : Nat) (p0 : List Bool) (p1 : Int) (p2 : Int) (p3 : Int) (p5 : List api_Replica) (a1 : List Int) : Nat → Int → (List api_Replica) → (List Int) → (List Int) → Option ((List api_Replica) × (List Int) × (List Int))
  | 0, _, _, _, _ => none
  | k + 1, xt35_15h, xh0_15h, xh23102_15h, xh23103_15h => (if xt35_15h < (a1.length : Int) then (if (0 : Int) ≤ xt35_15h ∧ (xt35_15h : Int) < (a1.length : Int) then (if (Int.toNat xt35_15h) < a1.length then (if (0 : Int) ≤ (a1.getD (Int.toNat xt35_15h) (0 : Int)) ∧ ((a1.getD (Int.toNat xt35_15h) (0 : Int)) : Int) < (xh0_15h.length : Int) then (if (Int.toNat ((a1.getD (Int.toNat xt35_15h) (0 : Int)))) < xh0_15h.length then (Option.bind (replog_Common K ((p5.getD (Int.toNat p3) z_api_Replica)) ((xh0_15h.getD ((Int.toNat ((a1.getD (Int.toNat xt35_15h) (0 : Int))))) z_api_Replica))) (fun a2 => (if (0 : Int) ≤ a2 ∧ a2 ≤ ((((p5.getD (Int.toNat p3) z_api_Replica)).Log).length : Int) then (Option.bind (group_Group_accept_v2 K p0 p1 p2 ((a1.getD (Int.toNat xt35_15h) (0 : Int))) ((p5.getD (Int.toNat p3) z_api_Replica)) a2 ((slc (((p5.getD (Int.toNat p3) z_api_Replica)).Log) a2 (((((p5.getD (Int.toNat p3) z_api_Replica)).Log).length : Int)))) xh0_15h) (fun (a3_0, a3_1) => (if a3_0 = true then (if ((a1.getD (Int.toNat xt35_15h) (0 : Int)) : Int) < (xh23102_15h.length : Int) then (if (Int.toNat ((a1.getD (Int.toNat xt35_15h) (0 : Int)))) < xh23102_15h.length then (if (xh23103_15h.length + (([(a1.getD (Int.toNat xt35_15h) (0 : Int))] : List Int)).length) * 8 ≤ 140737488355328 then group_Group_replicate_v2.l15 K p0 p1 p2 p3 p5 a1 k ((IntKind.i64.wrap (xt35_15h + 1))) a3_1 ((xh23102_15h.set ((Int.toNat ((a1.getD (Int.toNat xt35_15h) (0 : Int))))) (((((p5.getD (Int.toNat p3) z_api_Replica)).Log).length : Int)))) ((xh23103_15h ++ ([(a1.getD (Int.toNat xt35_15h) (0 : Int))] : List Int))) else none) else none) else none) else group_Group_replicate_v2.l15 K p0 p1 p2 p3 p5 a1 k ((IntKind.i64.wrap (xt35_15h + 1))) a3_1 xh23102_15h xh23103_15h))) else none))) else none) else none) else none) else none) else some (xh0_15h, xh23102_15h, xh23103_15h))

def group_Group_replicate_v2.l51 (K : Nat) (p0 : List Bool) (p1 : Int) (p2 : Int) (p3 : Int) (p5 : List api_Replica) (xh23003_15 : List Int) (a4 : Int) : Nat → Int → (List api_Replica) → Option (List api_Replica)
  | 0, _, _ => none
  | k + 1, xt83_51h, xh0_51h => (if xt83_51h < (xh23003_15.length : Int) then (if (0 : Int) ≤ xt83_51h ∧ (xt83_51h : Int) < (xh23003_15.length : Int) then (if (Int.toNat xt83_51h) < xh23003_15.length then (Option.bind (group_Group_accept_v2 K p0 p1 p2 ((xh23003_15.getD (Int.toNat xt83_51h) (0 : Int))) ((⟨((p5.getD (Int.toNat p3) z_api_Replica)).Epoch, ((p5.getD (Int.toNat p3) z_api_Replica)).Vote, a4, ((p5.getD (Int.toNat p3) z_api_Replica)).Log⟩ : api_Replica)) (((((p5.getD (Int.toNat p3) z_api_Replica)).Log).length : Int)) ([] : List api_Entry) xh0_51h) (fun (a5_0, a5_1) => group_Group_replicate_v2.l51 K p0 p1 p2 p3 p5 xh23003_15 a4 k ((IntKind.i64.wrap (xt83_51h + 1))) a5_1)) else none) else none) else some xh0_51h)

def group_Group_replicate_v2 (K : Nat) (p0 : List Bool) (p1 : Int) (p2 : Int) (p3 : Int) (p4 : List Int) (p5 : List api_Replica) : Option (List api_Replica) := (if (0 : Int) ≤ p3 ∧ (p3 : Int) < (p5.length : Int) then (if (Int.toNat p3) < p5.length then (if (0 : Int) ≤ (p5.length : Int) ∧ (8 : Int) * (p5.length : Int) ≤ 281474976710656 then (if (p3 : Int) < (((List.replicate (Int.toNat (p5.length : Int)) (0 : Int))).length : Int) then (if (Int.toNat p3) < ((List.replicate (Int.toNat (p5.length : Int)) (0 : Int))).length then (Option.bind (group_Group_others_v2 K (⟨p5, p0, p1, p2⟩ : group_Group) p3 p4) (fun a1 => (Option.bind (group_Group_replicate_v2.l15 K p0 p1 p2 p3 p5 a1 K 0 p5 ((((List.replicate (Int.toNat (p5.length : Int)) (0 : Int))).set (Int.toNat p3) (((((p5.getD (Int.toNat p3) z_api_Replica)).Log).length : Int)))) ([] : List Int) : Option ((List api_Replica) × (List Int) × (List Int))) (fun (xh0_15, xh23002_15, xh23003_15) => (Option.bind (quorum_Commit K ((p5.getD (Int.toNat p3) z_api_Replica)) xh23002_15) (fun a4 => (if (p3 : Int) < (xh0_15.length : Int) then (if (Int.toNat p3) < xh0_15.length then (if a4 ≤ ((p5.getD (Int.toNat p3) z_api_Replica)).Commit then some ((xh0_15.set (Int.toNat p3) ((⟨((p5.getD (Int.toNat p3) z_api_Replica)).Epoch, ((p5.getD (Int.toNat p3) z_api_Replica)).Vote, a4, ((p5.getD (Int.toNat p3) z_api_Replica)).Log⟩ : api_Replica)))) else (Option.bind (group_Group_replicate_v2.l51 K p0 p1 p2 p3 p5 xh23003_15 a4 K 0 ((xh0_15.set (Int.toNat p3) ((⟨((p5.getD (Int.toNat p3) z_api_Replica)).Epoch, ((p5.getD (Int.toNat p3) z_api_Replica)).Vote, a4, ((p5.getD (Int.toNat p3) z_api_Replica)).Log⟩ : api_Replica)))) : Option (List api_Replica)) (fun xh0_51 => some xh0_51))) else none) else none))))))) else none) else none) else none) else none) else none)

theorem group_Group_replicate_v2.body {Γ : Ent} {K : Nat} {p0 : List Bool} {p1 : Int} {p2 : Int} {p3 : Int} {p4 : List Int} {p5 : List api_Replica} {r : List api_Replica} (h : group_Group_replicate_v2 K p0 p1 p2 p3 p4 p5 = some r) : AWp V P 95 100 Γ (Try.f37.body.getD .skip) (EndsE P V Try.f37 (.tup []) [(0, .lst Tag.t_api_Replica r)]) ⟨args0 0 [.agg [.own Tag.t_api_Replica 0, .ro Tag.t_bool p0, .I p1, .I p2], .I p3, .cv (.ro Tag.t_int p4)], [(0, .lst Tag.t_api_Replica p5)]⟩ := by
  unfold group_Group_replicate_v2 at h
  refine awp_seq ?_
  refine awp_region L 200 [] [] [] [1, 2, 3] [0, 200] (cs := []) (S' := ⟨[(1, .I p3), (2, .cv (.ro Tag.t_int p4)), (3, .P 200)], [(0, .lst Tag.t_api_Replica p5), (200, .raw [.own Tag.t_api_Replica 0, .ro Tag.t_bool p0, .I p1, .I p2])]⟩) (by kernel_rfl) trivial ?_
  refine awp_seq ?_
  obtain ⟨g1, h⟩ := guard_some h
  obtain ⟨g2, h⟩ := guard_some h
  refine awp_region L 202 [] [] [] [1, 2, 3, 6] [0, 200, 207] (cs := [(0 : Int) ≤ p3, (p3 : Int) < (p5.length : Int), (Int.toNat p3) < p5.length]) (S' := ⟨[(1, .I p3), (2, .cv (.ro Tag.t_int p4)), (3, .P 200), (6, .P 207)], [(0, .lst Tag.t_api_Replica p5), (200, .raw [.own Tag.t_api_Replica 0, .ro Tag.t_bool p0, .I p1, .I p2]), (207, .raw [.I (((p5.getD (Int.toNat p3) z_api_Replica)).Epoch), .I (((p5.getD (Int.toNat p3) z_api_Replica)).Vote), .I (((p5.getD (Int.toNat p3) z_api_Replica)).Commit), .ro Tag.t_api_Entry (((p5.getD (Int.toNat p3) z_api_Replica)).Log)])]⟩) (by kernel_rfl) (And.intro g1.1 (And.intro g1.2 g2)) ?_
  refine awp_seq ?_
  obtain ⟨g3, h⟩ := guard_some h
  refine awp_region L 210 [] [] [] [1, 2, 3, 6, 7] [0, 200, 207, 213] (cs := [(0 : Int) ≤ (p5.length : Int), (p5.length : Int) ≤ (p5.length : Int), (8 : Int) * (p5.length : Int) ≤ 281474976710656, True]) (S' := ⟨[(1, .I p3), (2, .cv (.ro Tag.t_int p4)), (3, .P 200), (6, .P 207), (7, .cv (.own Tag.t_int 213))], [(0, .lst Tag.t_api_Replica p5), (200, .raw [.own Tag.t_api_Replica 0, .ro Tag.t_bool p0, .I p1, .I p2]), (207, .raw [.I (((p5.getD (Int.toNat p3) z_api_Replica)).Epoch), .I (((p5.getD (Int.toNat p3) z_api_Replica)).Vote), .I (((p5.getD (Int.toNat p3) z_api_Replica)).Commit), .ro Tag.t_api_Entry (((p5.getD (Int.toNat p3) z_api_Replica)).Log)]), (213, .lst Tag.t_int ((List.replicate (Int.toNat (p5.length : Int)) (0 : Int))))]⟩) (by kernel_rfl) (And.intro g3.1 (And.intro (Int.le_refl _) (And.intro g3.2 trivial))) ?_
  refine awp_seq ?_
  obtain ⟨g4, h⟩ := guard_some h
  obtain ⟨g5, h⟩ := guard_some h
  refine awp_region L 216 [] [] [] [1, 2, 3, 6, 7] [0, 200, 207, 213] (cs := [(0 : Int) ≤ p3, (p3 : Int) < (((List.replicate (Int.toNat (p5.length : Int)) (0 : Int))).length : Int), (Int.toNat p3) < ((List.replicate (Int.toNat (p5.length : Int)) (0 : Int))).length, True]) (S' := ⟨[(1, .I p3), (2, .cv (.ro Tag.t_int p4)), (3, .P 200), (6, .P 207), (7, .cv (.own Tag.t_int 213))], [(0, .lst Tag.t_api_Replica p5), (200, .raw [.own Tag.t_api_Replica 0, .ro Tag.t_bool p0, .I p1, .I p2]), (207, .raw [.I (((p5.getD (Int.toNat p3) z_api_Replica)).Epoch), .I (((p5.getD (Int.toNat p3) z_api_Replica)).Vote), .I (((p5.getD (Int.toNat p3) z_api_Replica)).Commit), .ro Tag.t_api_Entry (((p5.getD (Int.toNat p3) z_api_Replica)).Log)]), (213, .lst Tag.t_int ((((List.replicate (Int.toNat (p5.length : Int)) (0 : Int))).set (Int.toNat p3) (((((p5.getD (Int.toNat p3) z_api_Replica)).Log).length : Int)))))]⟩) (by kernel_rfl) (And.intro g1.1 (And.intro g4 (And.intro g5 trivial))) ?_
  refine awp_seq ?_
  refine awp_region L 224 [] [] [] [1, 2, 3, 6, 7, 8] [0, 200, 207, 213] (cs := []) (S' := ⟨[(1, .I p3), (2, .cv (.ro Tag.t_int p4)), (3, .P 200), (6, .P 207), (7, .cv (.own Tag.t_int 213)), (8, .N)], [(0, .lst Tag.t_api_Replica p5), (200, .raw [.own Tag.t_api_Replica 0, .ro Tag.t_bool p0, .I p1, .I p2]), (207, .raw [.I (((p5.getD (Int.toNat p3) z_api_Replica)).Epoch), .I (((p5.getD (Int.toNat p3) z_api_Replica)).Vote), .I (((p5.getD (Int.toNat p3) z_api_Replica)).Commit), .ro Tag.t_api_Entry (((p5.getD (Int.toNat p3) z_api_Replica)).Log)]), (213, .lst Tag.t_int ((((List.replicate (Int.toNat (p5.length : Int)) (0 : Int))).set (Int.toNat p3) (((((p5.getD (Int.toNat p3) z_api_Replica)).Log).length : Int)))))]⟩) (by kernel_rfl) trivial ?_
  refine awp_seq ?_
  refine awp_seq ?_
  obtain ⟨a1, h1, h⟩ := bind_some h
  refine awp_region L 226 [] [(3, .cv (.ron Tag.t_int a1))] [] [1, 3, 6, 7, 8, 33, 34, 35] [0, 200, 207, 213, 229] (cs := [FCall V P 32 [.agg [.ro Tag.t_api_Replica p5, .ro Tag.t_bool p0, .I p1, .I p2], .I p3, .cv (.ro Tag.t_int p4)] Tag.t_int a1, ∀ x, ∀ c ∈ V.E.k Tag.t_int x, c.flat = true]) (S' := ⟨[(1, .I p3), (3, .P 200), (6, .P 207), (7, .cv (.own Tag.t_int 213)), (8, .N), (33, .cv (.own Tag.t_int 229)), (34, .I (a1.length : Int)), (35, .I 0)], [(0, .lst Tag.t_api_Replica p5), (200, .raw [.own Tag.t_api_Replica 0, .ro Tag.t_bool p0, .I p1, .I p2]), (207, .raw [.I (((p5.getD (Int.toNat p3) z_api_Replica)).Epoch), .I (((p5.getD (Int.toNat p3) z_api_Replica)).Vote), .I (((p5.getD (Int.toNat p3) z_api_Replica)).Commit), .ro Tag.t_api_Entry (((p5.getD (Int.toNat p3) z_api_Replica)).Log)]), (213, .lst Tag.t_int ((((List.replicate (Int.toNat (p5.length : Int)) (0 : Int))).set (Int.toNat p3) (((((p5.getD (Int.toNat p3) z_api_Replica)).Log).length : Int))))), (229, .lst Tag.t_int a1)]⟩) (by kernel_rfl) (And.intro (group_Group_others_v2.okF h1) flat_t_int) ?_
  refine awp_block ?_
  refine awp_turn (Turns.trans (Turns.keep [1, 3, 6, 7, 8, 33, 34, 35] [0, 200, 207, 213, 229] (S' := ⟨[(1, .I p3), (3, .P 200), (6, .P 207), (7, .cv (.own Tag.t_int 213)), (8, .N), (33, .cv (.own Tag.t_int 229)), (34, .I (a1.length : Int)), (35, .I 0)], [(0, .lst Tag.t_api_Replica p5), (200, .raw [.own Tag.t_api_Replica 0, .ro Tag.t_bool p0, .I p1, .I p2]), (207, .raw [.I (((p5.getD (Int.toNat p3) z_api_Replica)).Epoch), .I (((p5.getD (Int.toNat p3) z_api_Replica)).Vote), .I (((p5.getD (Int.toNat p3) z_api_Replica)).Commit), .ro Tag.t_api_Entry (((p5.getD (Int.toNat p3) z_api_Replica)).Log)]), (213, .lst Tag.t_int ((((List.replicate (Int.toNat (p5.length : Int)) (0 : Int))).set (Int.toNat p3) (((((p5.getD (Int.toNat p3) z_api_Replica)).Log).length : Int))))), (229, .lst Tag.t_int a1)]⟩) (by kernel_rfl)) (Turns.trans (Turns.nilown 8 9500 Tag.t_int (by kernel_rfl) (by kernel_rfl) (S' := ⟨[(8, .cv (.own Tag.t_int 9500)), (1, .I p3), (3, .P 200), (6, .P 207), (7, .cv (.own Tag.t_int 213)), (33, .cv (.own Tag.t_int 229)), (34, .I (a1.length : Int)), (35, .I 0)], [(9500, .lst Tag.t_int ([] : List Int)), (0, .lst Tag.t_api_Replica p5), (200, .raw [.own Tag.t_api_Replica 0, .ro Tag.t_bool p0, .I p1, .I p2]), (207, .raw [.I (((p5.getD (Int.toNat p3) z_api_Replica)).Epoch), .I (((p5.getD (Int.toNat p3) z_api_Replica)).Vote), .I (((p5.getD (Int.toNat p3) z_api_Replica)).Commit), .ro Tag.t_api_Entry (((p5.getD (Int.toNat p3) z_api_Replica)).Log)]), (213, .lst Tag.t_int ((((List.replicate (Int.toNat (p5.length : Int)) (0 : Int))).set (Int.toNat p3) (((((p5.getD (Int.toNat p3) z_api_Replica)).Log).length : Int))))), (229, .lst Tag.t_int a1)]⟩) (by kernel_rfl)) (Turns.trans (Turns.keep [1, 3, 6, 7, 8, 33, 34, 35] [0, 200, 207, 213, 229, 9500] (S' := ⟨[(1, .I p3), (3, .P 200), (6, .P 207), (7, .cv (.own Tag.t_int 213)), (8, .cv (.own Tag.t_int 9500)), (33, .cv (.own Tag.t_int 229)), (34, .I (a1.length : Int)), (35, .I 0)], [(0, .lst Tag.t_api_Replica p5), (200, .raw [.own Tag.t_api_Replica 0, .ro Tag.t_bool p0, .I p1, .I p2]), (207, .raw [.I (((p5.getD (Int.toNat p3) z_api_Replica)).Epoch), .I (((p5.getD (Int.toNat p3) z_api_Replica)).Vote), .I (((p5.getD (Int.toNat p3) z_api_Replica)).Commit), .ro Tag.t_api_Entry (((p5.getD (Int.toNat p3) z_api_Replica)).Log)]), (213, .lst Tag.t_int ((((List.replicate (Int.toNat (p5.length : Int)) (0 : Int))).set (Int.toNat p3) (((((p5.getD (Int.toNat p3) z_api_Replica)).Log).length : Int))))), (229, .lst Tag.t_int a1), (9500, .lst Tag.t_int ([] : List Int))]⟩) (by kernel_rfl)) (Turns.ren [(0, 0), (200, 23100), (207, 23101), (213, 23102), (229, 23104), (9500, 23103)] (S' := ⟨[(1, .I p3), (3, .P 23100), (6, .P 23101), (7, .cv (.own Tag.t_int 23102)), (8, .cv (.own Tag.t_int 23103)), (33, .cv (.own Tag.t_int 23104)), (34, .I (a1.length : Int)), (35, .I 0)], [(0, .lst Tag.t_api_Replica p5), (23100, .raw [.own Tag.t_api_Replica 0, .ro Tag.t_bool p0, .I p1, .I p2]), (23101, .raw [.I (((p5.getD (Int.toNat p3) z_api_Replica)).Epoch), .I (((p5.getD (Int.toNat p3) z_api_Replica)).Vote), .I (((p5.getD (Int.toNat p3) z_api_Replica)).Commit), .ro Tag.t_api_Entry (((p5.getD (Int.toNat p3) z_api_Replica)).Log)]), (23102, .lst Tag.t_int ((((List.replicate (Int.toNat (p5.length : Int)) (0 : Int))).set (Int.toNat p3) (((((p5.getD (Int.toNat p3) z_api_Replica)).Log).length : Int))))), (23104, .lst Tag.t_int a1), (23103, .lst Tag.t_int ([] : List Int))]⟩) (by kernel_rfl) (by kernel_rfl))))) ?_
  refine awp_keep (ts := [1, 3, 6, 7, 8, 33, 34, 35]) (ids := [0, 23100, 23101, 23102, 23103, 23104]) (S' := ⟨[(1, .I p3), (3, .P 23100), (6, .P 23101), (7, .cv (.own Tag.t_int 23102)), (8, .cv (.own Tag.t_int 23103)), (33, .cv (.own Tag.t_int 23104)), (34, .I (a1.length : Int)), (35, .I 0)], [(0, .lst Tag.t_api_Replica p5), (23100, .raw [.own Tag.t_api_Replica 0, .ro Tag.t_bool p0, .I p1, .I p2]), (23101, .raw [.I (((p5.getD (Int.toNat p3) z_api_Replica)).Epoch), .I (((p5.getD (Int.toNat p3) z_api_Replica)).Vote), .I (((p5.getD (Int.toNat p3) z_api_Replica)).Commit), .ro Tag.t_api_Entry (((p5.getD (Int.toNat p3) z_api_Replica)).Log)]), (23102, .lst Tag.t_int ((((List.replicate (Int.toNat (p5.length : Int)) (0 : Int))).set (Int.toNat p3) (((((p5.getD (Int.toNat p3) z_api_Replica)).Log).length : Int))))), (23103, .lst Tag.t_int ([] : List Int)), (23104, .lst Tag.t_int a1)]⟩) (by kernel_rfl) ?_
  obtain ⟨o1, hp1, h⟩ := bind_some h
  refine awp_conseq (Q' := fun e S => (e = .exit 0 ∧ ∃ xh0_15 : List api_Replica, ∃ xh23002_15 : List Int, ∃ xh23003_15 : List Int, S = ⟨[(1, .I p3), (3, .P 23000), (6, .P 23001), (7, .cv (.own Tag.t_int 23002)), (8, .cv (.own Tag.t_int 23003))], [(0, .lst Tag.t_api_Replica xh0_15), (23000, .raw [.own Tag.t_api_Replica 0, .ro Tag.t_bool p0, .I p1, .I p2]), (23001, .raw [.I (((p5.getD (Int.toNat p3) z_api_Replica)).Epoch), .I (((p5.getD (Int.toNat p3) z_api_Replica)).Vote), .I (((p5.getD (Int.toNat p3) z_api_Replica)).Commit), .ro Tag.t_api_Entry (((p5.getD (Int.toNat p3) z_api_Replica)).Log)]), (23002, .lst Tag.t_int xh23002_15), (23003, .lst Tag.t_int xh23003_15)]⟩ ∧ (xh0_15, xh23002_15, xh23003_15) = o1)) (awp_loop (fun k S => ∃ xt35_15h : Int, ∃ xh0_15h : List api_Replica, ∃ xh23102_15h : List Int, ∃ xh23103_15h : List Int, S = ⟨[(1, .I p3), (3, .P 23100), (6, .P 23101), (7, .cv (.own Tag.t_int 23102)), (8, .cv (.own Tag.t_int 23103)), (33, .cv (.own Tag.t_int 23104)), (34, .I (a1.length : Int)), (35, .I xt35_15h)], [(0, .lst Tag.t_api_Replica xh0_15h), (23100, .raw [.own Tag.t_api_Replica 0, .ro Tag.t_bool p0, .I p1, .I p2]), (23101, .raw [.I (((p5.getD (Int.toNat p3) z_api_Replica)).Epoch), .I (((p5.getD (Int.toNat p3) z_api_Replica)).Vote), .I (((p5.getD (Int.toNat p3) z_api_Replica)).Commit), .ro Tag.t_api_Entry (((p5.getD (Int.toNat p3) z_api_Replica)).Log)]), (23102, .lst Tag.t_int xh23102_15h), (23103, .lst Tag.t_int xh23103_15h), (23104, .lst Tag.t_int a1)]⟩ ∧ group_Group_replicate_v2.l15 K p0 p1 p2 p3 p5 a1 k xt35_15h xh0_15h xh23102_15h xh23103_15h = some o1) ?_ ⟨_, _, _, _, rfl, hp1⟩) ?_
  · clear h hp1
    intro k S hS
    obtain ⟨xt35_15h, xh0_15h, xh23102_15h, xh23103_15h, rfl, h⟩ := hS
    cases k with
    | zero => cases h
    | succ k =>
    unfold group_Group_replicate_v2.l15 at h
    refine awp_seq ?_
    refine awp_region L 233 [] [] [] [1, 3, 6, 7, 8, 33, 34, 35, 36] [0, 23100, 23101, 23102, 23103, 23104] (cs := []) (S' := ⟨[(1, .I p3), (3, .P 23100), (6, .P 23101), (7, .cv (.own Tag.t_int 23102)), (8, .cv (.own Tag.t_int 23103)), (33, .cv (.own Tag.t_int 23104)), (34, .I (a1.length : Int)), (35, .I xt35_15h), (36, .B ((decide (xt35_15h < (a1.length : Int)))))], [(0, .lst Tag.t_api_Replica xh0_15h), (23100, .raw [.own Tag.t_api_Replica 0, .ro Tag.t_bool p0, .I p1, .I p2]), (23101, .raw [.I (((p5.getD (Int.toNat p3) z_api_Replica)).Epoch), .I (((p5.getD (Int.toNat p3) z_api_Replica)).Vote), .I (((p5.getD (Int.toNat p3) z_api_Replica)).Commit), .ro Tag.t_api_Entry (((p5.getD (Int.toNat p3) z_api_Replica)).Log)]), (23102, .lst Tag.t_int xh23102_15h), (23103, .lst Tag.t_int xh23103_15h), (23104, .lst Tag.t_int a1)]⟩) (by kernel_rfl) trivial ?_
    refine awp_seq ?_
    rcases ite_some h with ⟨c1, h⟩ | ⟨c1, h⟩
    · refine awp_true (b := (decide (xt35_15h < (a1.length : Int)))) (by kernel_rfl) (decide_eq_true c1) ?_
      refine awp_skip [1, 3, 6, 7, 8, 33, 34, 35] [0, 23100, 23101, 23102, 23103, 23104] (S' := ⟨[(1, .I p3), (3, .P 23100), (6, .P 23101), (7, .cv (.own Tag.t_int 23102)), (8, .cv (.own Tag.t_int 23103)), (33, .cv (.own Tag.t_int 23104)), (34, .I (a1.length : Int)), (35, .I xt35_15h)], [(0, .lst Tag.t_api_Replica xh0_15h), (23100, .raw [.own Tag.t_api_Replica 0, .ro Tag.t_bool p0, .I p1, .I p2]), (23101, .raw [.I (((p5.getD (Int.toNat p3) z_api_Replica)).Epoch), .I (((p5.getD (Int.toNat p3) z_api_Replica)).Vote), .I (((p5.getD (Int.toNat p3) z_api_Replica)).Commit), .ro Tag.t_api_Entry (((p5.getD (Int.toNat p3) z_api_Replica)).Log)]), (23102, .lst Tag.t_int xh23102_15h), (23103, .lst Tag.t_int xh23103_15h), (23104, .lst Tag.t_int a1)]⟩) (by kernel_rfl) ?_
      refine awp_seq ?_
      refine awp_block ?_
      refine awp_seq ?_
      obtain ⟨g6, h⟩ := guard_some h
      obtain ⟨g7, h⟩ := guard_some h
      refine awp_region L 235 [] [] [] [1, 3, 6, 7, 8, 10, 33, 34, 35] [0, 23100, 23101, 23102, 23103, 23104] (cs := [(0 : Int) ≤ xt35_15h, (xt35_15h : Int) < (a1.length : Int), (Int.toNat xt35_15h) < a1.length]) (S' := ⟨[(1, .I p3), (3, .P 23100), (6, .P 23101), (7, .cv (.own Tag.t_int 23102)), (8, .cv (.own Tag.t_int 23103)), (10, .I ((a1.getD (Int.toNat xt35_15h) (0 : Int)))), (33, .cv (.own Tag.t_int 23104)), (34, .I (a1.length : Int)), (35, .I xt35_15h)], [(0, .lst Tag.t_api_Replica xh0_15h), (23100, .raw [.own Tag.t_api_Replica 0, .ro Tag.t_bool p0, .I p1, .I p2]), (23101, .raw [.I (((p5.getD (Int.toNat p3) z_api_Replica)).Epoch), .I (((p5.getD (Int.toNat p3) z_api_Replica)).Vote), .I (((p5.getD (Int.toNat p3) z_api_Replica)).Commit), .ro Tag.t_api_Entry (((p5.getD (Int.toNat p3) z_api_Replica)).Log)]), (23102, .lst Tag.t_int xh23102_15h), (23103, .lst Tag.t_int xh23103_15h), (23104, .lst Tag.t_int a1)]⟩) (by kernel_rfl) (And.intro g6.1 (And.intro g6.2 g7)) ?_
      refine awp_seq ?_
      obtain ⟨g8, h⟩ := guard_some h
      obtain ⟨g9, h⟩ := guard_some h
      obtain ⟨a2, h2, h⟩ := bind_some h
      refine awp_draw L mixed 239 [] [(6, .I a2)] [] [] 8 [1, 3, 6, 7, 8, 10, 11, 33, 34, 35] [0, 23100, 23101, 23102, 23103, 23104] (cs := [(0 : Int) ≤ (a1.getD (Int.toNat xt35_15h) (0 : Int)), ((a1.getD (Int.toNat xt35_15h) (0 : Int)) : Int) < (xh0_15h.length : Int), (Int.toNat ((a1.getD (Int.toNat xt35_15h) (0 : Int)))) < xh0_15h.length, PCall V P 23 [.agg [.I (((p5.getD (Int.toNat p3) z_api_Replica)).Epoch), .I (((p5.getD (Int.toNat p3) z_api_Replica)).Vote), .I (((p5.getD (Int.toNat p3) z_api_Replica)).Commit), .ro Tag.t_api_Entry (((p5.getD (Int.toNat p3) z_api_Replica)).Log)], .agg [.I (((xh0_15h.getD ((Int.toNat ((a1.getD (Int.toNat xt35_15h) (0 : Int))))) z_api_Replica)).Epoch), .I (((xh0_15h.getD ((Int.toNat ((a1.getD (Int.toNat xt35_15h) (0 : Int))))) z_api_Replica)).Vote), .I (((xh0_15h.getD ((Int.toNat ((a1.getD (Int.toNat xt35_15h) (0 : Int))))) z_api_Replica)).Commit), .ro Tag.t_api_Entry (((xh0_15h.getD ((Int.toNat ((a1.getD (Int.toNat xt35_15h) (0 : Int))))) z_api_Replica)).Log)]] (.I a2), True]) (S' := ⟨[(1, .I p3), (3, .P 23100), (6, .P 23101), (7, .cv (.own Tag.t_int 23102)), (8, .cv (.own Tag.t_int 23103)), (10, .I ((a1.getD (Int.toNat xt35_15h) (0 : Int)))), (11, .I a2), (33, .cv (.own Tag.t_int 23104)), (34, .I (a1.length : Int)), (35, .I xt35_15h)], [(0, .lst Tag.t_api_Replica xh0_15h), (23100, .raw [.own Tag.t_api_Replica 0, .ro Tag.t_bool p0, .I p1, .I p2]), (23101, .raw [.I (((p5.getD (Int.toNat p3) z_api_Replica)).Epoch), .I (((p5.getD (Int.toNat p3) z_api_Replica)).Vote), .I (((p5.getD (Int.toNat p3) z_api_Replica)).Commit), .ro Tag.t_api_Entry (((p5.getD (Int.toNat p3) z_api_Replica)).Log)]), (23102, .lst Tag.t_int xh23102_15h), (23103, .lst Tag.t_int xh23103_15h), (23104, .lst Tag.t_int a1)]⟩) (by kernel_rfl) (And.intro g8.1 (And.intro g8.2 (And.intro g9 (And.intro (replog_Common.ok h2) trivial)))) ?_
      refine awp_seq ?_
      obtain ⟨g10, h⟩ := guard_some h
      obtain ⟨⟨a3_0, a3_1⟩, h3, h⟩ := bind_some h
      dsimp only at h
      refine awp_draw L mixed 248 [] [] [(8, { hids := [0], fx := [0], r := .B a3_0, H' := [(0, .lst Tag.t_api_Replica a3_1)], σ := [(0, 0)] })] [] 8 [1, 3, 6, 7, 8, 10, 33, 34, 35, 54] [0, 23100, 23101, 23102, 23103, 23104] (cs := [(0 : Int) ≤ a2, a2 ≤ ((((p5.getD (Int.toNat p3) z_api_Replica)).Log).length : Int), (((((p5.getD (Int.toNat p3) z_api_Replica)).Log).length : Int)) ≤ ((((p5.getD (Int.toNat p3) z_api_Replica)).Log).length : Int), ECall V P 57 [.agg [.own Tag.t_api_Replica 0, .ro Tag.t_bool p0, .I p1, .I p2], .I ((a1.getD (Int.toNat xt35_15h) (0 : Int))), .agg [.I (((p5.getD (Int.toNat p3) z_api_Replica)).Epoch), .I (((p5.getD (Int.toNat p3) z_api_Replica)).Vote), .I (((p5.getD (Int.toNat p3) z_api_Replica)).Commit), .ro Tag.t_api_Entry (((p5.getD (Int.toNat p3) z_api_Replica)).Log)], .I a2, .cv (.ro Tag.t_api_Entry ((slc (((p5.getD (Int.toNat p3) z_api_Replica)).Log) a2 (((((p5.getD (Int.toNat p3) z_api_Replica)).Log).length : Int)))))] [(0, .lst Tag.t_api_Replica xh0_15h)] [0] (.B a3_0) [(0, .lst Tag.t_api_Replica a3_1)]]) (S' := ⟨[(1, .I p3), (3, .P 23100), (6, .P 23101), (7, .cv (.own Tag.t_int 23102)), (8, .cv (.own Tag.t_int 23103)), (10, .I ((a1.getD (Int.toNat xt35_15h) (0 : Int)))), (33, .cv (.own Tag.t_int 23104)), (34, .I (a1.length : Int)), (35, .I xt35_15h), (54, .B a3_0)], [(0, .lst Tag.t_api_Replica a3_1), (23100, .raw [.own Tag.t_api_Replica 0, .ro Tag.t_bool p0, .I p1, .I p2]), (23101, .raw [.I (((p5.getD (Int.toNat p3) z_api_Replica)).Epoch), .I (((p5.getD (Int.toNat p3) z_api_Replica)).Vote), .I (((p5.getD (Int.toNat p3) z_api_Replica)).Commit), .ro Tag.t_api_Entry (((p5.getD (Int.toNat p3) z_api_Replica)).Log)]), (23102, .lst Tag.t_int xh23102_15h), (23103, .lst Tag.t_int xh23103_15h), (23104, .lst Tag.t_int a1)]⟩) (by kernel_rfl) (And.intro g10.1 (And.intro g10.2 (And.intro (Int.le_refl _) (group_Group_accept_v2.okE h3)))) ?_
      rcases ite_some h with ⟨c2, h⟩ | ⟨c2, h⟩
      · refine awp_true (b := a3_0) (by kernel_rfl) (c2) ?_
        refine awp_seq ?_
        obtain ⟨g11, h⟩ := guard_some h
        obtain ⟨g12, h⟩ := guard_some h
        refine awp_region L 258 [] [] [] [1, 3, 6, 7, 8, 10, 33, 34, 35] [0, 23100, 23101, 23102, 23103, 23104] (cs := [(0 : Int) ≤ (a1.getD (Int.toNat xt35_15h) (0 : Int)), ((a1.getD (Int.toNat xt35_15h) (0 : Int)) : Int) < (xh23102_15h.length : Int), (Int.toNat ((a1.getD (Int.toNat xt35_15h) (0 : Int)))) < xh23102_15h.length, True]) (S' := ⟨[(1, .I p3), (3, .P 23100), (6, .P 23101), (7, .cv (.own Tag.t_int 23102)), (8, .cv (.own Tag.t_int 23103)), (10, .I ((a1.getD (Int.toNat xt35_15h) (0 : Int)))), (33, .cv (.own Tag.t_int 23104)), (34, .I (a1.length : Int)), (35, .I xt35_15h)], [(0, .lst Tag.t_api_Replica a3_1), (23100, .raw [.own Tag.t_api_Replica 0, .ro Tag.t_bool p0, .I p1, .I p2]), (23101, .raw [.I (((p5.getD (Int.toNat p3) z_api_Replica)).Epoch), .I (((p5.getD (Int.toNat p3) z_api_Replica)).Vote), .I (((p5.getD (Int.toNat p3) z_api_Replica)).Commit), .ro Tag.t_api_Entry (((p5.getD (Int.toNat p3) z_api_Replica)).Log)]), (23102, .lst Tag.t_int ((xh23102_15h.set ((Int.toNat ((a1.getD (Int.toNat xt35_15h) (0 : Int))))) (((((p5.getD (Int.toNat p3) z_api_Replica)).Log).length : Int))))), (23103, .lst Tag.t_int xh23103_15h), (23104, .lst Tag.t_int a1)]⟩) (by kernel_rfl) (And.intro g8.1 (And.intro g11 (And.intro g12 trivial))) ?_
        obtain ⟨g13, h⟩ := guard_some h
        refine awp_region L 266 [] [] [] [1, 3, 6, 7, 8, 33, 34, 35] [0, 23100, 23101, 23102, 23103, 23104] (cs := [(xh23103_15h.length + (([(a1.getD (Int.toNat xt35_15h) (0 : Int))] : List Int)).length) * 8 ≤ 140737488355328, True]) (S' := ⟨[(1, .I p3), (3, .P 23100), (6, .P 23101), (7, .cv (.own Tag.t_int 23102)), (8, .cv (.own Tag.t_int 23103)), (33, .cv (.own Tag.t_int 23104)), (34, .I (a1.length : Int)), (35, .I xt35_15h)], [(0, .lst Tag.t_api_Replica a3_1), (23100, .raw [.own Tag.t_api_Replica 0, .ro Tag.t_bool p0, .I p1, .I p2]), (23101, .raw [.I (((p5.getD (Int.toNat p3) z_api_Replica)).Epoch), .I (((p5.getD (Int.toNat p3) z_api_Replica)).Vote), .I (((p5.getD (Int.toNat p3) z_api_Replica)).Commit), .ro Tag.t_api_Entry (((p5.getD (Int.toNat p3) z_api_Replica)).Log)]), (23102, .lst Tag.t_int ((xh23102_15h.set ((Int.toNat ((a1.getD (Int.toNat xt35_15h) (0 : Int))))) (((((p5.getD (Int.toNat p3) z_api_Replica)).Log).length : Int))))), (23103, .lst Tag.t_int ((xh23103_15h ++ ([(a1.getD (Int.toNat xt35_15h) (0 : Int))] : List Int)))), (23104, .lst Tag.t_int a1)]⟩) (by kernel_rfl) (And.intro g13 trivial) ?_
        refine awp_region L 272 [] [] [] [1, 3, 6, 7, 8, 33, 34, 35] [0, 23100, 23101, 23102, 23103, 23104] (cs := []) (S' := ⟨[(1, .I p3), (3, .P 23100), (6, .P 23101), (7, .cv (.own Tag.t_int 23102)), (8, .cv (.own Tag.t_int 23103)), (33, .cv (.own Tag.t_int 23104)), (34, .I (a1.length : Int)), (35, .I ((IntKind.i64.wrap (xt35_15h + 1))))], [(0, .lst Tag.t_api_Replica a3_1), (23100, .raw [.own Tag.t_api_Replica 0, .ro Tag.t_bool p0, .I p1, .I p2]), (23101, .raw [.I (((p5.getD (Int.toNat p3) z_api_Replica)).Epoch), .I (((p5.getD (Int.toNat p3) z_api_Replica)).Vote), .I (((p5.getD (Int.toNat p3) z_api_Replica)).Commit), .ro Tag.t_api_Entry (((p5.getD (Int.toNat p3) z_api_Replica)).Log)]), (23102, .lst Tag.t_int ((xh23102_15h.set ((Int.toNat ((a1.getD (Int.toNat xt35_15h) (0 : Int))))) (((((p5.getD (Int.toNat p3) z_api_Replica)).Log).length : Int))))), (23103, .lst Tag.t_int ((xh23103_15h ++ ([(a1.getD (Int.toNat xt35_15h) (0 : Int))] : List Int)))), (23104, .lst Tag.t_int a1)]⟩) (by kernel_rfl) trivial ?_
        exact ⟨k, Nat.lt_succ_self k, _, _, _, _, rfl, h⟩
      · refine awp_false (b := a3_0) (by kernel_rfl) (eq_false_of_ne_true c2) ?_
        refine awp_skip [1, 3, 6, 7, 8, 33, 34, 35] [0, 23100, 23101, 23102, 23103, 23104] (S' := ⟨[(1, .I p3), (3, .P 23100), (6, .P 23101), (7, .cv (.own Tag.t_int 23102)), (8, .cv (.own Tag.t_int 23103)), (33, .cv (.own Tag.t_int 23104)), (34, .I (a1.length : Int)), (35, .I xt35_15h)], [(0, .lst Tag.t_api_Replica a3_1), (23100, .raw [.own Tag.t_api_Replica 0, .ro Tag.t_bool p0, .I p1, .I p2]), (23101, .raw [.I (((p5.getD (Int.toNat p3) z_api_Replica)).Epoch), .I (((p5.getD (Int.toNat p3) z_api_Replica)).Vote), .I (((p5.getD (Int.toNat p3) z_api_Replica)).Commit), .ro Tag.t_api_Entry (((p5.getD (Int.toNat p3) z_api_Replica)).Log)]), (23102, .lst Tag.t_int xh23102_15h), (23103, .lst Tag.t_int xh23103_15h), (23104, .lst Tag.t_int a1)]⟩) (by kernel_rfl) ?_
        refine awp_region L 272 [] [] [] [1, 3, 6, 7, 8, 33, 34, 35] [0, 23100, 23101, 23102, 23103, 23104] (cs := []) (S' := ⟨[(1, .I p3), (3, .P 23100), (6, .P 23101), (7, .cv (.own Tag.t_int 23102)), (8, .cv (.own Tag.t_int 23103)), (33, .cv (.own Tag.t_int 23104)), (34, .I (a1.length : Int)), (35, .I ((IntKind.i64.wrap (xt35_15h + 1))))], [(0, .lst Tag.t_api_Replica a3_1), (23100, .raw [.own Tag.t_api_Replica 0, .ro Tag.t_bool p0, .I p1, .I p2]), (23101, .raw [.I (((p5.getD (Int.toNat p3) z_api_Replica)).Epoch), .I (((p5.getD (Int.toNat p3) z_api_Replica)).Vote), .I (((p5.getD (Int.toNat p3) z_api_Replica)).Commit), .ro Tag.t_api_Entry (((p5.getD (Int.toNat p3) z_api_Replica)).Log)]), (23102, .lst Tag.t_int xh23102_15h), (23103, .lst Tag.t_int xh23103_15h), (23104, .lst Tag.t_int a1)]⟩) (by kernel_rfl) trivial ?_
        exact ⟨k, Nat.lt_succ_self k, _, _, _, _, rfl, h⟩
    · refine awp_false (b := (decide (xt35_15h < (a1.length : Int)))) (by kernel_rfl) (decide_eq_false c1) ?_
      refine awp_turn (Turns.trans (Turns.keep [1, 3, 6, 7, 8] [0, 23100, 23101, 23102, 23103] (S' := ⟨[(1, .I p3), (3, .P 23100), (6, .P 23101), (7, .cv (.own Tag.t_int 23102)), (8, .cv (.own Tag.t_int 23103))], [(0, .lst Tag.t_api_Replica xh0_15h), (23100, .raw [.own Tag.t_api_Replica 0, .ro Tag.t_bool p0, .I p1, .I p2]), (23101, .raw [.I (((p5.getD (Int.toNat p3) z_api_Replica)).Epoch), .I (((p5.getD (Int.toNat p3) z_api_Replica)).Vote), .I (((p5.getD (Int.toNat p3) z_api_Replica)).Commit), .ro Tag.t_api_Entry (((p5.getD (Int.toNat p3) z_api_Replica)).Log)]), (23102, .lst Tag.t_int xh23102_15h), (23103, .lst Tag.t_int xh23103_15h)]⟩) (by kernel_rfl)) (Turns.ren [(0, 0), (23100, 23000), (23101, 23001), (23102, 23002), (23103, 23003)] (S' := ⟨[(1, .I p3), (3, .P 23000), (6, .P 23001), (7, .cv (.own Tag.t_int 23002)), (8, .cv (.own Tag.t_int 23003))], [(0, .lst Tag.t_api_Replica xh0_15h), (23000, .raw [.own Tag.t_api_Replica 0, .ro Tag.t_bool p0, .I p1, .I p2]), (23001, .raw [.I (((p5.getD (Int.toNat p3) z_api_Replica)).Epoch), .I (((p5.getD (Int.toNat p3) z_api_Replica)).Vote), .I (((p5.getD (Int.toNat p3) z_api_Replica)).Commit), .ro Tag.t_api_Entry (((p5.getD (Int.toNat p3) z_api_Replica)).Log)]), (23002, .lst Tag.t_int xh23102_15h), (23003, .lst Tag.t_int xh23103_15h)]⟩) (by kernel_rfl) (by kernel_rfl))) ?_
      refine awp_exit [1, 3, 6, 7, 8] [0, 23000, 23001, 23002, 23003] (S' := ⟨[(1, .I p3), (3, .P 23000), (6, .P 23001), (7, .cv (.own Tag.t_int 23002)), (8, .cv (.own Tag.t_int 23003))], [(0, .lst Tag.t_api_Replica xh0_15h), (23000, .raw [.own Tag.t_api_Replica 0, .ro Tag.t_bool p0, .I p1, .I p2]), (23001, .raw [.I (((p5.getD (Int.toNat p3) z_api_Replica)).Epoch), .I (((p5.getD (Int.toNat p3) z_api_Replica)).Vote), .I (((p5.getD (Int.toNat p3) z_api_Replica)).Commit), .ro Tag.t_api_Entry (((p5.getD (Int.toNat p3) z_api_Replica)).Log)]), (23002, .lst Tag.t_int xh23102_15h), (23003, .lst Tag.t_int xh23103_15h)]⟩) (by kernel_rfl) ?_
      have hr := Option.some.inj h
      subst hr
      exact ⟨rfl, _, _, _, rfl, rfl⟩
  · rintro e S ⟨rfl, xh0_15, xh23002_15, xh23003_15, rfl, rfl⟩
    dsimp only at h
    refine ⟨_, Turns.refl, ?_⟩
    refine awp_seq ?_
    refine awp_region L 275 [] [] [] [1, 3, 6, 7, 8, 12] [0, 23000, 23001, 23002, 23003] (cs := []) (S' := ⟨[(1, .I p3), (3, .P 23000), (6, .P 23001), (7, .cv (.own Tag.t_int 23002)), (8, .cv (.own Tag.t_int 23003)), (12, .I (((p5.getD (Int.toNat p3) z_api_Replica)).Commit))], [(0, .lst Tag.t_api_Replica xh0_15), (23000, .raw [.own Tag.t_api_Replica 0, .ro Tag.t_bool p0, .I p1, .I p2]), (23001, .raw [.I (((p5.getD (Int.toNat p3) z_api_Replica)).Epoch), .I (((p5.getD (Int.toNat p3) z_api_Replica)).Vote), .I (((p5.getD (Int.toNat p3) z_api_Replica)).Commit), .ro Tag.t_api_Entry (((p5.getD (Int.toNat p3) z_api_Replica)).Log)]), (23002, .lst Tag.t_int xh23002_15), (23003, .lst Tag.t_int xh23003_15)]⟩) (by kernel_rfl) trivial ?_
    refine awp_seq ?_
    obtain ⟨a4, h4, h⟩ := bind_some h
    refine awp_region L 279 [] [(2, .I a4)] [] [1, 3, 6, 8, 12] [0, 23000, 23001, 23003] (cs := [PCall V P 58 [.agg [.I (((p5.getD (Int.toNat p3) z_api_Replica)).Epoch), .I (((p5.getD (Int.toNat p3) z_api_Replica)).Vote), .I (((p5.getD (Int.toNat p3) z_api_Replica)).Commit), .ro Tag.t_api_Entry (((p5.getD (Int.toNat p3) z_api_Replica)).Log)], .cv (.ro Tag.t_int xh23002_15)] (.I a4), True]) (S' := ⟨[(1, .I p3), (3, .P 23000), (6, .P 23001), (8, .cv (.own Tag.t_int 23003)), (12, .I (((p5.getD (Int.toNat p3) z_api_Replica)).Commit))], [(0, .lst Tag.t_api_Replica xh0_15), (23000, .raw [.own Tag.t_api_Replica 0, .ro Tag.t_bool p0, .I p1, .I p2]), (23001, .raw [.I (((p5.getD (Int.toNat p3) z_api_Replica)).Epoch), .I (((p5.getD (Int.toNat p3) z_api_Replica)).Vote), .I a4, .ro Tag.t_api_Entry (((p5.getD (Int.toNat p3) z_api_Replica)).Log)]), (23003, .lst Tag.t_int xh23003_15)]⟩) (by kernel_rfl) (And.intro (quorum_Commit.ok h4) trivial) ?_
    refine awp_seq ?_
    obtain ⟨g14, h⟩ := guard_some h
    obtain ⟨g15, h⟩ := guard_some h
    refine awp_region L 285 [] [] [] [3, 6, 8, 12] [0, 23000, 23001, 23003] (cs := [(0 : Int) ≤ p3, (p3 : Int) < (xh0_15.length : Int), (Int.toNat p3) < xh0_15.length, True]) (S' := ⟨[(3, .P 23000), (6, .P 23001), (8, .cv (.own Tag.t_int 23003)), (12, .I (((p5.getD (Int.toNat p3) z_api_Replica)).Commit))], [(0, .lst Tag.t_api_Replica ((xh0_15.set (Int.toNat p3) ((⟨((p5.getD (Int.toNat p3) z_api_Replica)).Epoch, ((p5.getD (Int.toNat p3) z_api_Replica)).Vote, a4, ((p5.getD (Int.toNat p3) z_api_Replica)).Log⟩ : api_Replica))))), (23000, .raw [.own Tag.t_api_Replica 0, .ro Tag.t_bool p0, .I p1, .I p2]), (23001, .raw [.I (((p5.getD (Int.toNat p3) z_api_Replica)).Epoch), .I (((p5.getD (Int.toNat p3) z_api_Replica)).Vote), .I a4, .ro Tag.t_api_Entry (((p5.getD (Int.toNat p3) z_api_Replica)).Log)]), (23003, .lst Tag.t_int xh23003_15)]⟩) (by kernel_rfl) (And.intro g1.1 (And.intro g14 (And.intro g15 trivial))) ?_
    refine awp_seq ?_
    refine awp_seq ?_
    refine awp_region L 292 [] [] [] [3, 6, 8, 80] [0, 23000, 23001, 23003] (cs := []) (S' := ⟨[(3, .P 23000), (6, .P 23001), (8, .cv (.own Tag.t_int 23003)), (80, .B ((decide (a4 ≤ ((p5.getD (Int.toNat p3) z_api_Replica)).Commit))))], [(0, .lst Tag.t_api_Replica ((xh0_15.set (Int.toNat p3) ((⟨((p5.getD (Int.toNat p3) z_api_Replica)).Epoch, ((p5.getD (Int.toNat p3) z_api_Replica)).Vote, a4, ((p5.getD (Int.toNat p3) z_api_Replica)).Log⟩ : api_Replica))))), (23000, .raw [.own Tag.t_api_Replica 0, .ro Tag.t_bool p0, .I p1, .I p2]), (23001, .raw [.I (((p5.getD (Int.toNat p3) z_api_Replica)).Epoch), .I (((p5.getD (Int.toNat p3) z_api_Replica)).Vote), .I a4, .ro Tag.t_api_Entry (((p5.getD (Int.toNat p3) z_api_Replica)).Log)]), (23003, .lst Tag.t_int xh23003_15)]⟩) (by kernel_rfl) trivial ?_
    rcases ite_some h with ⟨c3, h⟩ | ⟨c3, h⟩
    · refine awp_true (b := (decide (a4 ≤ ((p5.getD (Int.toNat p3) z_api_Replica)).Commit))) (by kernel_rfl) (decide_eq_true c3) ?_
      refine awp_ret ?_
      have hr := Option.some.inj h
      subst hr
      exact ⟨.inr rfl, .tup [], by kernel_rfl, by kernel_rfl, by kernel_rfl⟩
    · refine awp_false (b := (decide (a4 ≤ ((p5.getD (Int.toNat p3) z_api_Replica)).Commit))) (by kernel_rfl) (decide_eq_false c3) ?_
      refine awp_skip [3, 6, 8] [0, 23000, 23001, 23003] (S' := ⟨[(3, .P 23000), (6, .P 23001), (8, .cv (.own Tag.t_int 23003))], [(0, .lst Tag.t_api_Replica ((xh0_15.set (Int.toNat p3) ((⟨((p5.getD (Int.toNat p3) z_api_Replica)).Epoch, ((p5.getD (Int.toNat p3) z_api_Replica)).Vote, a4, ((p5.getD (Int.toNat p3) z_api_Replica)).Log⟩ : api_Replica))))), (23000, .raw [.own Tag.t_api_Replica 0, .ro Tag.t_bool p0, .I p1, .I p2]), (23001, .raw [.I (((p5.getD (Int.toNat p3) z_api_Replica)).Epoch), .I (((p5.getD (Int.toNat p3) z_api_Replica)).Vote), .I a4, .ro Tag.t_api_Entry (((p5.getD (Int.toNat p3) z_api_Replica)).Log)]), (23003, .lst Tag.t_int xh23003_15)]⟩) (by kernel_rfl) ?_
      refine awp_seq ?_
      refine awp_region L 297 [] [] [] [3, 6, 81, 82, 83] [0, 23000, 23001, 23003] (cs := []) (S' := ⟨[(3, .P 23000), (6, .P 23001), (81, .cv (.own Tag.t_int 23003)), (82, .I (xh23003_15.length : Int)), (83, .I 0)], [(0, .lst Tag.t_api_Replica ((xh0_15.set (Int.toNat p3) ((⟨((p5.getD (Int.toNat p3) z_api_Replica)).Epoch, ((p5.getD (Int.toNat p3) z_api_Replica)).Vote, a4, ((p5.getD (Int.toNat p3) z_api_Replica)).Log⟩ : api_Replica))))), (23000, .raw [.own Tag.t_api_Replica 0, .ro Tag.t_bool p0, .I p1, .I p2]), (23001, .raw [.I (((p5.getD (Int.toNat p3) z_api_Replica)).Epoch), .I (((p5.getD (Int.toNat p3) z_api_Replica)).Vote), .I a4, .ro Tag.t_api_Entry (((p5.getD (Int.toNat p3) z_api_Replica)).Log)]), (23003, .lst Tag.t_int xh23003_15)]⟩) (by kernel_rfl) trivial ?_
      refine awp_block ?_
      refine awp_turn (Turns.trans (Turns.keep [3, 6, 81, 82, 83] [0, 23000, 23001, 23003] (S' := ⟨[(3, .P 23000), (6, .P 23001), (81, .cv (.own Tag.t_int 23003)), (82, .I (xh23003_15.length : Int)), (83, .I 0)], [(0, .lst Tag.t_api_Replica ((xh0_15.set (Int.toNat p3) ((⟨((p5.getD (Int.toNat p3) z_api_Replica)).Epoch, ((p5.getD (Int.toNat p3) z_api_Replica)).Vote, a4, ((p5.getD (Int.toNat p3) z_api_Replica)).Log⟩ : api_Replica))))), (23000, .raw [.own Tag.t_api_Replica 0, .ro Tag.t_bool p0, .I p1, .I p2]), (23001, .raw [.I (((p5.getD (Int.toNat p3) z_api_Replica)).Epoch), .I (((p5.getD (Int.toNat p3) z_api_Replica)).Vote), .I a4, .ro Tag.t_api_Entry (((p5.getD (Int.toNat p3) z_api_Replica)).Log)]), (23003, .lst Tag.t_int xh23003_15)]⟩) (by kernel_rfl)) (Turns.ren [(0, 0), (23000, 30300), (23001, 30301), (23003, 30302)] (S' := ⟨[(3, .P 30300), (6, .P 30301), (81, .cv (.own Tag.t_int 30302)), (82, .I (xh23003_15.length : Int)), (83, .I 0)], [(0, .lst Tag.t_api_Replica ((xh0_15.set (Int.toNat p3) ((⟨((p5.getD (Int.toNat p3) z_api_Replica)).Epoch, ((p5.getD (Int.toNat p3) z_api_Replica)).Vote, a4, ((p5.getD (Int.toNat p3) z_api_Replica)).Log⟩ : api_Replica))))), (30300, .raw [.own Tag.t_api_Replica 0, .ro Tag.t_bool p0, .I p1, .I p2]), (30301, .raw [.I (((p5.getD (Int.toNat p3) z_api_Replica)).Epoch), .I (((p5.getD (Int.toNat p3) z_api_Replica)).Vote), .I a4, .ro Tag.t_api_Entry (((p5.getD (Int.toNat p3) z_api_Replica)).Log)]), (30302, .lst Tag.t_int xh23003_15)]⟩) (by kernel_rfl) (by kernel_rfl))) ?_
      refine awp_keep (ts := [3, 6, 81, 82, 83]) (ids := [0, 30300, 30301, 30302]) (S' := ⟨[(3, .P 30300), (6, .P 30301), (81, .cv (.own Tag.t_int 30302)), (82, .I (xh23003_15.length : Int)), (83, .I 0)], [(0, .lst Tag.t_api_Replica ((xh0_15.set (Int.toNat p3) ((⟨((p5.getD (Int.toNat p3) z_api_Replica)).Epoch, ((p5.getD (Int.toNat p3) z_api_Replica)).Vote, a4, ((p5.getD (Int.toNat p3) z_api_Replica)).Log⟩ : api_Replica))))), (30300, .raw [.own Tag.t_api_Replica 0, .ro Tag.t_bool p0, .I p1, .I p2]), (30301, .raw [.I (((p5.getD (Int.toNat p3) z_api_Replica)).Epoch), .I (((p5.getD (Int.toNat p3) z_api_Replica)).Vote), .I a4, .ro Tag.t_api_Entry (((p5.getD (Int.toNat p3) z_api_Replica)).Log)]), (30302, .lst Tag.t_int xh23003_15)]⟩) (by kernel_rfl) ?_
      obtain ⟨o2, hp2, h⟩ := bind_some h
      refine awp_conseq (Q' := fun e S => (e = .exit 2 ∧ ∃ xh0_51 : List api_Replica, S = ⟨[], [(0, .lst Tag.t_api_Replica xh0_51)]⟩ ∧ xh0_51 = o2)) (awp_loop (fun k S => ∃ xt83_51h : Int, ∃ xh0_51h : List api_Replica, S = ⟨[(3, .P 30300), (6, .P 30301), (81, .cv (.own Tag.t_int 30302)), (82, .I (xh23003_15.length : Int)), (83, .I xt83_51h)], [(0, .lst Tag.t_api_Replica xh0_51h), (30300, .raw [.own Tag.t_api_Replica 0, .ro Tag.t_bool p0, .I p1, .I p2]), (30301, .raw [.I (((p5.getD (Int.toNat p3) z_api_Replica)).Epoch), .I (((p5.getD (Int.toNat p3) z_api_Replica)).Vote), .I a4, .ro Tag.t_api_Entry (((p5.getD (Int.toNat p3) z_api_Replica)).Log)]), (30302, .lst Tag.t_int xh23003_15)]⟩ ∧ group_Group_replicate_v2.l51 K p0 p1 p2 p3 p5 xh23003_15 a4 k xt83_51h xh0_51h = some o2) ?_ ⟨_, _, rfl, hp2⟩) ?_
      · clear h hp2
        intro k S hS
        obtain ⟨xt83_51h, xh0_51h, rfl, h⟩ := hS
        cases k with
        | zero => cases h
        | succ k =>
        unfold group_Group_replicate_v2.l51 at h
        refine awp_seq ?_
        refine awp_region L 301 [] [] [] [3, 6, 81, 82, 83, 84] [0, 30300, 30301, 30302] (cs := []) (S' := ⟨[(3, .P 30300), (6, .P 30301), (81, .cv (.own Tag.t_int 30302)), (82, .I (xh23003_15.length : Int)), (83, .I xt83_51h), (84, .B ((decide (xt83_51h < (xh23003_15.length : Int)))))], [(0, .lst Tag.t_api_Replica xh0_51h), (30300, .raw [.own Tag.t_api_Replica 0, .ro Tag.t_bool p0, .I p1, .I p2]), (30301, .raw [.I (((p5.getD (Int.toNat p3) z_api_Replica)).Epoch), .I (((p5.getD (Int.toNat p3) z_api_Replica)).Vote), .I a4, .ro Tag.t_api_Entry (((p5.getD (Int.toNat p3) z_api_Replica)).Log)]), (30302, .lst Tag.t_int xh23003_15)]⟩) (by kernel_rfl) trivial ?_
        refine awp_seq ?_
        rcases ite_some h with ⟨c4, h⟩ | ⟨c4, h⟩
        · refine awp_true (b := (decide (xt83_51h < (xh23003_15.length : Int)))) (by kernel_rfl) (decide_eq_true c4) ?_
          refine awp_skip [3, 6, 81, 82, 83] [0, 30300, 30301, 30302] (S' := ⟨[(3, .P 30300), (6, .P 30301), (81, .cv (.own Tag.t_int 30302)), (82, .I (xh23003_15.length : Int)), (83, .I xt83_51h)], [(0, .lst Tag.t_api_Replica xh0_51h), (30300, .raw [.own Tag.t_api_Replica 0, .ro Tag.t_bool p0, .I p1, .I p2]), (30301, .raw [.I (((p5.getD (Int.toNat p3) z_api_Replica)).Epoch), .I (((p5.getD (Int.toNat p3) z_api_Replica)).Vote), .I a4, .ro Tag.t_api_Entry (((p5.getD (Int.toNat p3) z_api_Replica)).Log)]), (30302, .lst Tag.t_int xh23003_15)]⟩) (by kernel_rfl) ?_
          refine awp_seq ?_
          refine awp_block ?_
          refine awp_seq ?_
          obtain ⟨g16, h⟩ := guard_some h
          obtain ⟨g17, h⟩ := guard_some h
          refine awp_region L 303 [] [] [] [3, 6, 14, 81, 82, 83] [0, 30300, 30301, 30302] (cs := [(0 : Int) ≤ xt83_51h, (xt83_51h : Int) < (xh23003_15.length : Int), (Int.toNat xt83_51h) < xh23003_15.length]) (S' := ⟨[(3, .P 30300), (6, .P 30301), (14, .I ((xh23003_15.getD (Int.toNat xt83_51h) (0 : Int)))), (81, .cv (.own Tag.t_int 30302)), (82, .I (xh23003_15.length : Int)), (83, .I xt83_51h)], [(0, .lst Tag.t_api_Replica xh0_51h), (30300, .raw [.own Tag.t_api_Replica 0, .ro Tag.t_bool p0, .I p1, .I p2]), (30301, .raw [.I (((p5.getD (Int.toNat p3) z_api_Replica)).Epoch), .I (((p5.getD (Int.toNat p3) z_api_Replica)).Vote), .I a4, .ro Tag.t_api_Entry (((p5.getD (Int.toNat p3) z_api_Replica)).Log)]), (30302, .lst Tag.t_int xh23003_15)]⟩) (by kernel_rfl) (And.intro g16.1 (And.intro g16.2 g17)) ?_
          obtain ⟨⟨a5_0, a5_1⟩, h5, h⟩ := bind_some h
          dsimp only at h
          refine awp_region L 307 [] [] [(6, { hids := [0], fx := [0], r := .B a5_0, H' := [(0, .lst Tag.t_api_Replica a5_1)], σ := [(0, 0)] })] [3, 6, 81, 82, 83] [0, 30300, 30301, 30302] (cs := [ECall V P 57 [.agg [.own Tag.t_api_Replica 0, .ro Tag.t_bool p0, .I p1, .I p2], .I ((xh23003_15.getD (Int.toNat xt83_51h) (0 : Int))), .agg [.I (((p5.getD (Int.toNat p3) z_api_Replica)).Epoch), .I (((p5.getD (Int.toNat p3) z_api_Replica)).Vote), .I a4, .ro Tag.t_api_Entry (((p5.getD (Int.toNat p3) z_api_Replica)).Log)], .I (((((p5.getD (Int.toNat p3) z_api_Replica)).Log).length : Int)), .N] [(0, .lst Tag.t_api_Replica xh0_51h)] [0] (.B a5_0) [(0, .lst Tag.t_api_Replica a5_1)]]) (S' := ⟨[(3, .P 30300), (6, .P 30301), (81, .cv (.own Tag.t_int 30302)), (82, .I (xh23003_15.length : Int)), (83, .I xt83_51h)], [(0, .lst Tag.t_api_Replica a5_1), (30300, .raw [.own Tag.t_api_Replica 0, .ro Tag.t_bool p0, .I p1, .I p2]), (30301, .raw [.I (((p5.getD (Int.toNat p3) z_api_Replica)).Epoch), .I (((p5.getD (Int.toNat p3) z_api_Replica)).Vote), .I a4, .ro Tag.t_api_Entry (((p5.getD (Int.toNat p3) z_api_Replica)).Log)]), (30302, .lst Tag.t_int xh23003_15)]⟩) (by kernel_rfl) (ECall.co (group_Group_accept_v2.okE h5) (by kernel_rfl) (by kernel_rfl)) ?_
          refine awp_region L 315 [] [] [] [3, 6, 81, 82, 83] [0, 30300, 30301, 30302] (cs := []) (S' := ⟨[(3, .P 30300), (6, .P 30301), (81, .cv (.own Tag.t_int 30302)), (82, .I (xh23003_15.length : Int)), (83, .I ((IntKind.i64.wrap (xt83_51h + 1))))], [(0, .lst Tag.t_api_Replica a5_1), (30300, .raw [.own Tag.t_api_Replica 0, .ro Tag.t_bool p0, .I p1, .I p2]), (30301, .raw [.I (((p5.getD (Int.toNat p3) z_api_Replica)).Epoch), .I (((p5.getD (Int.toNat p3) z_api_Replica)).Vote), .I a4, .ro Tag.t_api_Entry (((p5.getD (Int.toNat p3) z_api_Replica)).Log)]), (30302, .lst Tag.t_int xh23003_15)]⟩) (by kernel_rfl) trivial ?_
          exact ⟨k, Nat.lt_succ_self k, _, _, rfl, h⟩
        · refine awp_false (b := (decide (xt83_51h < (xh23003_15.length : Int)))) (by kernel_rfl) (decide_eq_false c4) ?_
          refine awp_exit [] [0] (S' := ⟨[], [(0, .lst Tag.t_api_Replica xh0_51h)]⟩) (by kernel_rfl) ?_
          have hr := Option.some.inj h
          subst hr
          exact ⟨rfl, _, rfl, rfl⟩
      · rintro e S ⟨rfl, xh0_51, rfl, rfl⟩
        refine ⟨_, Turns.keep [] [0] (S' := ⟨[], [(0, .lst Tag.t_api_Replica xh0_51)]⟩) (by kernel_rfl), ?_⟩
        have hr := Option.some.inj h
        subst hr
        exact ⟨.inl rfl, .tup [], by kernel_rfl, by kernel_rfl, by kernel_rfl⟩

theorem group_Group_replicate_v2.okE {K : Nat} {p0 : List Bool} {p1 : Int} {p2 : Int} {p3 : Int} {p4 : List Int} {p5 : List api_Replica} {r : List api_Replica} (h : group_Group_replicate_v2 K p0 p1 p2 p3 p4 p5 = some r) : ECall V P 37 [.agg [.own Tag.t_api_Replica 0, .ro Tag.t_bool p0, .I p1, .I p2], .I p3, .cv (.ro Tag.t_int p4)] [(0, .lst Tag.t_api_Replica p5)] [0] (.tup []) [(0, .lst Tag.t_api_Replica r)] :=
  ecall_of (fn := Try.f37) (n := 95) (m := 100) (by kernel_rfl) (by kernel_rfl) (by kernel_rfl) rfl (by kernel_rfl) (by kernel_rfl) fun Γ => group_Group_replicate_v2.body h


end Go.Proofs.Ytmafcdkdcfaajaa
