/- What functions of the program compute, as Lean functions, and that they compute it. -/
import Derived.Test.YtmafcdkdcfaajaaGreatFn1
set_option linter.unusedVariables false
set_option maxHeartbeats 0
namespace Go.Proofs.YtmafcdkdcfaajaaGreat
open Eng
def wr54_Observe (K : Nat) (p0 : aRep) (p1 : Int) : Option aRep := (if p1 > p0.Epoch then some (⟨p1, (-1), p0.Commit, p0.Log⟩ : aRep) else some p0)
theorem wr54_Observe.body {Γ : Ent} {K : Nat} {p0 : aRep} {p1 : Int} {r : aRep} (h : wr54_Observe K p0 p1 = some r) : AWp V P 13 100 Γ (Tryz.f78.body.getD .skip) (EndsE P V Tryz.f78 (.agg [.I r.Epoch, .I r.Vote, .I r.Commit, .ro .t_aEnt r.Log]) []) ⟨args0 0 [.agg (d_aRep p0), .I p1], []⟩ := by
 unfold wr54_Observe at h
 refine sr0 L 200 [] [] [] (S' := ⟨[(1, .I p1), (2, .P 200), (4, .P 201)], [(200, .raw (d_aRep p0)), (201, .raw [.I 0, .I 0, .I 0, .N])]⟩) ?_
 refine awp_seq ?_
 refine sr0 L 203 [] [] [] (S' := ⟨[(1, .I p1), (2, .P 200), (4, .P 201), (8, .B (decide (p1 > p0.Epoch)))], [(200, .raw (d_aRep p0)), (201, .raw [.I 0, .I 0, .I 0, .N])]⟩) ?_
 rcases ite_some h with ⟨c1, h⟩ | ⟨c1, h⟩
 ·refine tt (b := (decide (p1 > p0.Epoch))) (decide_eq_true c1) ?_
  refine sr0 L 208 [] [] [] (S' := ⟨[(2, .P 200), (4, .P 201)], [(200, .raw [.I p1, .I p0.Vote, .I p0.Commit, .ro .t_aEnt p0.Log]), (201, .raw [.I 0, .I 0, .I 0, .N])]⟩) ?_
  refine ar0 L 212 [] [] [] (S' := ⟨[(2, .P 200), (4, .P 201)], [(200, .raw [.I p1, .I (-1), .I p0.Commit, .ro .t_aEnt p0.Log]), (201, .raw [.I 0, .I 0, .I 0, .N])]⟩) ?_
  refine sr0 L 215 [] [] [] (S' := ⟨[(4, .P 201)], [(201, .raw [.I p1, .I (-1), .I p0.Commit, .ro .t_aEnt p0.Log])]⟩) ?_
  refine awp_turn (Turns.rn [(201, 100)] (S' := ⟨[(4, .P 100)], [(100, .raw [.I p1, .I (-1), .I p0.Commit, .ro .t_aEnt p0.Log])]⟩)) ?_
  refine awp_ret ?_
  obtain rfl := Option.some.inj h
  exact er (.agg [.I p1, .I (-1), .I p0.Commit, .ro .t_aEnt p0.Log])
 refine ff (b := (decide (p1 > p0.Epoch))) (decide_eq_false c1) ?_
 refine awp_skip' ?_
 refine sr0 L 215 [] [] [] (S' := ⟨[(4, .P 201)], [(201, .raw (d_aRep p0))]⟩) ?_
 refine awp_turn (Turns.rn [(201, 100)] (S' := ⟨[(4, .P 100)], [(100, .raw (d_aRep p0))]⟩)) ?_
 refine awp_ret ?_
 obtain rfl := Option.some.inj h
 exact er (.agg (d_aRep p0))
theorem wr54_Observe.ok {K : Nat} {p0 : aRep} {p1 : Int} {r : aRep} (h : wr54_Observe K p0 p1 = some r) : PCall V P 78 [.agg (d_aRep p0), .I p1] (.agg [.I r.Epoch, .I r.Vote, .I r.Commit, .ro .t_aEnt r.Log]) := ECall.pcall (eo (fn := Tryz.f78) (n := 13) (m := 100) fun Γ => wr54_Observe.body h) (by kernel_rfl)
def wr54_Newer (K : Nat) (p0 : Int) (p1 : Int) (p2 : Int) (p3 : Int) : Option Bool := (if p1 > p3 then some true else (if p1 = p3 then some (decide (p0 ≥ p2)) else some false))
theorem wr54_Newer.body {Γ : Ent} {K : Nat} {p0 : Int} {p1 : Int} {p2 : Int} {p3 : Int} {r : Bool} (h : wr54_Newer K p0 p1 p2 p3 = some r) : AWp V P 22 100 Γ (Tryz.f79.body.getD .skip) (EndsE P V Tryz.f79 (.B r) []) ⟨args0 0 [.I p0, .I p1, .I p2, .I p3], []⟩ := by
 unfold wr54_Newer at h
 refine sr0 L 200 [] [] [] (S' := ⟨[(0, .I p0), (1, .I p1), (2, .I p2), (3, .I p3)], []⟩) ?_
 refine awp_seq ?_
 rcases ite_some h with ⟨c1, h⟩ | ⟨c1, h⟩
 ·refine ar L 202 [(3, true)] [] [] (cs := [(decide (p1 > p3)) = true]) (S' := ⟨[(8, .B true)], []⟩) (decide_eq_true c1) ?_
  refine awp_ret ?_
  obtain rfl := Option.some.inj h
  exact er (.B true)
 rcases ite_some h with ⟨c2, h⟩ | ⟨c2, h⟩
 ·refine ar L 202 [(3, false), (7, true)] [] [] (cs := [(decide (p1 > p3)) = false, (decide (p1 = p3)) = true]) (S' := ⟨[(8, .B (decide (p0 ≥ p2)))], []⟩) (And.intro (decide_eq_false c1) (decide_eq_true c2)) ?_
  refine awp_ret ?_
  obtain rfl := Option.some.inj h
  exact er (.B (decide (p0 ≥ p2)))
 refine ar L 202 [(3, false), (7, false)] [] [] (cs := [(decide (p1 > p3)) = false, (decide (p1 = p3)) = false]) (S' := ⟨[(8, .B false)], []⟩) (And.intro (decide_eq_false c1) (decide_eq_false c2)) ?_
 refine awp_ret ?_
 obtain rfl := Option.some.inj h
 exact er (.B false)
theorem wr54_Newer.ok {K : Nat} {p0 : Int} {p1 : Int} {p2 : Int} {p3 : Int} {r : Bool} (h : wr54_Newer K p0 p1 p2 p3 = some r) : PCall V P 79 [.I p0, .I p1, .I p2, .I p3] (.B r) := ECall.pcall (eo (fn := Tryz.f79) (n := 22) (m := 100) fun Γ => wr54_Newer.body h) (by kernel_rfl)
def wr54_Ask (K : Nat) (p0 : aRep) (p1 : Int) (p2 : Int) (p3 : Int) (p4 : Int) : Option (aRep × Bool × Int) := (Option.bind (wr52_Right K p0) (fun a1 => (if a1 = true then (if p1 < 1 then some ((⟨0, 0, 0, ([] : List aEnt)⟩ : aRep), false, 2) else (if p1 > 1099511627776 then some ((⟨0, 0, 0, ([] : List aEnt)⟩ : aRep), false, 2) else (Option.bind (wr54_member K p2) (fun a2 => (if a2 = true then (if p3 < 0 then some ((⟨0, 0, 0, ([] : List aEnt)⟩ : aRep), false, 2) else (if p4 < 0 then some ((⟨0, 0, 0, ([] : List aEnt)⟩ : aRep), false, 2) else (if p1 < p0.Epoch then some ((⟨0, 0, 0, ([] : List aEnt)⟩ : aRep), false, 25) else (Option.bind (wr54_Observe K p0 p1) (fun a3 => (Option.bind (wr52_Last K a3) (fun (a4_0, a4_1) => (if a3.Vote ≠ (-1) then (if a3.Vote ≠ p2 then some (a3, false, 0) else (Option.bind (wr54_Newer K p3 p4 a4_0 a4_1) (fun a5 => (if a5 = true then some ((⟨a3.Epoch, p2, a3.Commit, a3.Log⟩ : aRep), true, 0) else some (a3, false, 0))))) else (Option.bind (wr54_Newer K p3 p4 a4_0 a4_1) (fun a6 => (if a6 = true then some ((⟨a3.Epoch, p2, a3.Commit, a3.Log⟩ : aRep), true, 0) else some (a3, false, 0)))))))))))) else some ((⟨0, 0, 0, ([] : List aEnt)⟩ : aRep), false, 2)))))) else some ((⟨0, 0, 0, ([] : List aEnt)⟩ : aRep), false, 2))))
theorem wr54_Ask.body {Γ : Ent} {K : Nat} {p0 : aRep} {p1 : Int} {p2 : Int} {p3 : Int} {p4 : Int} {r : aRep × Bool × Int} (h : wr54_Ask K p0 p1 p2 p3 p4 = some r) : AWp V P 75 100 Γ (Tryz.f47.body.getD .skip) (EndsE P V Tryz.f47 (.tup [.agg [.I r.1.Epoch, .I r.1.Vote, .I r.1.Commit, .ro .t_aEnt r.1.Log], .B r.2.1, .I r.2.2]) []) ⟨args0 0 [.agg (d_aRep p0), .I p1, .I p2, .I p3, .I p4], []⟩ := by
 unfold wr54_Ask at h
 refine sr0 L 200 [] [] [] (S' := ⟨[(1, .I p1), (2, .I p2), (3, .I p3), (4, .I p4), (5, .P 200), (10, .P 201)], [(200, .raw (d_aRep p0)), (201, .raw [.I 0, .I 0, .I 0, .N])]⟩) ?_
 refine awp_seq ?_
 refine awp_seq ?_
 obtain ⟨a1, h1, h⟩ := bind_some h
 rcases ite_some h with ⟨c1, h⟩ | ⟨c1, h⟩
 ·rcases ite_some h with ⟨c2, h⟩ | ⟨c2, h⟩
  ·refine ar L 205 [(3, false), (7, true)] [(1, .B a1)] [] (cs := [PCall V P 33 [.agg (d_aRep p0)] (.B a1), True, (!a1) = false, (decide (p1 < 1)) = true]) (S' := ⟨[(1, .I p1), (2, .I p2), (3, .I p3), (4, .I p4), (5, .P 200), (10, .P 201), (39, .B true)], [(200, .raw (d_aRep p0)), (201, .raw [.I 0, .I 0, .I 0, .N])]⟩) (And.intro (wr52_Right.ok h1) (And.intro trivial (And.intro (congrArg Bool.not (c1)) (decide_eq_true c2)))) ?_
   refine tt (b := true) (rfl) ?_
   refine sr0 L 230 [] [] [] (S' := ⟨[(10, .P 201), (11, .B false), (12, .I 2)], [(201, .raw [.I 0, .I 0, .I 0, .N])]⟩) ?_
   refine awp_turn (Turns.rn [(201, 100)] (S' := ⟨[(10, .P 100), (11, .B false), (12, .I 2)], [(100, .raw [.I 0, .I 0, .I 0, .N])]⟩)) ?_
   refine awp_ret ?_
   obtain rfl := Option.some.inj h
   exact er (.tup [.agg [.I 0, .I 0, .I 0, .N], .B false, .I 2])
  rcases ite_some h with ⟨c3, h⟩ | ⟨c3, h⟩
  ·refine ar L 205 [(3, false), (7, false), (11, true)] [(1, .B a1)] [] (cs := [PCall V P 33 [.agg (d_aRep p0)] (.B a1), True, (!a1) = false, (decide (p1 < 1)) = false, (decide (p1 > 1099511627776)) = true]) (S' := ⟨[(1, .I p1), (2, .I p2), (3, .I p3), (4, .I p4), (5, .P 200), (10, .P 201), (39, .B true)], [(200, .raw (d_aRep p0)), (201, .raw [.I 0, .I 0, .I 0, .N])]⟩) (And.intro (wr52_Right.ok h1) (And.intro trivial (And.intro (congrArg Bool.not (c1)) (And.intro (decide_eq_false c2) (decide_eq_true c3))))) ?_
   refine tt (b := true) (rfl) ?_
   refine sr0 L 230 [] [] [] (S' := ⟨[(10, .P 201), (11, .B false), (12, .I 2)], [(201, .raw [.I 0, .I 0, .I 0, .N])]⟩) ?_
   refine awp_turn (Turns.rn [(201, 100)] (S' := ⟨[(10, .P 100), (11, .B false), (12, .I 2)], [(100, .raw [.I 0, .I 0, .I 0, .N])]⟩)) ?_
   refine awp_ret ?_
   obtain rfl := Option.some.inj h
   exact er (.tup [.agg [.I 0, .I 0, .I 0, .N], .B false, .I 2])
  obtain ⟨a2, h2, h⟩ := bind_some h
  rcases ite_some h with ⟨c4, h⟩ | ⟨c4, h⟩
  ·rcases ite_some h with ⟨c5, h⟩ | ⟨c5, h⟩
   ·refine ar L 205 [(3, false), (7, false), (11, false), (16, false), (20, true)] [(1, .B a1), (13, .B a2)] [] (cs := [PCall V P 33 [.agg (d_aRep p0)] (.B a1), True, (!a1) = false, (decide (p1 < 1)) = false, (decide (p1 > 1099511627776)) = false, PCall V P 77 [.I p2] (.B a2), True, (!a2) = false, (decide (p3 < 0)) = true]) (S' := ⟨[(1, .I p1), (2, .I p2), (3, .I p3), (4, .I p4), (5, .P 200), (10, .P 201), (39, .B true)], [(200, .raw (d_aRep p0)), (201, .raw [.I 0, .I 0, .I 0, .N])]⟩) (And.intro (wr52_Right.ok h1) (And.intro trivial (And.intro (congrArg Bool.not (c1)) (And.intro (decide_eq_false c2) (And.intro (decide_eq_false c3) (And.intro (wr54_member.ok h2) (And.intro trivial (And.intro (congrArg Bool.not (c4)) (decide_eq_true c5))))))))) ?_
    refine tt (b := true) (rfl) ?_
    refine sr0 L 230 [] [] [] (S' := ⟨[(10, .P 201), (11, .B false), (12, .I 2)], [(201, .raw [.I 0, .I 0, .I 0, .N])]⟩) ?_
    refine awp_turn (Turns.rn [(201, 100)] (S' := ⟨[(10, .P 100), (11, .B false), (12, .I 2)], [(100, .raw [.I 0, .I 0, .I 0, .N])]⟩)) ?_
    refine awp_ret ?_
    obtain rfl := Option.some.inj h
    exact er (.tup [.agg [.I 0, .I 0, .I 0, .N], .B false, .I 2])
   refine ar L 205 [(3, false), (7, false), (11, false), (16, false), (20, false)] [(1, .B a1), (13, .B a2)] [] (cs := [PCall V P 33 [.agg (d_aRep p0)] (.B a1), True, (!a1) = false, (decide (p1 < 1)) = false, (decide (p1 > 1099511627776)) = false, PCall V P 77 [.I p2] (.B a2), True, (!a2) = false, (decide (p3 < 0)) = false]) (S' := ⟨[(1, .I p1), (2, .I p2), (3, .I p3), (4, .I p4), (5, .P 200), (10, .P 201), (39, .B (decide (p4 < 0)))], [(200, .raw (d_aRep p0)), (201, .raw [.I 0, .I 0, .I 0, .N])]⟩) (And.intro (wr52_Right.ok h1) (And.intro trivial (And.intro (congrArg Bool.not (c1)) (And.intro (decide_eq_false c2) (And.intro (decide_eq_false c3) (And.intro (wr54_member.ok h2) (And.intro trivial (And.intro (congrArg Bool.not (c4)) (decide_eq_false c5))))))))) ?_
   rcases ite_some h with ⟨c6, h⟩ | ⟨c6, h⟩
   ·refine tt (b := (decide (p4 < 0))) (decide_eq_true c6) ?_
    refine sr0 L 230 [] [] [] (S' := ⟨[(10, .P 201), (11, .B false), (12, .I 2)], [(201, .raw [.I 0, .I 0, .I 0, .N])]⟩) ?_
    refine awp_turn (Turns.rn [(201, 100)] (S' := ⟨[(10, .P 100), (11, .B false), (12, .I 2)], [(100, .raw [.I 0, .I 0, .I 0, .N])]⟩)) ?_
    refine awp_ret ?_
    obtain rfl := Option.some.inj h
    exact er (.tup [.agg [.I 0, .I 0, .I 0, .N], .B false, .I 2])
   refine ff (b := (decide (p4 < 0))) (decide_eq_false c6) ?_
   refine awp_skip' ?_
   refine awp_seq ?_
   refine sr0 L 235 [] [] [] (S' := ⟨[(1, .I p1), (2, .I p2), (3, .I p3), (4, .I p4), (5, .P 200), (10, .P 201), (44, .B (decide (p1 < p0.Epoch)))], [(200, .raw (d_aRep p0)), (201, .raw [.I 0, .I 0, .I 0, .N])]⟩) ?_
   rcases ite_some h with ⟨c7, h⟩ | ⟨c7, h⟩
   ·refine tt (b := (decide (p1 < p0.Epoch))) (decide_eq_true c7) ?_
    refine sr0 L 240 [] [] [] (S' := ⟨[(10, .P 201), (11, .B false), (12, .I 25)], [(201, .raw [.I 0, .I 0, .I 0, .N])]⟩) ?_
    refine awp_turn (Turns.rn [(201, 100)] (S' := ⟨[(10, .P 100), (11, .B false), (12, .I 25)], [(100, .raw [.I 0, .I 0, .I 0, .N])]⟩)) ?_
    refine awp_ret ?_
    obtain rfl := Option.some.inj h
    exact er (.tup [.agg [.I 0, .I 0, .I 0, .N], .B false, .I 25])
   refine ff (b := (decide (p1 < p0.Epoch))) (decide_eq_false c7) ?_
   refine awp_skip' ?_
   refine awp_seq ?_
   obtain ⟨a3, h3, h⟩ := bind_some h
   refine ar L 245 [] [(2, .agg (d_aRep a3))] [] (cs := [PCall V P 78 [.agg (d_aRep p0), .I p1] (.agg (d_aRep a3)), True]) (S' := ⟨[(2, .I p2), (3, .I p3), (4, .I p4), (10, .P 201), (13, .P 248)], [(201, .raw [.I 0, .I 0, .I 0, .N]), (248, .raw (d_aRep a3))]⟩) (And.intro (wr54_Observe.ok h3) trivial) ?_
   refine awp_seq ?_
   obtain ⟨⟨a4_0, a4_1⟩, h4, h⟩ := bind_some h
   dsimp only at h
   refine ar L 251 [] [(1, .tup [.I a4_0, .I a4_1])] [] (cs := [PCall V P 46 [.agg (d_aRep a3)] (.tup [.I a4_0, .I a4_1]), True]) (S' := ⟨[(2, .I p2), (3, .I p3), (4, .I p4), (10, .P 201), (13, .P 248), (14, .I a4_0), (15, .I a4_1)], [(201, .raw [.I 0, .I 0, .I 0, .N]), (248, .raw (d_aRep a3))]⟩) (And.intro (wr52_Last.ok h4) trivial) ?_
   refine awp_seq ?_
   refine awp_seq ?_
   rcases ite_some h with ⟨c8, h⟩ | ⟨c8, h⟩
   ·rcases ite_some h with ⟨c9, h⟩ | ⟨c9, h⟩
    ·refine ar L 259 [(3, true), (9, true)] [] [] (cs := [(decide (a3.Vote ≠ (-1))) = true, (decide (a3.Vote ≠ p2)) = true]) (S' := ⟨[(2, .I p2), (10, .P 201), (13, .P 248), (70, .B true)], [(201, .raw [.I 0, .I 0, .I 0, .N]), (248, .raw (d_aRep a3))]⟩) (And.intro (decide_eq_true c8) (decide_eq_true c9)) ?_
     refine tt (b := true) (rfl) ?_
     refine sr0 L 277 [] [] [] (S' := ⟨[(10, .P 201), (11, .B false), (12, .I 0)], [(201, .raw (d_aRep a3))]⟩) ?_
     refine awp_turn (Turns.rn [(201, 100)] (S' := ⟨[(10, .P 100), (11, .B false), (12, .I 0)], [(100, .raw (d_aRep a3))]⟩)) ?_
     refine awp_ret ?_
     obtain rfl := Option.some.inj h
     exact er (.tup [.agg (d_aRep a3), .B false, .I 0])
    obtain ⟨a5, h5, h⟩ := bind_some h
    refine ar L 259 [(3, true), (9, false)] [(14, .B a5)] [] (cs := [(decide (a3.Vote ≠ (-1))) = true, (decide (a3.Vote ≠ p2)) = false, PCall V P 79 [.I p3, .I p4, .I a4_0, .I a4_1] (.B a5), True]) (S' := ⟨[(2, .I p2), (10, .P 201), (13, .P 248), (70, .B (!a5))], [(201, .raw [.I 0, .I 0, .I 0, .N]), (248, .raw (d_aRep a3))]⟩) (And.intro (decide_eq_true c8) (And.intro (decide_eq_false c9) (And.intro (wr54_Newer.ok h5) trivial))) ?_
    rcases ite_some h with ⟨c10, h⟩ | ⟨c10, h⟩
    ·refine ff (b := (!a5)) (congrArg Bool.not (c10)) ?_
     refine awp_skip' ?_
     refine sr0 L 282 [] [] [] (S' := ⟨[(10, .P 201), (13, .P 248)], [(201, .raw [.I 0, .I 0, .I 0, .N]), (248, .raw [.I a3.Epoch, .I p2, .I a3.Commit, .ro .t_aEnt a3.Log])]⟩) ?_
     refine sr0 L 286 [] [] [] (S' := ⟨[(10, .P 201), (11, .B true), (12, .I 0)], [(201, .raw [.I a3.Epoch, .I p2, .I a3.Commit, .ro .t_aEnt a3.Log])]⟩) ?_
     refine awp_turn (Turns.rn [(201, 100)] (S' := ⟨[(10, .P 100), (11, .B true), (12, .I 0)], [(100, .raw [.I a3.Epoch, .I p2, .I a3.Commit, .ro .t_aEnt a3.Log])]⟩)) ?_
     refine awp_ret ?_
     obtain rfl := Option.some.inj h
     exact er (.tup [.agg [.I a3.Epoch, .I p2, .I a3.Commit, .ro .t_aEnt a3.Log], .B true, .I 0])
    refine tt (b := (!a5)) (congrArg Bool.not (eq_false_of_ne_true c10)) ?_
    refine sr0 L 277 [] [] [] (S' := ⟨[(10, .P 201), (11, .B false), (12, .I 0)], [(201, .raw (d_aRep a3))]⟩) ?_
    refine awp_turn (Turns.rn [(201, 100)] (S' := ⟨[(10, .P 100), (11, .B false), (12, .I 0)], [(100, .raw (d_aRep a3))]⟩)) ?_
    refine awp_ret ?_
    obtain rfl := Option.some.inj h
    exact er (.tup [.agg (d_aRep a3), .B false, .I 0])
   obtain ⟨a6, h6, h⟩ := bind_some h
   refine ar L 259 [(3, false)] [(14, .B a6)] [] (cs := [(decide (a3.Vote ≠ (-1))) = false, PCall V P 79 [.I p3, .I p4, .I a4_0, .I a4_1] (.B a6), True]) (S' := ⟨[(2, .I p2), (10, .P 201), (13, .P 248), (70, .B (!a6))], [(201, .raw [.I 0, .I 0, .I 0, .N]), (248, .raw (d_aRep a3))]⟩) (And.intro (decide_eq_false c8) (And.intro (wr54_Newer.ok h6) trivial)) ?_
   rcases ite_some h with ⟨c11, h⟩ | ⟨c11, h⟩
   ·refine ff (b := (!a6)) (congrArg Bool.not (c11)) ?_
    refine awp_skip' ?_
    refine sr0 L 282 [] [] [] (S' := ⟨[(10, .P 201), (13, .P 248)], [(201, .raw [.I 0, .I 0, .I 0, .N]), (248, .raw [.I a3.Epoch, .I p2, .I a3.Commit, .ro .t_aEnt a3.Log])]⟩) ?_
    refine sr0 L 286 [] [] [] (S' := ⟨[(10, .P 201), (11, .B true), (12, .I 0)], [(201, .raw [.I a3.Epoch, .I p2, .I a3.Commit, .ro .t_aEnt a3.Log])]⟩) ?_
    refine awp_turn (Turns.rn [(201, 100)] (S' := ⟨[(10, .P 100), (11, .B true), (12, .I 0)], [(100, .raw [.I a3.Epoch, .I p2, .I a3.Commit, .ro .t_aEnt a3.Log])]⟩)) ?_
    refine awp_ret ?_
    obtain rfl := Option.some.inj h
    exact er (.tup [.agg [.I a3.Epoch, .I p2, .I a3.Commit, .ro .t_aEnt a3.Log], .B true, .I 0])
   refine tt (b := (!a6)) (congrArg Bool.not (eq_false_of_ne_true c11)) ?_
   refine sr0 L 277 [] [] [] (S' := ⟨[(10, .P 201), (11, .B false), (12, .I 0)], [(201, .raw (d_aRep a3))]⟩) ?_
   refine awp_turn (Turns.rn [(201, 100)] (S' := ⟨[(10, .P 100), (11, .B false), (12, .I 0)], [(100, .raw (d_aRep a3))]⟩)) ?_
   refine awp_ret ?_
   obtain rfl := Option.some.inj h
   exact er (.tup [.agg (d_aRep a3), .B false, .I 0])
  refine ar L 205 [(3, false), (7, false), (11, false), (16, true)] [(1, .B a1), (13, .B a2)] [] (cs := [PCall V P 33 [.agg (d_aRep p0)] (.B a1), True, (!a1) = false, (decide (p1 < 1)) = false, (decide (p1 > 1099511627776)) = false, PCall V P 77 [.I p2] (.B a2), True, (!a2) = true]) (S' := ⟨[(1, .I p1), (2, .I p2), (3, .I p3), (4, .I p4), (5, .P 200), (10, .P 201), (39, .B true)], [(200, .raw (d_aRep p0)), (201, .raw [.I 0, .I 0, .I 0, .N])]⟩) (And.intro (wr52_Right.ok h1) (And.intro trivial (And.intro (congrArg Bool.not (c1)) (And.intro (decide_eq_false c2) (And.intro (decide_eq_false c3) (And.intro (wr54_member.ok h2) (And.intro trivial (congrArg Bool.not (eq_false_of_ne_true c4))))))))) ?_
  refine tt (b := true) (rfl) ?_
  refine sr0 L 230 [] [] [] (S' := ⟨[(10, .P 201), (11, .B false), (12, .I 2)], [(201, .raw [.I 0, .I 0, .I 0, .N])]⟩) ?_
  refine awp_turn (Turns.rn [(201, 100)] (S' := ⟨[(10, .P 100), (11, .B false), (12, .I 2)], [(100, .raw [.I 0, .I 0, .I 0, .N])]⟩)) ?_
  refine awp_ret ?_
  obtain rfl := Option.some.inj h
  exact er (.tup [.agg [.I 0, .I 0, .I 0, .N], .B false, .I 2])
 refine ar L 205 [(3, true)] [(1, .B a1)] [] (cs := [PCall V P 33 [.agg (d_aRep p0)] (.B a1), True, (!a1) = true]) (S' := ⟨[(1, .I p1), (2, .I p2), (3, .I p3), (4, .I p4), (5, .P 200), (10, .P 201), (39, .B true)], [(200, .raw (d_aRep p0)), (201, .raw [.I 0, .I 0, .I 0, .N])]⟩) (And.intro (wr52_Right.ok h1) (And.intro trivial (congrArg Bool.not (eq_false_of_ne_true c1)))) ?_
 refine tt (b := true) (rfl) ?_
 refine sr0 L 230 [] [] [] (S' := ⟨[(10, .P 201), (11, .B false), (12, .I 2)], [(201, .raw [.I 0, .I 0, .I 0, .N])]⟩) ?_
 refine awp_turn (Turns.rn [(201, 100)] (S' := ⟨[(10, .P 100), (11, .B false), (12, .I 2)], [(100, .raw [.I 0, .I 0, .I 0, .N])]⟩)) ?_
 refine awp_ret ?_
 obtain rfl := Option.some.inj h
 exact er (.tup [.agg [.I 0, .I 0, .I 0, .N], .B false, .I 2])
theorem wr54_Ask.ok {K : Nat} {p0 : aRep} {p1 : Int} {p2 : Int} {p3 : Int} {p4 : Int} {r : aRep × Bool × Int} (h : wr54_Ask K p0 p1 p2 p3 p4 = some r) : PCall V P 47 [.agg (d_aRep p0), .I p1, .I p2, .I p3, .I p4] (.tup [.agg [.I r.1.Epoch, .I r.1.Vote, .I r.1.Commit, .ro .t_aEnt r.1.Log], .B r.2.1, .I r.2.2]) := ECall.pcall (eo (fn := Tryz.f47) (n := 75) (m := 100) fun Γ => wr54_Ask.body h) (by kernel_rfl)
def wr53_Majority (K : Nat) (p0 : Int) : Option Int := (if p0 < 1 then some 0 else some (IntKind.i64.wrap ((IntKind.i64.wrap (Int.tdiv p0 2)) + 1)))
theorem wr53_Majority.body {Γ : Ent} {K : Nat} {p0 : Int} {r : Int} (h : wr53_Majority K p0 = some r) : AWp V P 8 100 Γ (Tryz.f80.body.getD .skip) (EndsE P V Tryz.f80 (.I r) []) ⟨args0 0 [.I p0], []⟩ := by
 unfold wr53_Majority at h
 refine sr0 L 200 [] [] [] (S' := ⟨[(0, .I p0)], []⟩) ?_
 refine awp_seq ?_
 refine sr0 L 202 [] [] [] (S' := ⟨[(0, .I p0), (4, .B (decide (p0 < 1)))], []⟩) ?_
 rcases ite_some h with ⟨c1, h⟩ | ⟨c1, h⟩
 ·refine tt (b := (decide (p0 < 1))) (decide_eq_true c1) ?_
  refine sr0 L 205 [] [] [] (S' := ⟨[(2, .I 0)], []⟩) ?_
  refine awp_ret ?_
  obtain rfl := Option.some.inj h
  exact er (.I 0)
 refine ff (b := (decide (p0 < 1))) (decide_eq_false c1) ?_
 refine awp_skip' ?_
 refine sr L 207 [] [] [] (cs := [2 ≠ (0 : Int)]) (S' := ⟨[(2, .I (IntKind.i64.wrap ((IntKind.i64.wrap (Int.tdiv p0 2)) + 1)))], []⟩) (show 2 ≠ (0 : Int) from by decide) ?_
 refine awp_ret ?_
 obtain rfl := Option.some.inj h
 exact er (.I (IntKind.i64.wrap ((IntKind.i64.wrap (Int.tdiv p0 2)) + 1)))
theorem wr53_Majority.ok {K : Nat} {p0 : Int} {r : Int} (h : wr53_Majority K p0 = some r) : PCall V P 80 [.I p0] (.I r) := ECall.pcall (eo (fn := Tryz.f80) (n := 8) (m := 100) fun Γ => wr53_Majority.body h) (by kernel_rfl)
def wr53_Won (K : Nat) (p0 : Int) (p1 : Int) : Option Bool := (if p1 ≥ 1 then (Option.bind (wr53_Majority K p1) (fun a1 => some (decide (p0 ≥ a1)))) else some false)
theorem wr53_Won.body {Γ : Ent} {K : Nat} {p0 : Int} {p1 : Int} {r : Bool} (h : wr53_Won K p0 p1 = some r) : AWp V P 13 100 Γ (Tryz.f48.body.getD .skip) (EndsE P V Tryz.f48 (.B r) []) ⟨args0 0 [.I p0, .I p1], []⟩ := by
 unfold wr53_Won at h
 refine sr0 L 200 [] [] [] (S' := ⟨[(0, .I p0), (1, .I p1)], []⟩) ?_
 refine awp_seq ?_
 rcases ite_some h with ⟨c1, h⟩ | ⟨c1, h⟩
 ·obtain ⟨a1, h1, h⟩ := bind_some h
  refine ar L 202 [(2, true)] [(5, .I a1)] [] (cs := [(decide (p1 ≥ 1)) = true, PCall V P 80 [.I p1] (.I a1), True]) (S' := ⟨[(4, .B (decide (p0 ≥ a1)))], []⟩) (And.intro (decide_eq_true c1) (And.intro (wr53_Majority.ok h1) trivial)) ?_
  refine awp_ret ?_
  obtain rfl := Option.some.inj h
  exact er (.B (decide (p0 ≥ a1)))
 refine ar L 202 [(2, false)] [] [] (cs := [(decide (p1 ≥ 1)) = false]) (S' := ⟨[(4, .B false)], []⟩) (decide_eq_false c1) ?_
 refine awp_ret ?_
 obtain rfl := Option.some.inj h
 exact er (.B false)
theorem wr53_Won.ok {K : Nat} {p0 : Int} {p1 : Int} {r : Bool} (h : wr53_Won K p0 p1 = some r) : PCall V P 48 [.I p0, .I p1] (.B r) := ECall.pcall (eo (fn := Tryz.f48) (n := 13) (m := 100) fun Γ => wr53_Won.body h) (by kernel_rfl)
def wr55_Elect.l37 (K : Nat) (p0 : wr55_Group) (p1 : Int) (a2_0 : aRep) (a4 : List Bool) (a5_0 : Int) (a5_1 : Int) : Nat → Int → Int → (List aRep) → Option (Int × (List aRep))
 | 0, _, _, _ => none
 | k + 1, xt15_37h, xt16_37h, x27504 => (if xt16_37h < (a4.length : Int) then (if (0 : Int) ≤ xt16_37h ∧ (xt16_37h : Int) < (a4.length : Int) then (if (a4.getD (Int.toNat xt16_37h) false) = true then (if (xt16_37h : Int) < (p0.Replicas.length : Int) then (Option.bind (wr54_Ask K (p0.Replicas.getD (Int.toNat xt16_37h) z_aRep) a2_0.Epoch p1 a5_0 a5_1) (fun (a6_0, a6_1, a6_2) => (if a6_2 = 0 then (if (xt16_37h : Int) < (x27504.length : Int) then (if (Int.toNat xt16_37h) < x27504.length then (if a6_1 = true then wr55_Elect.l37 K p0 p1 a2_0 a4 a5_0 a5_1 k (IntKind.i64.wrap (xt15_37h + 1)) (IntKind.i64.wrap (xt16_37h + 1)) (x27504.set (Int.toNat xt16_37h) a6_0) else wr55_Elect.l37 K p0 p1 a2_0 a4 a5_0 a5_1 k xt15_37h (IntKind.i64.wrap (xt16_37h + 1)) (x27504.set (Int.toNat xt16_37h) a6_0)) else none) else none) else wr55_Elect.l37 K p0 p1 a2_0 a4 a5_0 a5_1 k xt15_37h (IntKind.i64.wrap (xt16_37h + 1)) x27504))) else none) else wr55_Elect.l37 K p0 p1 a2_0 a4 a5_0 a5_1 k xt15_37h (IntKind.i64.wrap (xt16_37h + 1)) x27504) else none) else some (xt15_37h, x27504))
def wr55_Elect (K : Nat) (p0 : wr55_Group) (p1 : Int) (p2 : List Int) : Option (wr55_Group × Int) := (Option.bind (wr55_args K p0 p1 p2) (fun a1 => (if a1 ≠ 0 then some ((⟨([] : List aRep), ([] : List Bool), 0, 0⟩ : wr55_Group), a1) else (if (0 : Int) ≤ p1 ∧ (p1 : Int) < (p0.Replicas.length : Int) then (Option.bind (wr54_Stand K (p0.Replicas.getD (Int.toNat p1) z_aRep) p1) (fun (a2_0, a2_1) => (if a2_1 ≠ 0 then some ((⟨([] : List aRep), ([] : List Bool), 0, 0⟩ : wr55_Group), a2_1) else (Option.bind (wr55_cloned_v2 K p0) (fun (a3_0, a3_1) => (if (p1 : Int) < (a3_1.length : Int) then (if (Int.toNat p1) < a3_1.length then (Option.bind (wr55_partakes K p0 p1 p2) (fun a4 => (Option.bind (wr52_Last K a2_0) (fun (a5_0, a5_1) => (Option.bind (wr55_Elect.l37 K p0 p1 a2_0 a4 a5_0 a5_1 K 1 0 (a3_1.set (Int.toNat p1) a2_0) : Option (Int × (List aRep))) (fun (xt15_37, x27403) => (Option.bind (wr53_Won K xt15_37 (a4.length : Int)) (fun a7 => (if a7 = true then some ((⟨x27403, a3_0, p1, a2_0.Epoch⟩ : wr55_Group), 0) else some ((⟨x27403, a3_0, p0.Leader, p0.Epoch⟩ : wr55_Group), 27)))))))))) else none) else none)))))) else none))))
theorem wr55_Elect.body {Γ : Ent} {K : Nat} {p0 : wr55_Group} {p1 : Int} {p2 : List Int} {r : wr55_Group × Int} (h : wr55_Elect K p0 p1 p2 = some r) : AWp V P 106 100 Γ (Tryz.f19.body.getD .skip) (EndsE P V Tryz.f19 (.tup [.agg [.ro .t_aRep r.1.Replicas, .ro .t_bool r.1.Up, .I r.1.Leader, .I r.1.Epoch], .I r.2]) []) ⟨args0 0 [.agg [.ro .t_aRep p0.Replicas, .ro .t_bool p0.Up, .I p0.Leader, .I p0.Epoch], .I p1, .cv (.ro .t_int p2)], []⟩ := by
 unfold wr55_Elect at h
 refine sr0 L 200 [] [] [] (S' := ⟨[(1, .I p1), (2, .cv (.ro .t_int p2)), (3, .P 200), (6, .P 201)], [(200, .raw [.ro .t_aRep p0.Replicas, .ro .t_bool p0.Up, .I p0.Leader, .I p0.Epoch]), (201, .raw [.N, .N, .I 0, .I 0])]⟩) ?_
 refine awp_seq ?_
 obtain ⟨a1, h1, h⟩ := bind_some h
 refine ar L 204 [] [(3, .I a1)] [] (cs := [PCall V P 42 [.agg (d_wr55_Group p0), .I p1, .cv (.ro .t_int p2)] (.I a1), True]) (S' := ⟨[(1, .I p1), (2, .cv (.ro .t_int p2)), (3, .P 200), (6, .P 201), (8, .I a1)], [(200, .raw [.ro .t_aRep p0.Replicas, .ro .t_bool p0.Up, .I p0.Leader, .I p0.Epoch]), (201, .raw [.N, .N, .I 0, .I 0])]⟩) (And.intro (wr55_args.ok h1) trivial) ?_
 refine awp_seq ?_
 refine sr0 L 210 [] [] [] (S' := ⟨[(1, .I p1), (2, .cv (.ro .t_int p2)), (3, .P 200), (6, .P 201), (8, .I a1), (25, .B (decide (a1 ≠ 0)))], [(200, .raw [.ro .t_aRep p0.Replicas, .ro .t_bool p0.Up, .I p0.Leader, .I p0.Epoch]), (201, .raw [.N, .N, .I 0, .I 0])]⟩) ?_
 rcases ite_some h with ⟨c1, h⟩ | ⟨c1, h⟩
 ·refine tt (b := (decide (a1 ≠ 0))) (decide_eq_true c1) ?_
  refine sr0 L 213 [] [] [] (S' := ⟨[(6, .P 201), (7, .I a1)], [(201, .raw [.N, .N, .I 0, .I 0])]⟩) ?_
  refine awp_turn (Turns.rn [(201, 100)] (S' := ⟨[(6, .P 100), (7, .I a1)], [(100, .raw [.N, .N, .I 0, .I 0])]⟩)) ?_
  refine awp_ret ?_
  obtain rfl := Option.some.inj h
  exact er (.tup [.agg [.N, .N, .I 0, .I 0], .I a1])
 refine ff (b := (decide (a1 ≠ 0))) (decide_eq_false c1) ?_
 refine awp_skip' ?_
 refine awp_seq ?_
 obtain ⟨g1, h⟩ := guard_some h
 obtain ⟨⟨a2_0, a2_1⟩, h2, h⟩ := bind_some h
 dsimp only at h
 refine ar L 218 [] [(6, .tup [.agg (d_aRep a2_0), .I a2_1])] [] (cs := [(0 : Int) ≤ p1, (p1 : Int) < (p0.Replicas.length : Int), PCall V P 43 [.agg (d_aRep (p0.Replicas.getD (Int.toNat p1) z_aRep)), .I p1] (.tup [.agg (d_aRep a2_0), .I a2_1]), True]) (S' := ⟨[(1, .I p1), (2, .cv (.ro .t_int p2)), (3, .P 200), (6, .P 201), (9, .P 228), (10, .I a2_1)], [(200, .raw [.ro .t_aRep p0.Replicas, .ro .t_bool p0.Up, .I p0.Leader, .I p0.Epoch]), (201, .raw [.N, .N, .I 0, .I 0]), (228, .raw [.I a2_0.Epoch, .I a2_0.Vote, .I a2_0.Commit, .ro .t_aEnt a2_0.Log])]⟩) (And.intro g1.1 (And.intro g1.2 (And.intro (wr54_Stand.ok h2) trivial))) ?_
 refine awp_seq ?_
 refine sr0 L 232 [] [] [] (S' := ⟨[(1, .I p1), (2, .cv (.ro .t_int p2)), (3, .P 200), (6, .P 201), (9, .P 228), (10, .I a2_1), (39, .B (decide (a2_1 ≠ 0)))], [(200, .raw [.ro .t_aRep p0.Replicas, .ro .t_bool p0.Up, .I p0.Leader, .I p0.Epoch]), (201, .raw [.N, .N, .I 0, .I 0]), (228, .raw [.I a2_0.Epoch, .I a2_0.Vote, .I a2_0.Commit, .ro .t_aEnt a2_0.Log])]⟩) ?_
 rcases ite_some h with ⟨c2, h⟩ | ⟨c2, h⟩
 ·refine tt (b := (decide (a2_1 ≠ 0))) (decide_eq_true c2) ?_
  refine sr0 L 235 [] [] [] (S' := ⟨[(6, .P 201), (7, .I a2_1)], [(201, .raw [.N, .N, .I 0, .I 0])]⟩) ?_
  refine awp_turn (Turns.rn [(201, 100)] (S' := ⟨[(6, .P 100), (7, .I a2_1)], [(100, .raw [.N, .N, .I 0, .I 0])]⟩)) ?_
  refine awp_ret ?_
  obtain rfl := Option.some.inj h
  exact er (.tup [.agg [.N, .N, .I 0, .I 0], .I a2_1])
 refine ff (b := (decide (a2_1 ≠ 0))) (decide_eq_false c2) ?_
 refine awp_skip' ?_
 refine awp_seq ?_
 obtain ⟨⟨a3_0, a3_1⟩, h3, h⟩ := bind_some h
 dsimp only at h
 refine ar L 240 [] [] [(1, { hids := [], fx := [], r := .agg [.own .t_aRep 100, .ro .t_bool a3_0, .I p0.Leader, .I p0.Epoch], H' := [(100, .lst .t_aRep a3_1)], σ := [(100, 5328)] })] (cs := [ECall V P 44 [.agg (d_wr55_Group p0)] [] [] (.agg [.own .t_aRep 100, .ro .t_bool a3_0, .I p0.Leader, .I p0.Epoch]) [(100, .lst .t_aRep a3_1)]]) (S' := ⟨[(1, .I p1), (2, .cv (.ro .t_int p2)), (3, .P 200), (6, .P 201), (9, .P 228), (11, .P 242)], [(200, .raw [.ro .t_aRep p0.Replicas, .ro .t_bool p0.Up, .I p0.Leader, .I p0.Epoch]), (201, .raw [.N, .N, .I 0, .I 0]), (228, .raw [.I a2_0.Epoch, .I a2_0.Vote, .I a2_0.Commit, .ro .t_aEnt a2_0.Log]), (242, .raw [.own .t_aRep 5328, .ro .t_bool a3_0, .I p0.Leader, .I p0.Epoch]), (5328, .lst .t_aRep a3_1)]⟩) (wr55_cloned_v2.okE h3) ?_
 refine awp_seq ?_
 obtain ⟨g2, h⟩ := guard_some h
 obtain ⟨g3, h⟩ := guard_some h
 refine ar L 245 [] [] [] (cs := [(0 : Int) ≤ p1, (p1 : Int) < (a3_1.length : Int), (Int.toNat p1) < a3_1.length, True]) (S' := ⟨[(1, .I p1), (2, .cv (.ro .t_int p2)), (3, .P 200), (6, .P 201), (9, .P 228), (11, .P 242)], [(200, .raw [.ro .t_aRep p0.Replicas, .ro .t_bool p0.Up, .I p0.Leader, .I p0.Epoch]), (201, .raw [.N, .N, .I 0, .I 0]), (228, .raw [.I a2_0.Epoch, .I a2_0.Vote, .I a2_0.Commit, .ro .t_aEnt a2_0.Log]), (242, .raw [.own .t_aRep 5328, .ro .t_bool a3_0, .I p0.Leader, .I p0.Epoch]), (5328, .lst .t_aRep (a3_1.set (Int.toNat p1) a2_0))]⟩) (And.intro g1.1 (And.intro g2 (And.intro g3 trivial))) ?_
 refine awp_seq ?_
 obtain ⟨a4, h4, h⟩ := bind_some h
 refine ar L 252 [] [(3, .cv (.ro .t_bool a4))] [] (cs := [PCall V P 45 [.agg (d_wr55_Group p0), .I p1, .cv (.ro .t_int p2)] (.cv (.ro .t_bool a4)), True]) (S' := ⟨[(1, .I p1), (3, .P 200), (6, .P 201), (9, .P 228), (11, .P 242), (12, .cv (.ro .t_bool a4))], [(200, .raw [.ro .t_aRep p0.Replicas, .ro .t_bool p0.Up, .I p0.Leader, .I p0.Epoch]), (201, .raw [.N, .N, .I 0, .I 0]), (228, .raw [.I a2_0.Epoch, .I a2_0.Vote, .I a2_0.Commit, .ro .t_aEnt a2_0.Log]), (242, .raw [.own .t_aRep 5328, .ro .t_bool a3_0, .I p0.Leader, .I p0.Epoch]), (5328, .lst .t_aRep (a3_1.set (Int.toNat p1) a2_0))]⟩) (And.intro (wr55_partakes.ok h4) trivial) ?_
 refine awp_seq ?_
 obtain ⟨⟨a5_0, a5_1⟩, h5, h⟩ := bind_some h
 dsimp only at h
 refine ar L 258 [] [(1, .tup [.I a5_0, .I a5_1])] [] (cs := [PCall V P 46 [.agg (d_aRep a2_0)] (.tup [.I a5_0, .I a5_1]), True]) (S' := ⟨[(1, .I p1), (3, .P 200), (6, .P 201), (9, .P 228), (11, .P 242), (12, .cv (.ro .t_bool a4)), (13, .I a5_0), (14, .I a5_1)], [(200, .raw [.ro .t_aRep p0.Replicas, .ro .t_bool p0.Up, .I p0.Leader, .I p0.Epoch]), (201, .raw [.N, .N, .I 0, .I 0]), (228, .raw [.I a2_0.Epoch, .I a2_0.Vote, .I a2_0.Commit, .ro .t_aEnt a2_0.Log]), (242, .raw [.own .t_aRep 5328, .ro .t_bool a3_0, .I p0.Leader, .I p0.Epoch]), (5328, .lst .t_aRep (a3_1.set (Int.toNat p1) a2_0))]⟩) (And.intro (wr52_Last.ok h5) trivial) ?_
 refine sr0 L 266 [] [] [] (S' := ⟨[(1, .I p1), (3, .P 200), (6, .P 201), (9, .P 228), (11, .P 242), (12, .cv (.ro .t_bool a4)), (13, .I a5_0), (14, .I a5_1), (15, .I 1)], [(200, .raw [.ro .t_aRep p0.Replicas, .ro .t_bool p0.Up, .I p0.Leader, .I p0.Epoch]), (201, .raw [.N, .N, .I 0, .I 0]), (228, .raw [.I a2_0.Epoch, .I a2_0.Vote, .I a2_0.Commit, .ro .t_aEnt a2_0.Log]), (242, .raw [.own .t_aRep 5328, .ro .t_bool a3_0, .I p0.Leader, .I p0.Epoch]), (5328, .lst .t_aRep (a3_1.set (Int.toNat p1) a2_0))]⟩) ?_
 refine awp_seq ?_
 refine sr0 L 268 [] [] [] (S' := ⟨[(1, .I p1), (3, .P 200), (6, .P 201), (9, .P 228), (11, .P 242), (12, .cv (.ro .t_bool a4)), (13, .I a5_0), (14, .I a5_1), (15, .I 1), (16, .I 0)], [(200, .raw [.ro .t_aRep p0.Replicas, .ro .t_bool p0.Up, .I p0.Leader, .I p0.Epoch]), (201, .raw [.N, .N, .I 0, .I 0]), (228, .raw [.I a2_0.Epoch, .I a2_0.Vote, .I a2_0.Commit, .ro .t_aEnt a2_0.Log]), (242, .raw [.own .t_aRep 5328, .ro .t_bool a3_0, .I p0.Leader, .I p0.Epoch]), (5328, .lst .t_aRep (a3_1.set (Int.toNat p1) a2_0))]⟩) ?_
 refine awp_block ?_
 refine awp_turn (Turns.trans (Turns.kp (S' := ⟨[(1, .I p1), (3, .P 200), (6, .P 201), (9, .P 228), (11, .P 242), (12, .cv (.ro .t_bool a4)), (13, .I a5_0), (14, .I a5_1), (15, .I 1), (16, .I 0)], [(200, .raw (d_wr55_Group p0)), (201, .raw [.N, .N, .I 0, .I 0]), (228, .raw (d_aRep a2_0)), (242, .raw [.own .t_aRep 5328, .ro .t_bool a3_0, .I p0.Leader, .I p0.Epoch]), (5328, .lst .t_aRep (a3_1.set (Int.toNat p1) a2_0))]⟩)) (Turns.rn [(200, 27500), (201, 27501), (228, 27502), (242, 27503), (5328, 27504)] (S' := ⟨[(1, .I p1), (3, .P 27500), (6, .P 27501), (9, .P 27502), (11, .P 27503), (12, .cv (.ro .t_bool a4)), (13, .I a5_0), (14, .I a5_1), (15, .I 1), (16, .I 0)], [(27500, .raw (d_wr55_Group p0)), (27501, .raw [.N, .N, .I 0, .I 0]), (27502, .raw (d_aRep a2_0)), (27503, .raw [.own .t_aRep 27504, .ro .t_bool a3_0, .I p0.Leader, .I p0.Epoch]), (27504, .lst .t_aRep (a3_1.set (Int.toNat p1) a2_0))]⟩))) ?_
 refine kp (S' := ⟨[(1, .I p1), (3, .P 27500), (6, .P 27501), (9, .P 27502), (11, .P 27503), (12, .cv (.ro .t_bool a4)), (13, .I a5_0), (14, .I a5_1), (15, .I 1), (16, .I 0)], [(27500, .raw (d_wr55_Group p0)), (27501, .raw [.N, .N, .I 0, .I 0]), (27502, .raw (d_aRep a2_0)), (27503, .raw [.own .t_aRep 27504, .ro .t_bool a3_0, .I p0.Leader, .I p0.Epoch]), (27504, .lst .t_aRep (a3_1.set (Int.toNat p1) a2_0))]⟩) ?_
 obtain ⟨o1, hp1, h⟩ := bind_some h
 refine awp_conseq (Q' := fun e S => (e = .exit 0 ∧ ∃ xt15_37 : Int, ∃ x27403 : List aRep, S = ⟨[(1, .I p1), (6, .P 27400), (9, .P 27401), (11, .P 27402), (12, .cv (.ro .t_bool a4)), (15, .I xt15_37)], [(27400, .raw [.N, .N, .I 0, .I 0]), (27401, .raw [.I a2_0.Epoch, .I a2_0.Vote, .I a2_0.Commit, .ro .t_aEnt a2_0.Log]), (27402, .raw [.own .t_aRep 27403, .ro .t_bool a3_0, .I p0.Leader, .I p0.Epoch]), (27403, .lst .t_aRep x27403)]⟩ ∧ (xt15_37, x27403) = o1)) (awp_loop (fun k S => ∃ xt15_37h : Int, ∃ xt16_37h : Int, ∃ x27504 : List aRep, S = ⟨[(1, .I p1), (3, .P 27500), (6, .P 27501), (9, .P 27502), (11, .P 27503), (12, .cv (.ro .t_bool a4)), (13, .I a5_0), (14, .I a5_1), (15, .I xt15_37h), (16, .I xt16_37h)], [(27500, .raw (d_wr55_Group p0)), (27501, .raw [.N, .N, .I 0, .I 0]), (27502, .raw (d_aRep a2_0)), (27503, .raw [.own .t_aRep 27504, .ro .t_bool a3_0, .I p0.Leader, .I p0.Epoch]), (27504, .lst .t_aRep x27504)]⟩ ∧ wr55_Elect.l37 K p0 p1 a2_0 a4 a5_0 a5_1 k xt15_37h xt16_37h x27504 = some o1) ?_ ⟨_, _, _, rfl, hp1⟩) ?_
 ·clear h hp1
  intro k S hS
  obtain ⟨xt15_37h, xt16_37h, x27504, rfl, h⟩ := hS
  cases k with
  | zero => cases h
  | succ k =>
  unfold wr55_Elect.l37 at h
  refine awp_seq ?_
  refine sr0 L 270 [] [] [] (S' := ⟨[(1, .I p1), (3, .P 27500), (6, .P 27501), (9, .P 27502), (11, .P 27503), (12, .cv (.ro .t_bool a4)), (13, .I a5_0), (14, .I a5_1), (15, .I xt15_37h), (16, .I xt16_37h), (61, .B (decide (xt16_37h < (a4.length : Int))))], [(27500, .raw (d_wr55_Group p0)), (27501, .raw [.N, .N, .I 0, .I 0]), (27502, .raw (d_aRep a2_0)), (27503, .raw [.own .t_aRep 27504, .ro .t_bool a3_0, .I p0.Leader, .I p0.Epoch]), (27504, .lst .t_aRep x27504)]⟩) ?_
  rcases ite_some h with ⟨c3, h⟩ | ⟨c3, h⟩
  ·refine tt (b := (decide (xt16_37h < (a4.length : Int)))) (decide_eq_true c3) ?_
   refine awp_skip' ?_
   refine awp_seq ?_
   refine awp_block ?_
   refine awp_seq ?_
   refine awp_seq ?_
   obtain ⟨g4, h⟩ := guard_some h
   refine ar L 275 [] [] [] (cs := [(0 : Int) ≤ xt16_37h, (xt16_37h : Int) < (a4.length : Int)]) (S' := ⟨[(1, .I p1), (3, .P 27500), (6, .P 27501), (9, .P 27502), (11, .P 27503), (12, .cv (.ro .t_bool a4)), (13, .I a5_0), (14, .I a5_1), (15, .I xt15_37h), (16, .I xt16_37h), (68, .B (!(a4.getD (Int.toNat xt16_37h) false)))], [(27500, .raw (d_wr55_Group p0)), (27501, .raw [.N, .N, .I 0, .I 0]), (27502, .raw (d_aRep a2_0)), (27503, .raw [.own .t_aRep 27504, .ro .t_bool a3_0, .I p0.Leader, .I p0.Epoch]), (27504, .lst .t_aRep x27504)]⟩) (And.intro g4.1 g4.2) ?_
   rcases ite_some h with ⟨c4, h⟩ | ⟨c4, h⟩
   ·refine ff (b := (!(a4.getD (Int.toNat xt16_37h) false))) (congrArg Bool.not (c4)) ?_
    refine awp_skip' ?_
    refine awp_seq ?_
    obtain ⟨g5, h⟩ := guard_some h
    obtain ⟨⟨a6_0, a6_1, a6_2⟩, h6, h⟩ := bind_some h
    dsimp only at h
    refine ad L mixed 281 [] [(10, .tup [.agg (d_aRep a6_0), .B a6_1, .I a6_2])] [] [296] 19 (cs := [(0 : Int) ≤ xt16_37h, (xt16_37h : Int) < (p0.Replicas.length : Int), PCall V P 47 [.agg (d_aRep (p0.Replicas.getD (Int.toNat xt16_37h) z_aRep)), .I a2_0.Epoch, .I p1, .I a5_0, .I a5_1] (.tup [.agg (d_aRep a6_0), .B a6_1, .I a6_2]), True]) (S' := ⟨[(1, .I p1), (3, .P 27500), (6, .P 27501), (9, .P 27502), (11, .P 27503), (12, .cv (.ro .t_bool a4)), (13, .I a5_0), (14, .I a5_1), (15, .I xt15_37h), (16, .I xt16_37h), (17, .P 296), (18, .B a6_1), (19, .I a6_2)], [(296, .raw (d_aRep a6_0)), (27500, .raw (d_wr55_Group p0)), (27501, .raw [.N, .N, .I 0, .I 0]), (27502, .raw (d_aRep a2_0)), (27503, .raw [.own .t_aRep 27504, .ro .t_bool a3_0, .I p0.Leader, .I p0.Epoch]), (27504, .lst .t_aRep x27504)]⟩) (And.intro g4.1 (And.intro g5 (And.intro (wr54_Ask.ok h6) trivial))) ?_
    refine sr0 L 301 [] [] [] (S' := ⟨[(1, .I p1), (3, .P 27500), (6, .P 27501), (9, .P 27502), (11, .P 27503), (12, .cv (.ro .t_bool a4)), (13, .I a5_0), (14, .I a5_1), (15, .I xt15_37h), (16, .I xt16_37h), (17, .P 296), (18, .B a6_1), (85, .B (decide (a6_2 = 0)))], [(296, .raw (d_aRep a6_0)), (27500, .raw (d_wr55_Group p0)), (27501, .raw [.N, .N, .I 0, .I 0]), (27502, .raw (d_aRep a2_0)), (27503, .raw [.own .t_aRep 27504, .ro .t_bool a3_0, .I p0.Leader, .I p0.Epoch]), (27504, .lst .t_aRep x27504)]⟩) ?_
    rcases ite_some h with ⟨c5, h⟩ | ⟨c5, h⟩
    ·refine tt (b := (decide (a6_2 = 0))) (decide_eq_true c5) ?_
     refine awp_seq ?_
     obtain ⟨g6, h⟩ := guard_some h
     obtain ⟨g7, h⟩ := guard_some h
     refine ar L 304 [] [] [] (cs := [(0 : Int) ≤ xt16_37h, (xt16_37h : Int) < (x27504.length : Int), (Int.toNat xt16_37h) < x27504.length, True]) (S' := ⟨[(1, .I p1), (3, .P 27500), (6, .P 27501), (9, .P 27502), (11, .P 27503), (12, .cv (.ro .t_bool a4)), (13, .I a5_0), (14, .I a5_1), (15, .I xt15_37h), (16, .I xt16_37h), (18, .B a6_1)], [(27500, .raw (d_wr55_Group p0)), (27501, .raw [.N, .N, .I 0, .I 0]), (27502, .raw (d_aRep a2_0)), (27503, .raw [.own .t_aRep 27504, .ro .t_bool a3_0, .I p0.Leader, .I p0.Epoch]), (27504, .lst .t_aRep (x27504.set (Int.toNat xt16_37h) a6_0))]⟩) (And.intro g4.1 (And.intro g6 (And.intro g7 trivial))) ?_
     refine sr0 L 311 [] [] [] (S' := ⟨[(1, .I p1), (3, .P 27500), (6, .P 27501), (9, .P 27502), (11, .P 27503), (12, .cv (.ro .t_bool a4)), (13, .I a5_0), (14, .I a5_1), (15, .I xt15_37h), (16, .I xt16_37h), (91, .B a6_1)], [(27500, .raw (d_wr55_Group p0)), (27501, .raw [.N, .N, .I 0, .I 0]), (27502, .raw (d_aRep a2_0)), (27503, .raw [.own .t_aRep 27504, .ro .t_bool a3_0, .I p0.Leader, .I p0.Epoch]), (27504, .lst .t_aRep (x27504.set (Int.toNat xt16_37h) a6_0))]⟩) ?_
     rcases ite_some h with ⟨c6, h⟩ | ⟨c6, h⟩
     ·refine tt (b := a6_1) (c6) ?_
      refine ar0 L 313 [] [] [] (S' := ⟨[(1, .I p1), (3, .P 27500), (6, .P 27501), (9, .P 27502), (11, .P 27503), (12, .cv (.ro .t_bool a4)), (13, .I a5_0), (14, .I a5_1), (15, .I (IntKind.i64.wrap (xt15_37h + 1))), (16, .I xt16_37h)], [(27500, .raw (d_wr55_Group p0)), (27501, .raw [.N, .N, .I 0, .I 0]), (27502, .raw (d_aRep a2_0)), (27503, .raw [.own .t_aRep 27504, .ro .t_bool a3_0, .I p0.Leader, .I p0.Epoch]), (27504, .lst .t_aRep (x27504.set (Int.toNat xt16_37h) a6_0))]⟩) ?_
      refine ar0 L 317 [] [] [] (S' := ⟨[(1, .I p1), (3, .P 27500), (6, .P 27501), (9, .P 27502), (11, .P 27503), (12, .cv (.ro .t_bool a4)), (13, .I a5_0), (14, .I a5_1), (15, .I (IntKind.i64.wrap (xt15_37h + 1))), (16, .I (IntKind.i64.wrap (xt16_37h + 1)))], [(27500, .raw (d_wr55_Group p0)), (27501, .raw [.N, .N, .I 0, .I 0]), (27502, .raw (d_aRep a2_0)), (27503, .raw [.own .t_aRep 27504, .ro .t_bool a3_0, .I p0.Leader, .I p0.Epoch]), (27504, .lst .t_aRep (x27504.set (Int.toNat xt16_37h) a6_0))]⟩) ?_
      exact ⟨k, Nat.lt_succ_self k, _, _, _, rfl, h⟩
     refine ff (b := a6_1) (eq_false_of_ne_true c6) ?_
     refine awp_skip' ?_
     refine ar0 L 317 [] [] [] (S' := ⟨[(1, .I p1), (3, .P 27500), (6, .P 27501), (9, .P 27502), (11, .P 27503), (12, .cv (.ro .t_bool a4)), (13, .I a5_0), (14, .I a5_1), (15, .I xt15_37h), (16, .I (IntKind.i64.wrap (xt16_37h + 1)))], [(27500, .raw (d_wr55_Group p0)), (27501, .raw [.N, .N, .I 0, .I 0]), (27502, .raw (d_aRep a2_0)), (27503, .raw [.own .t_aRep 27504, .ro .t_bool a3_0, .I p0.Leader, .I p0.Epoch]), (27504, .lst .t_aRep (x27504.set (Int.toNat xt16_37h) a6_0))]⟩) ?_
     exact ⟨k, Nat.lt_succ_self k, _, _, _, rfl, h⟩
    refine ff (b := (decide (a6_2 = 0))) (decide_eq_false c5) ?_
    refine awp_skip' ?_
    refine ar0 L 317 [] [] [] (S' := ⟨[(1, .I p1), (3, .P 27500), (6, .P 27501), (9, .P 27502), (11, .P 27503), (12, .cv (.ro .t_bool a4)), (13, .I a5_0), (14, .I a5_1), (15, .I xt15_37h), (16, .I (IntKind.i64.wrap (xt16_37h + 1)))], [(27500, .raw (d_wr55_Group p0)), (27501, .raw [.N, .N, .I 0, .I 0]), (27502, .raw (d_aRep a2_0)), (27503, .raw [.own .t_aRep 27504, .ro .t_bool a3_0, .I p0.Leader, .I p0.Epoch]), (27504, .lst .t_aRep x27504)]⟩) ?_
    exact ⟨k, Nat.lt_succ_self k, _, _, _, rfl, h⟩
   refine tt (b := (!(a4.getD (Int.toNat xt16_37h) false))) (congrArg Bool.not (eq_false_of_ne_true c4)) ?_
   refine awp_exit' ?_
   refine ar0 L 317 [] [] [] (S' := ⟨[(1, .I p1), (3, .P 27500), (6, .P 27501), (9, .P 27502), (11, .P 27503), (12, .cv (.ro .t_bool a4)), (13, .I a5_0), (14, .I a5_1), (15, .I xt15_37h), (16, .I (IntKind.i64.wrap (xt16_37h + 1)))], [(27500, .raw (d_wr55_Group p0)), (27501, .raw [.N, .N, .I 0, .I 0]), (27502, .raw (d_aRep a2_0)), (27503, .raw [.own .t_aRep 27504, .ro .t_bool a3_0, .I p0.Leader, .I p0.Epoch]), (27504, .lst .t_aRep x27504)]⟩) ?_
   exact ⟨k, Nat.lt_succ_self k, _, _, _, rfl, h⟩
  refine ff (b := (decide (xt16_37h < (a4.length : Int)))) (decide_eq_false c3) ?_
  refine awp_turn (Turns.trans (Turns.kp (S' := ⟨[(1, .I p1), (6, .P 27501), (9, .P 27502), (11, .P 27503), (12, .cv (.ro .t_bool a4)), (15, .I xt15_37h)], [(27501, .raw [.N, .N, .I 0, .I 0]), (27502, .raw (d_aRep a2_0)), (27503, .raw [.own .t_aRep 27504, .ro .t_bool a3_0, .I p0.Leader, .I p0.Epoch]), (27504, .lst .t_aRep x27504)]⟩)) (Turns.rn [(27501, 27400), (27502, 27401), (27503, 27402), (27504, 27403)] (S' := ⟨[(1, .I p1), (6, .P 27400), (9, .P 27401), (11, .P 27402), (12, .cv (.ro .t_bool a4)), (15, .I xt15_37h)], [(27400, .raw [.N, .N, .I 0, .I 0]), (27401, .raw (d_aRep a2_0)), (27402, .raw [.own .t_aRep 27403, .ro .t_bool a3_0, .I p0.Leader, .I p0.Epoch]), (27403, .lst .t_aRep x27504)]⟩))) ?_
  refine ex (S' := ⟨[(1, .I p1), (6, .P 27400), (9, .P 27401), (11, .P 27402), (12, .cv (.ro .t_bool a4)), (15, .I xt15_37h)], [(27400, .raw [.N, .N, .I 0, .I 0]), (27401, .raw (d_aRep a2_0)), (27402, .raw [.own .t_aRep 27403, .ro .t_bool a3_0, .I p0.Leader, .I p0.Epoch]), (27403, .lst .t_aRep x27504)]⟩) ?_
  obtain rfl := Option.some.inj h
  exact ⟨rfl, _, _, rfl, rfl⟩
 ·rintro e S ⟨rfl, xt15_37, x27403, rfl, rfl⟩
  dsimp only at h
  refine ⟨_, Turns.refl, ?_⟩
  refine awp_seq ?_
  refine awp_seq ?_
  obtain ⟨a7, h7, h⟩ := bind_some h
  refine ar L 321 [] [(3, .B a7)] [] (cs := [PCall V P 48 [.I xt15_37, .I (a4.length : Int)] (.B a7), True]) (S' := ⟨[(1, .I p1), (6, .P 27400), (9, .P 27401), (11, .P 27402), (98, .B (!a7))], [(27400, .raw [.N, .N, .I 0, .I 0]), (27401, .raw [.I a2_0.Epoch, .I a2_0.Vote, .I a2_0.Commit, .ro .t_aEnt a2_0.Log]), (27402, .raw [.own .t_aRep 27403, .ro .t_bool a3_0, .I p0.Leader, .I p0.Epoch]), (27403, .lst .t_aRep x27403)]⟩) (And.intro (wr53_Won.ok h7) trivial) ?_
  rcases ite_some h with ⟨c7, h⟩ | ⟨c7, h⟩
  ·refine ff (b := (!a7)) (congrArg Bool.not (c7)) ?_
   refine awp_skip' ?_
   refine sr0 L 331 [] [] [] (S' := ⟨[(6, .P 27400), (9, .P 27401), (11, .P 27402)], [(27400, .raw [.N, .N, .I 0, .I 0]), (27401, .raw [.I a2_0.Epoch, .I a2_0.Vote, .I a2_0.Commit, .ro .t_aEnt a2_0.Log]), (27402, .raw [.own .t_aRep 27403, .ro .t_bool a3_0, .I p1, .I p0.Epoch]), (27403, .lst .t_aRep x27403)]⟩) ?_
   refine sr0 L 335 [] [] [] (S' := ⟨[(6, .P 27400), (11, .P 27402)], [(27400, .raw [.N, .N, .I 0, .I 0]), (27402, .raw [.own .t_aRep 27403, .ro .t_bool a3_0, .I p1, .I a2_0.Epoch]), (27403, .lst .t_aRep x27403)]⟩) ?_
   refine sr0 L 340 [] [] [] (S' := ⟨[(6, .P 27400), (7, .I 0)], [(27400, .raw [.own .t_aRep 27403, .ro .t_bool a3_0, .I p1, .I a2_0.Epoch]), (27403, .lst .t_aRep x27403)]⟩) ?_
   refine awp_turn (Turns.trans (Turns.frz 27403 (blk0 := .lst .t_aRep x27403) (by kernel_rfl) (by kernel_rfl) (S' := ⟨[(6, .P 27400), (7, .I 0)], [(27400, .raw [.ro .t_aRep x27403, .ro .t_bool a3_0, .I p1, .I a2_0.Epoch])]⟩) (by kernel_rfl)) (Turns.rn [(27400, 100)] (S' := ⟨[(6, .P 100), (7, .I 0)], [(100, .raw [.ro .t_aRep x27403, .ro .t_bool a3_0, .I p1, .I a2_0.Epoch])]⟩))) ?_
   refine awp_ret ?_
   obtain rfl := Option.some.inj h
   exact er (.tup [.agg [.ro .t_aRep x27403, .ro .t_bool a3_0, .I p1, .I a2_0.Epoch], .I 0])
  refine tt (b := (!a7)) (congrArg Bool.not (eq_false_of_ne_true c7)) ?_
  refine sr0 L 327 [] [] [] (S' := ⟨[(6, .P 27400), (7, .I 27)], [(27400, .raw [.own .t_aRep 27403, .ro .t_bool a3_0, .I p0.Leader, .I p0.Epoch]), (27403, .lst .t_aRep x27403)]⟩) ?_
  refine awp_turn (Turns.trans (Turns.frz 27403 (blk0 := .lst .t_aRep x27403) (by kernel_rfl) (by kernel_rfl) (S' := ⟨[(6, .P 27400), (7, .I 27)], [(27400, .raw [.ro .t_aRep x27403, .ro .t_bool a3_0, .I p0.Leader, .I p0.Epoch])]⟩) (by kernel_rfl)) (Turns.rn [(27400, 100)] (S' := ⟨[(6, .P 100), (7, .I 27)], [(100, .raw [.ro .t_aRep x27403, .ro .t_bool a3_0, .I p0.Leader, .I p0.Epoch])]⟩))) ?_
  refine awp_ret ?_
  obtain rfl := Option.some.inj h
  exact er (.tup [.agg [.ro .t_aRep x27403, .ro .t_bool a3_0, .I p0.Leader, .I p0.Epoch], .I 27])
theorem wr55_Elect.ok {K : Nat} {p0 : wr55_Group} {p1 : Int} {p2 : List Int} {r : wr55_Group × Int} (h : wr55_Elect K p0 p1 p2 = some r) : PCall V P 19 [.agg [.ro .t_aRep p0.Replicas, .ro .t_bool p0.Up, .I p0.Leader, .I p0.Epoch], .I p1, .cv (.ro .t_int p2)] (.tup [.agg [.ro .t_aRep r.1.Replicas, .ro .t_bool r.1.Up, .I r.1.Leader, .I r.1.Epoch], .I r.2]) := ECall.pcall (eo (fn := Tryz.f19) (n := 106) (m := 100) fun Γ => wr55_Elect.body h) (by kernel_rfl)
def wl55_back (K : Nat) (p0 : group_Group) : Option wr55_Group := some (⟨p0.Replicas, p0.Up, p0.Leader, p0.Epoch⟩ : wr55_Group)
theorem wl55_back.body {Γ : Ent} {K : Nat} {p0 : group_Group} {r : wr55_Group} (h : wl55_back K p0 = some r) : AWp V P 12 100 Γ (Tryz.f11.body.getD .skip) (EndsE P V Tryz.f11 (.agg [.ro .t_aRep r.Replicas, .ro .t_bool r.Up, .I r.Leader, .I r.Epoch]) []) ⟨args0 0 [.agg (d_group_Group p0)], []⟩ := by
 unfold wl55_back at h
 refine sr0 L 200 [] [] [] (S' := ⟨[(1, .P 200), (2, .P 201)], [(200, .raw (d_group_Group p0)), (201, .raw [.N, .N, .I 0, .I 0])]⟩) ?_
 refine sr0 L 203 [] [] [] (S' := ⟨[(2, .P 201)], [(201, .raw (d_group_Group p0))]⟩) ?_
 refine awp_turn (Turns.rn [(201, 100)] (S' := ⟨[(2, .P 100)], [(100, .raw (d_group_Group p0))]⟩)) ?_
 refine awp_ret ?_
 obtain rfl := Option.some.inj h
 exact er (.agg (d_group_Group p0))
theorem wl55_back.ok {K : Nat} {p0 : group_Group} {r : wr55_Group} (h : wl55_back K p0 = some r) : PCall V P 11 [.agg (d_group_Group p0)] (.agg [.ro .t_aRep r.Replicas, .ro .t_bool r.Up, .I r.Leader, .I r.Epoch]) := ECall.pcall (eo (fn := Tryz.f11) (n := 12) (m := 100) fun Γ => wl55_back.body h) (by kernel_rfl)
def wr52_Agree.l15 (K : Nat) (p0 : aEnt) (p1 : aEnt) : Nat → Int → Option (Out Bool Unit)
 | 0, _ => none
 | k + 1, xt5_15h => (if xt5_15h < (p0.Data.length : Int) then (if (0 : Int) ≤ xt5_15h ∧ (xt5_15h : Int) < (p0.Data.length : Int) then (if (xt5_15h : Int) < (p1.Data.length : Int) then (if ((p0.Data.getD (Int.toNat xt5_15h) (0 : UInt8)).toNat : Int) ≠ ((p1.Data.getD (Int.toNat xt5_15h) (0 : UInt8)).toNat : Int) then some (Out.done false) else wr52_Agree.l15 K p0 p1 k (IntKind.i64.wrap (xt5_15h + 1))) else none) else none) else some (Out.go ()))
def wr52_Agree (K : Nat) (p0 : aEnt) (p1 : aEnt) : Option Bool := (if p0.Epoch ≠ p1.Epoch then some false else (if (p0.Data.length : Int) ≠ (p1.Data.length : Int) then some false else (obind (wr52_Agree.l15 K p0 p1 K 0 : Option (Out Bool Unit)) (fun r => r) (fun _ => some true))))
theorem wr52_Agree.body {Γ : Ent} {K : Nat} {p0 : aEnt} {p1 : aEnt} {r : Bool} (h : wr52_Agree K p0 p1 = some r) : AWp V P 38 100 Γ (Tryz.f35.body.getD .skip) (EndsE P V Tryz.f35 (.B r) []) ⟨args0 0 [.agg (d_aEnt p0), .agg (d_aEnt p1)], []⟩ := by
 unfold wr52_Agree at h
 refine sr0 L 200 [] [] [] (S' := ⟨[(2, .P 200), (3, .P 201)], [(200, .raw (d_aEnt p0)), (201, .raw (d_aEnt p1))]⟩) ?_
 refine awp_seq ?_
 refine awp_seq ?_
 rcases ite_some h with ⟨c1, h⟩ | ⟨c1, h⟩
 ·refine ar L 204 [(5, true)] [] [] (cs := [(decide (p0.Epoch ≠ p1.Epoch)) = true]) (S' := ⟨[(2, .P 200), (3, .P 201), (19, .B true)], [(200, .raw (d_aEnt p0)), (201, .raw (d_aEnt p1))]⟩) (decide_eq_true c1) ?_
  refine tt (b := true) (rfl) ?_
  refine sr0 L 219 [] [] [] (S' := ⟨[(4, .B false)], []⟩) ?_
  refine awp_ret ?_
  obtain rfl := Option.some.inj h
  exact er (.B false)
 refine ar L 204 [(5, false)] [] [] (cs := [(decide (p0.Epoch ≠ p1.Epoch)) = false]) (S' := ⟨[(2, .P 200), (3, .P 201), (19, .B (decide ((p0.Data.length : Int) ≠ (p1.Data.length : Int))))], [(200, .raw (d_aEnt p0)), (201, .raw (d_aEnt p1))]⟩) (decide_eq_false c1) ?_
 rcases ite_some h with ⟨c2, h⟩ | ⟨c2, h⟩
 ·refine tt (b := (decide ((p0.Data.length : Int) ≠ (p1.Data.length : Int)))) (decide_eq_true c2) ?_
  refine sr0 L 219 [] [] [] (S' := ⟨[(4, .B false)], []⟩) ?_
  refine awp_ret ?_
  obtain rfl := Option.some.inj h
  exact er (.B false)
 refine ff (b := (decide ((p0.Data.length : Int) ≠ (p1.Data.length : Int)))) (decide_eq_false c2) ?_
 refine awp_skip' ?_
 refine awp_seq ?_
 refine sr0 L 221 [] [] [] (S' := ⟨[(2, .P 200), (3, .P 201), (5, .I 0)], [(200, .raw (d_aEnt p0)), (201, .raw (d_aEnt p1))]⟩) ?_
 refine awp_block ?_
 refine awp_turn (Turns.trans (Turns.kp (S' := ⟨[(2, .P 200), (3, .P 201), (5, .I 0)], [(200, .raw (d_aEnt p0)), (201, .raw (d_aEnt p1))]⟩)) (Turns.rn [(200, 23100), (201, 23101)] (S' := ⟨[(2, .P 23100), (3, .P 23101), (5, .I 0)], [(23100, .raw (d_aEnt p0)), (23101, .raw (d_aEnt p1))]⟩))) ?_
 refine kp (S' := ⟨[(2, .P 23100), (3, .P 23101), (5, .I 0)], [(23100, .raw (d_aEnt p0)), (23101, .raw (d_aEnt p1))]⟩) ?_
 obtain ⟨o1, hp1, h⟩ := obind_some h
 refine awp_conseq (Q' := fun e S => (e = .exit 0 ∧ S = ⟨[], []⟩ ∧ Out.go () = o1) ∨ (e = .ret ∧ ∃ a, Out.done a = o1 ∧ EndsE P V Tryz.f35 (.B a) [] .ret S)) (awp_loop (fun k S => ∃ xt5_15h : Int, S = ⟨[(2, .P 23100), (3, .P 23101), (5, .I xt5_15h)], [(23100, .raw (d_aEnt p0)), (23101, .raw (d_aEnt p1))]⟩ ∧ wr52_Agree.l15 K p0 p1 k xt5_15h = some o1) ?_ ⟨_, rfl, hp1⟩) ?_
 ·clear h hp1
  intro k S hS
  obtain ⟨xt5_15h, rfl, h⟩ := hS
  cases k with
  | zero => cases h
  | succ k =>
  unfold wr52_Agree.l15 at h
  refine awp_seq ?_
  refine sr0 L 223 [] [] [] (S' := ⟨[(2, .P 23100), (3, .P 23101), (5, .I xt5_15h), (24, .B (decide (xt5_15h < (p0.Data.length : Int))))], [(23100, .raw (d_aEnt p0)), (23101, .raw (d_aEnt p1))]⟩) ?_
  rcases ite_some h with ⟨c3, h⟩ | ⟨c3, h⟩
  ·refine tt (b := (decide (xt5_15h < (p0.Data.length : Int)))) (decide_eq_true c3) ?_
   refine awp_skip' ?_
   refine awp_seq ?_
   refine awp_block ?_
   refine awp_seq ?_
   obtain ⟨g1, h⟩ := guard_some h
   obtain ⟨g2, h⟩ := guard_some h
   refine ad L mixed 229 [] [] [] [] 11 (cs := [(0 : Int) ≤ xt5_15h, (xt5_15h : Int) < (p0.Data.length : Int), (0 : Int) ≤ xt5_15h, (xt5_15h : Int) < (p1.Data.length : Int)]) (S' := ⟨[(2, .P 23100), (3, .P 23101), (5, .I xt5_15h), (37, .B (decide (((p0.Data.getD (Int.toNat xt5_15h) (0 : UInt8)).toNat : Int) ≠ ((p1.Data.getD (Int.toNat xt5_15h) (0 : UInt8)).toNat : Int))))], [(23100, .raw (d_aEnt p0)), (23101, .raw (d_aEnt p1))]⟩) (And.intro g1.1 (And.intro g1.2 (And.intro g1.1 g2))) ?_
   rcases ite_some h with ⟨c4, h⟩ | ⟨c4, h⟩
   ·refine tt (b := (decide (((p0.Data.getD (Int.toNat xt5_15h) (0 : UInt8)).toNat : Int) ≠ ((p1.Data.getD (Int.toNat xt5_15h) (0 : UInt8)).toNat : Int)))) (decide_eq_true c4) ?_
    refine sr0 L 241 [] [] [] (S' := ⟨[(4, .B false)], []⟩) ?_
    refine awp_ret ?_
    obtain rfl := Option.some.inj h
    exact .inr ⟨rfl, _, rfl, er (.B false)⟩
   refine ff (b := (decide (((p0.Data.getD (Int.toNat xt5_15h) (0 : UInt8)).toNat : Int) ≠ ((p1.Data.getD (Int.toNat xt5_15h) (0 : UInt8)).toNat : Int)))) (decide_eq_false c4) ?_
   refine awp_skip' ?_
   refine ar0 L 243 [] [] [] (S' := ⟨[(2, .P 23100), (3, .P 23101), (5, .I (IntKind.i64.wrap (xt5_15h + 1)))], [(23100, .raw (d_aEnt p0)), (23101, .raw (d_aEnt p1))]⟩) ?_
   exact ⟨k, Nat.lt_succ_self k, _, rfl, h⟩
  refine ff (b := (decide (xt5_15h < (p0.Data.length : Int)))) (decide_eq_false c3) ?_
  refine ex (S' := ⟨[], []⟩) ?_
  obtain rfl := Option.some.inj h
  exact .inl ⟨rfl, rfl, rfl⟩
 ·rintro e S (⟨rfl, rfl, rfl⟩ | ⟨rfl, a, rfl, hr⟩)
  ·rcases h with ⟨_, e1, h⟩ | ⟨_, e1, h⟩
   ·cases e1
   ·have e2 := Out.go.inj e1
    subst e2
    refine ⟨_, Turns.refl, ?_⟩
    refine sr0 L 247 [] [] [] (S' := ⟨[(4, .B true)], []⟩) ?_
    refine awp_ret ?_
    obtain rfl := Option.some.inj h
    exact er (.B true)
  ·rcases h with ⟨_, e1, h⟩ | ⟨_, e1, h⟩
   ·have e2 := Out.done.inj e1
    subst e2
    subst h
    exact ⟨_, Turns.refl, hr⟩
   ·cases e1
theorem wr52_Agree.ok {K : Nat} {p0 : aEnt} {p1 : aEnt} {r : Bool} (h : wr52_Agree K p0 p1 = some r) : PCall V P 35 [.agg (d_aEnt p0), .agg (d_aEnt p1)] (.B r) := ECall.pcall (eo (fn := Tryz.f35) (n := 38) (m := 100) fun Γ => wr52_Agree.body h) (by kernel_rfl)
def wr52_Common.l7 (K : Nat) (p0 : aRep) (p1 : aRep) : Nat → Int → Option Int
 | 0, _ => none
 | k + 1, xt5_7h => (if xt5_7h < (p0.Log.length : Int) then (if xt5_7h < (p1.Log.length : Int) then (if (0 : Int) ≤ xt5_7h ∧ (xt5_7h : Int) < (p0.Log.length : Int) then (if (xt5_7h : Int) < (p1.Log.length : Int) then (Option.bind (wr52_Agree K (p0.Log.getD (Int.toNat xt5_7h) z_aEnt) (p1.Log.getD (Int.toNat xt5_7h) z_aEnt)) (fun a1 => (if a1 = true then wr52_Common.l7 K p0 p1 k (IntKind.i64.wrap (xt5_7h + 1)) else some xt5_7h))) else none) else none) else some xt5_7h) else some xt5_7h)
def wr52_Common (K : Nat) (p0 : aRep) (p1 : aRep) : Option Int := (Option.bind (wr52_Common.l7 K p0 p1 K 0 : Option Int) (fun xt5_7 => some xt5_7))
theorem wr52_Common.body {Γ : Ent} {K : Nat} {p0 : aRep} {p1 : aRep} {r : Int} (h : wr52_Common K p0 p1 = some r) : AWp V P 34 100 Γ (Tryz.f81.body.getD .skip) (EndsE P V Tryz.f81 (.I r) []) ⟨args0 0 [.agg (d_aRep p0), .agg (d_aRep p1)], []⟩ := by
 unfold wr52_Common at h
 refine sr0 L 200 [] [] [] (S' := ⟨[(2, .P 200), (3, .P 201)], [(200, .raw (d_aRep p0)), (201, .raw (d_aRep p1))]⟩) ?_
 refine sr0 L 204 [] [] [] (S' := ⟨[(2, .P 200), (3, .P 201), (5, .I 0)], [(200, .raw (d_aRep p0)), (201, .raw (d_aRep p1))]⟩) ?_
 refine awp_seq ?_
 refine awp_block ?_
 refine awp_turn (Turns.trans (Turns.kp (S' := ⟨[(2, .P 200), (3, .P 201), (5, .I 0)], [(200, .raw (d_aRep p0)), (201, .raw (d_aRep p1))]⟩)) (Turns.rn [(200, 21500), (201, 21501)] (S' := ⟨[(2, .P 21500), (3, .P 21501), (5, .I 0)], [(21500, .raw (d_aRep p0)), (21501, .raw (d_aRep p1))]⟩))) ?_
 refine kp (S' := ⟨[(2, .P 21500), (3, .P 21501), (5, .I 0)], [(21500, .raw (d_aRep p0)), (21501, .raw (d_aRep p1))]⟩) ?_
 obtain ⟨o1, hp1, h⟩ := bind_some h
 refine awp_conseq (Q' := fun e S => (e = .exit 0 ∧ ∃ xt5_7 : Int, S = ⟨[(5, .I xt5_7)], []⟩ ∧ xt5_7 = o1)) (awp_loop (fun k S => ∃ xt5_7h : Int, S = ⟨[(2, .P 21500), (3, .P 21501), (5, .I xt5_7h)], [(21500, .raw (d_aRep p0)), (21501, .raw (d_aRep p1))]⟩ ∧ wr52_Common.l7 K p0 p1 k xt5_7h = some o1) ?_ ⟨_, rfl, hp1⟩) ?_
 ·clear h hp1
  intro k S hS
  obtain ⟨xt5_7h, rfl, h⟩ := hS
  cases k with
  | zero => cases h
  | succ k =>
  unfold wr52_Common.l7 at h
  refine awp_seq ?_
  refine awp_seq ?_
  rcases ite_some h with ⟨c1, h⟩ | ⟨c1, h⟩
  ·rcases ite_some h with ⟨c2, h⟩ | ⟨c2, h⟩
   ·obtain ⟨g1, h⟩ := guard_some h
    obtain ⟨g2, h⟩ := guard_some h
    obtain ⟨a1, h1, h⟩ := bind_some h
    refine ad L mixed 206 [(5, true), (12, true)] [(23, .B a1)] [] [] 25 (cs := [(decide (xt5_7h < (p0.Log.length : Int))) = true, (decide (xt5_7h < (p1.Log.length : Int))) = true, (0 : Int) ≤ xt5_7h, (xt5_7h : Int) < (p0.Log.length : Int), (0 : Int) ≤ xt5_7h, (xt5_7h : Int) < (p1.Log.length : Int), PCall V P 35 [.agg (d_aEnt (p0.Log.getD (Int.toNat xt5_7h) z_aEnt)), .agg (d_aEnt (p1.Log.getD (Int.toNat xt5_7h) z_aEnt))] (.B a1), True]) (S' := ⟨[(2, .P 21500), (3, .P 21501), (5, .I xt5_7h), (30, .B a1)], [(21500, .raw (d_aRep p0)), (21501, .raw (d_aRep p1))]⟩) (And.intro (decide_eq_true c1) (And.intro (decide_eq_true c2) (And.intro g1.1 (And.intro g1.2 (And.intro g1.1 (And.intro g2 (And.intro (wr52_Agree.ok h1) trivial))))))) ?_
    rcases ite_some h with ⟨c3, h⟩ | ⟨c3, h⟩
    ·refine tt (b := a1) (c3) ?_
     refine awp_skip' ?_
     refine awp_block ?_
     refine ar0 L 232 [] [] [] (S' := ⟨[(2, .P 21500), (3, .P 21501), (5, .I (IntKind.i64.wrap (xt5_7h + 1)))], [(21500, .raw (d_aRep p0)), (21501, .raw (d_aRep p1))]⟩) ?_
     exact ⟨k, Nat.lt_succ_self k, _, rfl, h⟩
    refine ff (b := a1) (eq_false_of_ne_true c3) ?_
    refine ex (S' := ⟨[(5, .I xt5_7h)], []⟩) ?_
    obtain rfl := Option.some.inj h
    exact ⟨rfl, _, rfl, rfl⟩
   refine ad L mixed 206 [(5, true), (12, false)] [] [] [] 25 (cs := [(decide (xt5_7h < (p0.Log.length : Int))) = true, (decide (xt5_7h < (p1.Log.length : Int))) = false]) (S' := ⟨[(2, .P 21500), (3, .P 21501), (5, .I xt5_7h), (30, .B false)], [(21500, .raw (d_aRep p0)), (21501, .raw (d_aRep p1))]⟩) (And.intro (decide_eq_true c1) (decide_eq_false c2)) ?_
   refine ff (b := false) (rfl) ?_
   refine ex (S' := ⟨[(5, .I xt5_7h)], []⟩) ?_
   obtain rfl := Option.some.inj h
   exact ⟨rfl, _, rfl, rfl⟩
  refine ad L mixed 206 [(5, false)] [] [] [] 25 (cs := [(decide (xt5_7h < (p0.Log.length : Int))) = false]) (S' := ⟨[(2, .P 21500), (3, .P 21501), (5, .I xt5_7h), (30, .B false)], [(21500, .raw (d_aRep p0)), (21501, .raw (d_aRep p1))]⟩) (decide_eq_false c1) ?_
  refine ff (b := false) (rfl) ?_
  refine ex (S' := ⟨[(5, .I xt5_7h)], []⟩) ?_
  obtain rfl := Option.some.inj h
  exact ⟨rfl, _, rfl, rfl⟩
 ·rintro e S ⟨rfl, xt5_7, rfl, rfl⟩
  refine ⟨_, Turns.refl, ?_⟩
  refine sr0 L 236 [] [] [] (S' := ⟨[(4, .I xt5_7)], []⟩) ?_
  refine awp_ret ?_
  obtain rfl := Option.some.inj h
  exact er (.I xt5_7)
theorem wr52_Common.ok {K : Nat} {p0 : aRep} {p1 : aRep} {r : Int} (h : wr52_Common K p0 p1 = some r) : PCall V P 81 [.agg (d_aRep p0), .agg (d_aRep p1)] (.I r) := ECall.pcall (eo (fn := Tryz.f81) (n := 34) (m := 100) fun Γ => wr52_Common.body h) (by kernel_rfl)
def wr52_Same (K : Nat) (p0 : aRep) (p1 : aRep) : Option Bool := (if p0.Epoch = p1.Epoch then (if p0.Vote = p1.Vote then (if p0.Commit = p1.Commit then (if (p0.Log.length : Int) = (p1.Log.length : Int) then (Option.bind (wr52_Common K p0 p1) (fun a1 => some (decide (a1 = (p0.Log.length : Int))))) else some false) else some false) else some false) else some false)
theorem wr52_Same.body {Γ : Ent} {K : Nat} {p0 : aRep} {p1 : aRep} {r : Bool} (h : wr52_Same K p0 p1 = some r) : AWp V P 42 100 Γ (Tryz.f54.body.getD .skip) (EndsE P V Tryz.f54 (.B r) []) ⟨args0 0 [.agg (d_aRep p0), .agg (d_aRep p1)], []⟩ := by
 unfold wr52_Same at h
 refine sr0 L 200 [] [] [] (S' := ⟨[(2, .P 200), (3, .P 201)], [(200, .raw (d_aRep p0)), (201, .raw (d_aRep p1))]⟩) ?_
 refine awp_seq ?_
 rcases ite_some h with ⟨c1, h⟩ | ⟨c1, h⟩
 ·rcases ite_some h with ⟨c2, h⟩ | ⟨c2, h⟩
  ·rcases ite_some h with ⟨c3, h⟩ | ⟨c3, h⟩
   ·rcases ite_some h with ⟨c4, h⟩ | ⟨c4, h⟩
    ·obtain ⟨a1, h1, h⟩ := bind_some h
     refine ad L mixed 204 [(5, true), (12, true), (19, true), (28, true)] [(31, .I a1)] [] [] 38 (cs := [(decide (p0.Epoch = p1.Epoch)) = true, (decide (p0.Vote = p1.Vote)) = true, (decide (p0.Commit = p1.Commit)) = true, (decide ((p0.Log.length : Int) = (p1.Log.length : Int))) = true, PCall V P 81 [.agg (d_aRep p0), .agg (d_aRep p1)] (.I a1), True]) (S' := ⟨[(4, .B (decide (a1 = (p0.Log.length : Int))))], []⟩) (And.intro (decide_eq_true c1) (And.intro (decide_eq_true c2) (And.intro (decide_eq_true c3) (And.intro (decide_eq_true c4) (And.intro (wr52_Common.ok h1) trivial))))) ?_
     refine awp_ret ?_
     obtain rfl := Option.some.inj h
     exact er (.B (decide (a1 = (p0.Log.length : Int))))
    refine ad L mixed 204 [(5, true), (12, true), (19, true), (28, false)] [] [] [] 38 (cs := [(decide (p0.Epoch = p1.Epoch)) = true, (decide (p0.Vote = p1.Vote)) = true, (decide (p0.Commit = p1.Commit)) = true, (decide ((p0.Log.length : Int) = (p1.Log.length : Int))) = false]) (S' := ⟨[(4, .B false)], []⟩) (And.intro (decide_eq_true c1) (And.intro (decide_eq_true c2) (And.intro (decide_eq_true c3) (decide_eq_false c4)))) ?_
    refine awp_ret ?_
    obtain rfl := Option.some.inj h
    exact er (.B false)
   refine ad L mixed 204 [(5, true), (12, true), (19, false)] [] [] [] 38 (cs := [(decide (p0.Epoch = p1.Epoch)) = true, (decide (p0.Vote = p1.Vote)) = true, (decide (p0.Commit = p1.Commit)) = false]) (S' := ⟨[(4, .B false)], []⟩) (And.intro (decide_eq_true c1) (And.intro (decide_eq_true c2) (decide_eq_false c3))) ?_
   refine awp_ret ?_
   obtain rfl := Option.some.inj h
   exact er (.B false)
  refine ad L mixed 204 [(5, true), (12, false)] [] [] [] 38 (cs := [(decide (p0.Epoch = p1.Epoch)) = true, (decide (p0.Vote = p1.Vote)) = false]) (S' := ⟨[(4, .B false)], []⟩) (And.intro (decide_eq_true c1) (decide_eq_false c2)) ?_
  refine awp_ret ?_
  obtain rfl := Option.some.inj h
  exact er (.B false)
 refine ad L mixed 204 [(5, false)] [] [] [] 38 (cs := [(decide (p0.Epoch = p1.Epoch)) = false]) (S' := ⟨[(4, .B false)], []⟩) (decide_eq_false c1) ?_
 refine awp_ret ?_
 obtain rfl := Option.some.inj h
 exact er (.B false)
theorem wr52_Same.ok {K : Nat} {p0 : aRep} {p1 : aRep} {r : Bool} (h : wr52_Same K p0 p1 = some r) : PCall V P 54 [.agg (d_aRep p0), .agg (d_aRep p1)] (.B r) := ECall.pcall (eo (fn := Tryz.f54) (n := 42) (m := 100) fun Γ => wr52_Same.body h) (by kernel_rfl)
def wr55_Same.l15 (K : Nat) (p0 : wr55_Group) (p1 : wr55_Group) : Nat → Int → Option (Out Bool Unit)
 | 0, _ => none
 | k + 1, xt5_15h => (if xt5_15h < (p0.Replicas.length : Int) then (if (0 : Int) ≤ xt5_15h ∧ (xt5_15h : Int) < (p0.Replicas.length : Int) then (if (xt5_15h : Int) < (p1.Replicas.length : Int) then (Option.bind (wr52_Same K (p0.Replicas.getD (Int.toNat xt5_15h) z_aRep) (p1.Replicas.getD (Int.toNat xt5_15h) z_aRep)) (fun a1 => (if a1 = true then wr55_Same.l15 K p0 p1 k (IntKind.i64.wrap (xt5_15h + 1)) else some (Out.done false)))) else none) else none) else some (Out.go ()))
def wr55_Same.l36 (K : Nat) (p0 : wr55_Group) (p1 : wr55_Group) : Nat → Int → Option (Out Bool Unit)
 | 0, _ => none
 | k + 1, xt6_36h => (if xt6_36h < (p0.Up.length : Int) then (if (0 : Int) ≤ xt6_36h ∧ (xt6_36h : Int) < (p0.Up.length : Int) then (if (xt6_36h : Int) < (p1.Up.length : Int) then (if ((p0.Up.getD (Int.toNat xt6_36h) false) == (p1.Up.getD (Int.toNat xt6_36h) false)) = true then wr55_Same.l36 K p0 p1 k (IntKind.i64.wrap (xt6_36h + 1)) else some (Out.done false)) else none) else none) else some (Out.go ()))
def wr55_Same (K : Nat) (p0 : wr55_Group) (p1 : wr55_Group) : Option Bool := (if (p0.Replicas.length : Int) ≠ (p1.Replicas.length : Int) then some false else (if (p0.Up.length : Int) ≠ (p1.Up.length : Int) then some false else (if p0.Leader ≠ p1.Leader then some false else (if p0.Epoch ≠ p1.Epoch then some false else (obind (wr55_Same.l15 K p0 p1 K 0 : Option (Out Bool Unit)) (fun r => r) (fun _ => (obind (wr55_Same.l36 K p0 p1 K 0 : Option (Out Bool Unit)) (fun r => r) (fun _ => some true))))))))
theorem wr55_Same.body {Γ : Ent} {K : Nat} {p0 : wr55_Group} {p1 : wr55_Group} {r : Bool} (h : wr55_Same K p0 p1 = some r) : AWp V P 74 100 Γ (Tryz.f27.body.getD .skip) (EndsE P V Tryz.f27 (.B r) []) ⟨args0 0 [.agg (d_wr55_Group p0), .agg (d_wr55_Group p1)], []⟩ := by
 unfold wr55_Same at h
 refine sr0 L 200 [] [] [] (S' := ⟨[(2, .P 200), (3, .P 201)], [(200, .raw (d_wr55_Group p0)), (201, .raw (d_wr55_Group p1))]⟩) ?_
 refine awp_seq ?_
 refine awp_seq ?_
 rcases ite_some h with ⟨c1, h⟩ | ⟨c1, h⟩
 ·refine ar L 204 [(7, true)] [] [] (cs := [(decide ((p0.Replicas.length : Int) ≠ (p1.Replicas.length : Int))) = true]) (S' := ⟨[(2, .P 200), (3, .P 201), (36, .B true)], [(200, .raw (d_wr55_Group p0)), (201, .raw (d_wr55_Group p1))]⟩) (decide_eq_true c1) ?_
  refine tt (b := true) (rfl) ?_
  refine sr0 L 235 [] [] [] (S' := ⟨[(4, .B false)], []⟩) ?_
  refine awp_ret ?_
  obtain rfl := Option.some.inj h
  exact er (.B false)
 rcases ite_some h with ⟨c2, h⟩ | ⟨c2, h⟩
 ·refine ar L 204 [(7, false), (16, true)] [] [] (cs := [(decide ((p0.Replicas.length : Int) ≠ (p1.Replicas.length : Int))) = false, (decide ((p0.Up.length : Int) ≠ (p1.Up.length : Int))) = true]) (S' := ⟨[(2, .P 200), (3, .P 201), (36, .B true)], [(200, .raw (d_wr55_Group p0)), (201, .raw (d_wr55_Group p1))]⟩) (And.intro (decide_eq_false c1) (decide_eq_true c2)) ?_
  refine tt (b := true) (rfl) ?_
  refine sr0 L 235 [] [] [] (S' := ⟨[(4, .B false)], []⟩) ?_
  refine awp_ret ?_
  obtain rfl := Option.some.inj h
  exact er (.B false)
 rcases ite_some h with ⟨c3, h⟩ | ⟨c3, h⟩
 ·refine ar L 204 [(7, false), (16, false), (23, true)] [] [] (cs := [(decide ((p0.Replicas.length : Int) ≠ (p1.Replicas.length : Int))) = false, (decide ((p0.Up.length : Int) ≠ (p1.Up.length : Int))) = false, (decide (p0.Leader ≠ p1.Leader)) = true]) (S' := ⟨[(2, .P 200), (3, .P 201), (36, .B true)], [(200, .raw (d_wr55_Group p0)), (201, .raw (d_wr55_Group p1))]⟩) (And.intro (decide_eq_false c1) (And.intro (decide_eq_false c2) (decide_eq_true c3))) ?_
  refine tt (b := true) (rfl) ?_
  refine sr0 L 235 [] [] [] (S' := ⟨[(4, .B false)], []⟩) ?_
  refine awp_ret ?_
  obtain rfl := Option.some.inj h
  exact er (.B false)
 refine ar L 204 [(7, false), (16, false), (23, false)] [] [] (cs := [(decide ((p0.Replicas.length : Int) ≠ (p1.Replicas.length : Int))) = false, (decide ((p0.Up.length : Int) ≠ (p1.Up.length : Int))) = false, (decide (p0.Leader ≠ p1.Leader)) = false]) (S' := ⟨[(2, .P 200), (3, .P 201), (36, .B (decide (p0.Epoch ≠ p1.Epoch)))], [(200, .raw (d_wr55_Group p0)), (201, .raw (d_wr55_Group p1))]⟩) (And.intro (decide_eq_false c1) (And.intro (decide_eq_false c2) (decide_eq_false c3))) ?_
 rcases ite_some h with ⟨c4, h⟩ | ⟨c4, h⟩
 ·refine tt (b := (decide (p0.Epoch ≠ p1.Epoch))) (decide_eq_true c4) ?_
  refine sr0 L 235 [] [] [] (S' := ⟨[(4, .B false)], []⟩) ?_
  refine awp_ret ?_
  obtain rfl := Option.some.inj h
  exact er (.B false)
 refine ff (b := (decide (p0.Epoch ≠ p1.Epoch))) (decide_eq_false c4) ?_
 refine awp_skip' ?_
 refine awp_seq ?_
 refine sr0 L 237 [] [] [] (S' := ⟨[(2, .P 200), (3, .P 201), (5, .I 0)], [(200, .raw (d_wr55_Group p0)), (201, .raw (d_wr55_Group p1))]⟩) ?_
 refine awp_block ?_
 refine awp_turn (Turns.trans (Turns.kp (S' := ⟨[(2, .P 200), (3, .P 201), (5, .I 0)], [(200, .raw (d_wr55_Group p0)), (201, .raw (d_wr55_Group p1))]⟩)) (Turns.rn [(200, 23100), (201, 23101)] (S' := ⟨[(2, .P 23100), (3, .P 23101), (5, .I 0)], [(23100, .raw (d_wr55_Group p0)), (23101, .raw (d_wr55_Group p1))]⟩))) ?_
 refine kp (S' := ⟨[(2, .P 23100), (3, .P 23101), (5, .I 0)], [(23100, .raw (d_wr55_Group p0)), (23101, .raw (d_wr55_Group p1))]⟩) ?_
 obtain ⟨o1, hp1, h⟩ := obind_some h
 refine awp_conseq (Q' := fun e S => (e = .exit 0 ∧ S = ⟨[(2, .P 23000), (3, .P 23001)], [(23000, .raw (d_wr55_Group p0)), (23001, .raw (d_wr55_Group p1))]⟩ ∧ Out.go () = o1) ∨ (e = .ret ∧ ∃ a, Out.done a = o1 ∧ EndsE P V Tryz.f27 (.B a) [] .ret S)) (awp_loop (fun k S => ∃ xt5_15h : Int, S = ⟨[(2, .P 23100), (3, .P 23101), (5, .I xt5_15h)], [(23100, .raw (d_wr55_Group p0)), (23101, .raw (d_wr55_Group p1))]⟩ ∧ wr55_Same.l15 K p0 p1 k xt5_15h = some o1) ?_ ⟨_, rfl, hp1⟩) ?_
 ·clear h hp1
  intro k S hS
  obtain ⟨xt5_15h, rfl, h⟩ := hS
  cases k with
  | zero => cases h
  | succ k =>
  unfold wr55_Same.l15 at h
  refine awp_seq ?_
  refine sr0 L 239 [] [] [] (S' := ⟨[(2, .P 23100), (3, .P 23101), (5, .I xt5_15h), (41, .B (decide (xt5_15h < (p0.Replicas.length : Int))))], [(23100, .raw (d_wr55_Group p0)), (23101, .raw (d_wr55_Group p1))]⟩) ?_
  rcases ite_some h with ⟨c5, h⟩ | ⟨c5, h⟩
  ·refine tt (b := (decide (xt5_15h < (p0.Replicas.length : Int)))) (decide_eq_true c5) ?_
   refine awp_skip' ?_
   refine awp_seq ?_
   refine awp_block ?_
   refine awp_seq ?_
   obtain ⟨g1, h⟩ := guard_some h
   obtain ⟨g2, h⟩ := guard_some h
   obtain ⟨a1, h1, h⟩ := bind_some h
   refine ad L mixed 245 [] [(10, .B a1)] [] [] 12 (cs := [(0 : Int) ≤ xt5_15h, (xt5_15h : Int) < (p0.Replicas.length : Int), (0 : Int) ≤ xt5_15h, (xt5_15h : Int) < (p1.Replicas.length : Int), PCall V P 54 [.agg (d_aRep (p0.Replicas.getD (Int.toNat xt5_15h) z_aRep)), .agg (d_aRep (p1.Replicas.getD (Int.toNat xt5_15h) z_aRep))] (.B a1), True]) (S' := ⟨[(2, .P 23100), (3, .P 23101), (5, .I xt5_15h), (55, .B (!a1))], [(23100, .raw (d_wr55_Group p0)), (23101, .raw (d_wr55_Group p1))]⟩) (And.intro g1.1 (And.intro g1.2 (And.intro g1.1 (And.intro g2 (And.intro (wr52_Same.ok h1) trivial))))) ?_
   rcases ite_some h with ⟨c6, h⟩ | ⟨c6, h⟩
   ·refine ff (b := (!a1)) (congrArg Bool.not (c6)) ?_
    refine awp_skip' ?_
    refine ar0 L 260 [] [] [] (S' := ⟨[(2, .P 23100), (3, .P 23101), (5, .I (IntKind.i64.wrap (xt5_15h + 1)))], [(23100, .raw (d_wr55_Group p0)), (23101, .raw (d_wr55_Group p1))]⟩) ?_
    exact ⟨k, Nat.lt_succ_self k, _, rfl, h⟩
   refine tt (b := (!a1)) (congrArg Bool.not (eq_false_of_ne_true c6)) ?_
   refine sr0 L 258 [] [] [] (S' := ⟨[(4, .B false)], []⟩) ?_
   refine awp_ret ?_
   obtain rfl := Option.some.inj h
   exact .inr ⟨rfl, _, rfl, er (.B false)⟩
  refine ff (b := (decide (xt5_15h < (p0.Replicas.length : Int)))) (decide_eq_false c5) ?_
  refine awp_turn (Turns.trans (Turns.kp (S' := ⟨[(2, .P 23100), (3, .P 23101)], [(23100, .raw (d_wr55_Group p0)), (23101, .raw (d_wr55_Group p1))]⟩)) (Turns.rn [(23100, 23000), (23101, 23001)] (S' := ⟨[(2, .P 23000), (3, .P 23001)], [(23000, .raw (d_wr55_Group p0)), (23001, .raw (d_wr55_Group p1))]⟩))) ?_
  refine ex (S' := ⟨[(2, .P 23000), (3, .P 23001)], [(23000, .raw (d_wr55_Group p0)), (23001, .raw (d_wr55_Group p1))]⟩) ?_
  obtain rfl := Option.some.inj h
  exact .inl ⟨rfl, rfl, rfl⟩
 ·rintro e S (⟨rfl, rfl, rfl⟩ | ⟨rfl, a, rfl, hr⟩)
  ·rcases h with ⟨_, e1, h⟩ | ⟨_, e1, h⟩
   ·cases e1
   ·have e2 := Out.go.inj e1
    subst e2
    refine ⟨_, Turns.refl, ?_⟩
    refine awp_seq ?_
    refine sr0 L 264 [] [] [] (S' := ⟨[(2, .P 23000), (3, .P 23001), (6, .I 0)], [(23000, .raw (d_wr55_Group p0)), (23001, .raw (d_wr55_Group p1))]⟩) ?_
    refine awp_block ?_
    refine awp_turn (Turns.trans (Turns.kp (S' := ⟨[(2, .P 23000), (3, .P 23001), (6, .I 0)], [(23000, .raw (d_wr55_Group p0)), (23001, .raw (d_wr55_Group p1))]⟩)) (Turns.rn [(23000, 27300), (23001, 27301)] (S' := ⟨[(2, .P 27300), (3, .P 27301), (6, .I 0)], [(27300, .raw (d_wr55_Group p0)), (27301, .raw (d_wr55_Group p1))]⟩))) ?_
    refine kp (S' := ⟨[(2, .P 27300), (3, .P 27301), (6, .I 0)], [(27300, .raw (d_wr55_Group p0)), (27301, .raw (d_wr55_Group p1))]⟩) ?_
    obtain ⟨o2, hp2, h⟩ := obind_some h
    refine awp_conseq (Q' := fun e S => (e = .exit 2 ∧ S = ⟨[], []⟩ ∧ Out.go () = o2) ∨ (e = .ret ∧ ∃ a, Out.done a = o2 ∧ EndsE P V Tryz.f27 (.B a) [] .ret S)) (awp_loop (fun k S => ∃ xt6_36h : Int, S = ⟨[(2, .P 27300), (3, .P 27301), (6, .I xt6_36h)], [(27300, .raw (d_wr55_Group p0)), (27301, .raw (d_wr55_Group p1))]⟩ ∧ wr55_Same.l36 K p0 p1 k xt6_36h = some o2) ?_ ⟨_, rfl, hp2⟩) ?_
    ·clear h hp2
     intro k S hS
     obtain ⟨xt6_36h, rfl, h⟩ := hS
     cases k with
     | zero => cases h
     | succ k =>
     unfold wr55_Same.l36 at h
     refine awp_seq ?_
     refine sr0 L 266 [] [] [] (S' := ⟨[(2, .P 27300), (3, .P 27301), (6, .I xt6_36h), (60, .B (decide (xt6_36h < (p0.Up.length : Int))))], [(27300, .raw (d_wr55_Group p0)), (27301, .raw (d_wr55_Group p1))]⟩) ?_
     rcases ite_some h with ⟨c7, h⟩ | ⟨c7, h⟩
     ·refine tt (b := (decide (xt6_36h < (p0.Up.length : Int)))) (decide_eq_true c7) ?_
      refine awp_skip' ?_
      refine awp_seq ?_
      refine awp_block ?_
      refine awp_seq ?_
      obtain ⟨g3, h⟩ := guard_some h
      obtain ⟨g4, h⟩ := guard_some h
      refine ad L mixed 272 [] [] [] [] 11 (cs := [(0 : Int) ≤ xt6_36h, (xt6_36h : Int) < (p0.Up.length : Int), (0 : Int) ≤ xt6_36h, (xt6_36h : Int) < (p1.Up.length : Int)]) (S' := ⟨[(2, .P 27300), (3, .P 27301), (6, .I xt6_36h), (73, .B (!((p0.Up.getD (Int.toNat xt6_36h) false) == (p1.Up.getD (Int.toNat xt6_36h) false))))], [(27300, .raw (d_wr55_Group p0)), (27301, .raw (d_wr55_Group p1))]⟩) (And.intro g3.1 (And.intro g3.2 (And.intro g3.1 g4))) ?_
      rcases ite_some h with ⟨c8, h⟩ | ⟨c8, h⟩
      ·refine ff (b := (!((p0.Up.getD (Int.toNat xt6_36h) false) == (p1.Up.getD (Int.toNat xt6_36h) false)))) (congrArg Bool.not (c8)) ?_
       refine awp_skip' ?_
       refine ar0 L 286 [] [] [] (S' := ⟨[(2, .P 27300), (3, .P 27301), (6, .I (IntKind.i64.wrap (xt6_36h + 1)))], [(27300, .raw (d_wr55_Group p0)), (27301, .raw (d_wr55_Group p1))]⟩) ?_
       exact ⟨k, Nat.lt_succ_self k, _, rfl, h⟩
      refine tt (b := (!((p0.Up.getD (Int.toNat xt6_36h) false) == (p1.Up.getD (Int.toNat xt6_36h) false)))) (congrArg Bool.not (eq_false_of_ne_true c8)) ?_
      refine sr0 L 284 [] [] [] (S' := ⟨[(4, .B false)], []⟩) ?_
      refine awp_ret ?_
      obtain rfl := Option.some.inj h
      exact .inr ⟨rfl, _, rfl, er (.B false)⟩
     refine ff (b := (decide (xt6_36h < (p0.Up.length : Int)))) (decide_eq_false c7) ?_
     refine ex (S' := ⟨[], []⟩) ?_
     obtain rfl := Option.some.inj h
     exact .inl ⟨rfl, rfl, rfl⟩
    ·rintro e S (⟨rfl, rfl, rfl⟩ | ⟨rfl, a, rfl, hr⟩)
     ·rcases h with ⟨_, e1, h⟩ | ⟨_, e1, h⟩
      ·cases e1
      ·have e2 := Out.go.inj e1
       subst e2
       refine ⟨_, Turns.refl, ?_⟩
       refine sr0 L 290 [] [] [] (S' := ⟨[(4, .B true)], []⟩) ?_
       refine awp_ret ?_
       obtain rfl := Option.some.inj h
       exact er (.B true)
     ·rcases h with ⟨_, e1, h⟩ | ⟨_, e1, h⟩
      ·have e2 := Out.done.inj e1
       subst e2
       subst h
       exact ⟨_, Turns.refl, hr⟩
      ·cases e1
  ·rcases h with ⟨_, e1, h⟩ | ⟨_, e1, h⟩
   ·have e2 := Out.done.inj e1
    subst e2
    subst h
    exact ⟨_, Turns.refl, hr⟩
   ·cases e1
theorem wr55_Same.ok {K : Nat} {p0 : wr55_Group} {p1 : wr55_Group} {r : Bool} (h : wr55_Same K p0 p1 = some r) : PCall V P 27 [.agg (d_wr55_Group p0), .agg (d_wr55_Group p1)] (.B r) := ECall.pcall (eo (fn := Tryz.f27) (n := 74) (m := 100) fun Γ => wr55_Same.body h) (by kernel_rfl)
def group_Group_leads_c1 (K : Nat) (p0 : Int) (p1 : group_Group) (p2 : Int) : Option Bool := (if (0 : Int) ≤ p0 ∧ (p0 : Int) < (p1.Replicas.length : Int) then some (decide ((p1.Replicas.getD (Int.toNat p0) z_aRep).Epoch > p2)) else none)
theorem group_Group_leads_c1.body {Γ : Ent} {K : Nat} {p0 : Int} {p1 : group_Group} {p2 : Int} {r : Bool} (h : group_Group_leads_c1 K p0 p1 p2 = some r) : AWp V P 13 100 Γ (Tryz.f56.body.getD .skip) (EndsE P V Tryz.f56 (.B r) []) ⟨args0 0 [.I p0, .cv (.pcs (d_group_Group p1) 0), .cv (.pcs [.I p2] 0)], []⟩ := by
 unfold group_Group_leads_c1 at h
 refine sr0 L 200 [] [] [] (S' := ⟨[(0, .I p0), (1, .cv (.pcs (d_group_Group p1) 0)), (2, .cv (.pcs [.I p2] 0))], []⟩) ?_
 refine awp_seq ?_
 obtain ⟨g1, h⟩ := guard_some h
 refine ad L mixed 202 [] [] [] [] 9 (cs := [(0 : Int) ≤ p0, (p0 : Int) < (p1.Replicas.length : Int)]) (S' := ⟨[(4, .B (decide ((p1.Replicas.getD (Int.toNat p0) z_aRep).Epoch > p2)))], []⟩) (And.intro g1.1 g1.2) ?_
 refine awp_ret ?_
 obtain rfl := Option.some.inj h
 exact er (.B (decide ((p1.Replicas.getD (Int.toNat p0) z_aRep).Epoch > p2)))
theorem group_Group_leads_c1.ok {K : Nat} {p0 : Int} {p1 : group_Group} {p2 : Int} {r : Bool} (h : group_Group_leads_c1 K p0 p1 p2 = some r) : PCall V P 56 [.I p0, .cv (.pcs (d_group_Group p1) 0), .cv (.pcs [.I p2] 0)] (.B r) := ECall.pcall (eo (fn := Tryz.f56) (n := 13) (m := 100) fun Γ => group_Group_leads_c1.body h) (by kernel_rfl)
def slices_IndexFunc_84_v2.l7 (K : Nat) (p0 : List Int) (p1 : group_Group) (p2 : Int) : Nat → Int → Option (Out Int Unit)
 | 0, _ => none
 | k + 1, xt8_7h => (if xt8_7h < (p0.length : Int) then (if (0 : Int) ≤ xt8_7h ∧ (xt8_7h : Int) < (p0.length : Int) then (Option.bind (group_Group_leads_c1 K (p0.getD (Int.toNat xt8_7h) (0 : Int)) p1 p2) (fun a1 => (if a1 = true then some (Out.done xt8_7h) else slices_IndexFunc_84_v2.l7 K p0 p1 p2 k (IntKind.i64.wrap (xt8_7h + 1))))) else none) else some (Out.go ()))
def slices_IndexFunc_84_v2 (K : Nat) (p0 : List Int) (p1 : group_Group) (p2 : Int) : Option Int := (obind (slices_IndexFunc_84_v2.l7 K p0 p1 p2 K 0 : Option (Out Int Unit)) (fun r => r) (fun _ => some (-1)))
theorem slices_IndexFunc_84_v2.body {Γ : Ent} {K : Nat} {p0 : List Int} {p1 : group_Group} {p2 : Int} {r : Int} (h : slices_IndexFunc_84_v2 K p0 p1 p2 = some r) : AWp V P 19 100 Γ (Tryz.f84.body.getD .skip) (EndsE P V Tryz.f84 (.I r) []) ⟨args0 0 [.cv (.ro .t_int p0), .cv (.fn (.func 56) [] [.pcs (d_group_Group p1) 0, .pcs [.I p2] 0])], []⟩ := by
 unfold slices_IndexFunc_84_v2 at h
 refine sr0 L 200 [] [] [] (S' := ⟨[(0, .cv (.ro .t_int p0)), (1, .cv (.fn (.func 56) [] [.pcs (d_group_Group p1) 0, .pcs [.I p2] 0]))], []⟩) ?_
 refine awp_seq ?_
 refine sr0 L 202 [] [] [] (S' := ⟨[(0, .cv (.ro .t_int p0)), (1, .cv (.fn (.func 56) [] [.pcs (d_group_Group p1) 0, .pcs [.I p2] 0])), (7, .I (p0.length : Int)), (8, .I 0)], []⟩) ?_
 refine awp_block ?_
 refine kp (S' := ⟨[(0, .cv (.ro .t_int p0)), (1, .cv (.fn (.func 56) [] [.pcs (d_group_Group p1) 0, .pcs [.I p2] 0])), (7, .I (p0.length : Int)), (8, .I 0)], []⟩) ?_
 obtain ⟨o1, hp1, h⟩ := obind_some h
 refine awp_conseq (Q' := fun e S => (e = .exit 0 ∧ S = ⟨[], []⟩ ∧ Out.go () = o1) ∨ (e = .ret ∧ ∃ a, Out.done a = o1 ∧ EndsE P V Tryz.f84 (.I a) [] .ret S)) (awp_loop (fun k S => ∃ xt8_7h : Int, S = ⟨[(0, .cv (.ro .t_int p0)), (1, .cv (.fn (.func 56) [] [.pcs (d_group_Group p1) 0, .pcs [.I p2] 0])), (7, .I (p0.length : Int)), (8, .I xt8_7h)], []⟩ ∧ slices_IndexFunc_84_v2.l7 K p0 p1 p2 k xt8_7h = some o1) ?_ ⟨_, rfl, hp1⟩) ?_
 ·clear h hp1
  intro k S hS
  obtain ⟨xt8_7h, rfl, h⟩ := hS
  cases k with
  | zero => cases h
  | succ k =>
  unfold slices_IndexFunc_84_v2.l7 at h
  refine sr0 L 206 [] [] [] (S' := ⟨[(0, .cv (.ro .t_int p0)), (1, .cv (.fn (.func 56) [] [.pcs (d_group_Group p1) 0, .pcs [.I p2] 0])), (7, .I (p0.length : Int)), (8, .I xt8_7h), (9, .B (decide (xt8_7h < (p0.length : Int))))], []⟩) ?_
  refine awp_seq ?_
  rcases ite_some h with ⟨c1, h⟩ | ⟨c1, h⟩
  ·refine tt (b := (decide (xt8_7h < (p0.length : Int)))) (decide_eq_true c1) ?_
   refine awp_skip' ?_
   refine awp_seq ?_
   refine awp_block ?_
   refine sr0 L 208 [] [] [] (S' := ⟨[(0, .cv (.ro .t_int p0)), (1, .cv (.fn (.func 56) [] [.pcs (d_group_Group p1) 0, .pcs [.I p2] 0])), (5, .I xt8_7h), (7, .I (p0.length : Int)), (8, .I xt8_7h)], []⟩) ?_
   refine awp_seq ?_
   obtain ⟨g1, h⟩ := guard_some h
   obtain ⟨a1, h1, h⟩ := bind_some h
   refine ar L 211 [] [(5, .B a1)] [] (cs := [(0 : Int) ≤ xt8_7h, (xt8_7h : Int) < (p0.length : Int), PCall V P 56 [.I (p0.getD (Int.toNat xt8_7h) (0 : Int)), .cv (.pcs (d_group_Group p1) 0), .cv (.pcs [.I p2] 0)] (.B a1), True]) (S' := ⟨[(0, .cv (.ro .t_int p0)), (1, .cv (.fn (.func 56) [] [.pcs (d_group_Group p1) 0, .pcs [.I p2] 0])), (5, .I xt8_7h), (7, .I (p0.length : Int)), (8, .I xt8_7h), (16, .B a1)], []⟩) (And.intro g1.1 (And.intro g1.2 (And.intro (group_Group_leads_c1.ok h1) trivial))) ?_
   rcases ite_some h with ⟨c2, h⟩ | ⟨c2, h⟩
   ·refine tt (b := a1) (c2) ?_
    refine sr0 L 218 [] [] [] (S' := ⟨[(4, .I xt8_7h)], []⟩) ?_
    refine awp_ret ?_
    obtain rfl := Option.some.inj h
    exact .inr ⟨rfl, _, rfl, er (.I xt8_7h)⟩
   refine ff (b := a1) (eq_false_of_ne_true c2) ?_
   refine awp_skip' ?_
   refine ar0 L 221 [] [] [] (S' := ⟨[(0, .cv (.ro .t_int p0)), (1, .cv (.fn (.func 56) [] [.pcs (d_group_Group p1) 0, .pcs [.I p2] 0])), (7, .I (p0.length : Int)), (8, .I (IntKind.i64.wrap (xt8_7h + 1)))], []⟩) ?_
   exact ⟨k, Nat.lt_succ_self k, _, rfl, h⟩
  refine ff (b := (decide (xt8_7h < (p0.length : Int)))) (decide_eq_false c1) ?_
  refine ex (S' := ⟨[], []⟩) ?_
  obtain rfl := Option.some.inj h
  exact .inl ⟨rfl, rfl, rfl⟩
 ·rintro e S (⟨rfl, rfl, rfl⟩ | ⟨rfl, a, rfl, hr⟩)
  ·rcases h with ⟨_, e1, h⟩ | ⟨_, e1, h⟩
   ·cases e1
   ·have e2 := Out.go.inj e1
    subst e2
    refine ⟨_, Turns.refl, ?_⟩
    refine sr0 L 224 [] [] [] (S' := ⟨[(4, .I (-1))], []⟩) ?_
    refine awp_ret ?_
    obtain rfl := Option.some.inj h
    exact er (.I (-1))
  ·rcases h with ⟨_, e1, h⟩ | ⟨_, e1, h⟩
   ·have e2 := Out.done.inj e1
    subst e2
    subst h
    exact ⟨_, Turns.refl, hr⟩
   ·cases e1
theorem slices_IndexFunc_84_v2.ok {K : Nat} {p0 : List Int} {p1 : group_Group} {p2 : Int} {r : Int} (h : slices_IndexFunc_84_v2 K p0 p1 p2 = some r) : PCall V P 84 [.cv (.ro .t_int p0), .cv (.fn (.func 56) [] [.pcs (d_group_Group p1) 0, .pcs [.I p2] 0])] (.I r) := ECall.pcall (eo (fn := Tryz.f84) (n := 19) (m := 100) fun Γ => slices_IndexFunc_84_v2.body h) (by kernel_rfl)
def slices_ContainsFunc_55_v2 (K : Nat) (p0 : List Int) (p1 : group_Group) (p2 : Int) : Option Bool := (Option.bind (slices_IndexFunc_84_v2 K p0 p1 p2) (fun a1 => some (decide (a1 ≥ 0))))
theorem slices_ContainsFunc_55_v2.body {Γ : Ent} {K : Nat} {p0 : List Int} {p1 : group_Group} {p2 : Int} {r : Bool} (h : slices_ContainsFunc_55_v2 K p0 p1 p2 = some r) : AWp V P 9 100 Γ (Tryz.f55.body.getD .skip) (EndsE P V Tryz.f55 (.B r) []) ⟨args0 0 [.cv (.ro .t_int p0), .cv (.fn (.func 56) [] [.pcs (d_group_Group p1) 0, .pcs [.I p2] 0])], []⟩ := by
 unfold slices_ContainsFunc_55_v2 at h
 refine sr0 L 200 [] [] [] (S' := ⟨[(0, .cv (.ro .t_int p0)), (1, .cv (.fn (.func 56) [] [.pcs (d_group_Group p1) 0, .pcs [.I p2] 0]))], []⟩) ?_
 refine awp_seq ?_
 obtain ⟨a1, h1, h⟩ := bind_some h
 refine ar L 202 [] [(2, .I a1)] [] (cs := [PCall V P 84 [.cv (.ro .t_int p0), .cv (.fn (.func 56) [] [.pcs (d_group_Group p1) 0, .pcs [.I p2] 0])] (.I a1), True]) (S' := ⟨[(4, .B (decide (a1 ≥ 0)))], []⟩) (And.intro (slices_IndexFunc_84_v2.ok h1) trivial) ?_
 refine awp_ret ?_
 obtain rfl := Option.some.inj h
 exact er (.B (decide (a1 ≥ 0)))
theorem slices_ContainsFunc_55_v2.ok {K : Nat} {p0 : List Int} {p1 : group_Group} {p2 : Int} {r : Bool} (h : slices_ContainsFunc_55_v2 K p0 p1 p2 = some r) : PCall V P 55 [.cv (.ro .t_int p0), .cv (.fn (.func 56) [] [.pcs (d_group_Group p1) 0, .pcs [.I p2] 0])] (.B r) := ECall.pcall (eo (fn := Tryz.f55) (n := 9) (m := 100) fun Γ => slices_ContainsFunc_55_v2.body h) (by kernel_rfl)
def group_Group_leads (K : Nat) (p0 : group_Group) (p1 : Int) (p2 : Int) (p3 : List Int) : Option Int := (Option.bind (group_Group_suits K p0 p1 p3) (fun a1 => (if a1 = true then (if (0 : Int) ≤ p1 ∧ (p1 : Int) < (p0.Up.length : Int) then (if (p0.Up.getD (Int.toNat p1) false) = true then (if p1 ≠ p0.Leader then some 25 else (if p2 ≠ p0.Epoch then some 25 else (if (p1 : Int) < (p0.Replicas.length : Int) then (if (p0.Replicas.getD (Int.toNat p1) z_aRep).Epoch ≠ p2 then some 25 else (Option.bind (group_Group_others K p0 p1 p3) (fun a2 => (Option.bind (slices_ContainsFunc_55_v2 K a2 p0 p2) (fun a3 => (if a3 = true then some 25 else some 0)))))) else none))) else some 28) else none) else some 2)))
theorem group_Group_leads.body {Γ : Ent} {K : Nat} {p0 : group_Group} {p1 : Int} {p2 : Int} {p3 : List Int} {r : Int} (h : group_Group_leads K p0 p1 p2 p3 = some r) : AWp V P 49 100 Γ (Tryz.f28.body.getD .skip) (EndsE P V Tryz.f28 (.I r) []) ⟨args0 0 [.agg (d_group_Group p0), .I p1, .I p2, .cv (.ro .t_int p3)], []⟩ := by
 unfold group_Group_leads at h
 refine sr0 L 200 [] [] [] (S' := ⟨[(1, .I p1), (3, .cv (.ro .t_int p3)), (4, .P 200), (6, .P 201)], [(200, .raw (d_group_Group p0)), (201, .raw [.I p2])]⟩) ?_
 refine awp_seq ?_
 refine awp_block ?_
 refine awp_seq ?_
 obtain ⟨a1, h1, h⟩ := bind_some h
 refine ar L 204 [] [(3, .B a1)] [] (cs := [PCall V P 36 [.agg (d_group_Group p0), .I p1, .cv (.ro .t_int p3)] (.B a1), True]) (S' := ⟨[(1, .I p1), (3, .cv (.ro .t_int p3)), (4, .P 200), (6, .P 201), (9, .B (!a1))], [(200, .raw (d_group_Group p0)), (201, .raw [.I p2])]⟩) (And.intro (group_Group_suits.ok h1) trivial) ?_
 rcases ite_some h with ⟨c1, h⟩ | ⟨c1, h⟩
 ·refine ff (b := (!a1)) (congrArg Bool.not (c1)) ?_
  refine awp_seq ?_
  obtain ⟨g1, h⟩ := guard_some h
  refine ar L 213 [] [] [] (cs := [(0 : Int) ≤ p1, (p1 : Int) < (p0.Up.length : Int)]) (S' := ⟨[(1, .I p1), (3, .cv (.ro .t_int p3)), (4, .P 200), (6, .P 201), (15, .B (!(p0.Up.getD (Int.toNat p1) false)))], [(200, .raw (d_group_Group p0)), (201, .raw [.I p2])]⟩) (And.intro g1.1 g1.2) ?_
  rcases ite_some h with ⟨c2, h⟩ | ⟨c2, h⟩
  ·refine ff (b := (!(p0.Up.getD (Int.toNat p1) false))) (congrArg Bool.not (c2)) ?_
   refine awp_seq ?_
   rcases ite_some h with ⟨c3, h⟩ | ⟨c3, h⟩
   ·refine ad L mixed 223 [(4, true)] [] [] [] 21 (cs := [(decide (p1 ≠ p0.Leader)) = true]) (S' := ⟨[(1, .I p1), (3, .cv (.ro .t_int p3)), (4, .P 200), (6, .P 201), (22, .B true)], [(200, .raw (d_group_Group p0)), (201, .raw [.I p2])]⟩) (decide_eq_true c3) ?_
    refine tt (b := true) (rfl) ?_
    refine sr0 L 245 [] [] [] (S' := ⟨[(8, .I 25)], []⟩) ?_
    refine awp_ret ?_
    obtain rfl := Option.some.inj h
    exact er (.I 25)
   rcases ite_some h with ⟨c4, h⟩ | ⟨c4, h⟩
   ·refine ad L mixed 223 [(4, false), (10, true)] [] [] [] 21 (cs := [(decide (p1 ≠ p0.Leader)) = false, (decide (p2 ≠ p0.Epoch)) = true]) (S' := ⟨[(1, .I p1), (3, .cv (.ro .t_int p3)), (4, .P 200), (6, .P 201), (22, .B true)], [(200, .raw (d_group_Group p0)), (201, .raw [.I p2])]⟩) (And.intro (decide_eq_false c3) (decide_eq_true c4)) ?_
    refine tt (b := true) (rfl) ?_
    refine sr0 L 245 [] [] [] (S' := ⟨[(8, .I 25)], []⟩) ?_
    refine awp_ret ?_
    obtain rfl := Option.some.inj h
    exact er (.I 25)
   obtain ⟨g2, h⟩ := guard_some h
   refine ad L mixed 223 [(4, false), (10, false)] [] [] [] 21 (cs := [(decide (p1 ≠ p0.Leader)) = false, (decide (p2 ≠ p0.Epoch)) = false, (0 : Int) ≤ p1, (p1 : Int) < (p0.Replicas.length : Int)]) (S' := ⟨[(1, .I p1), (3, .cv (.ro .t_int p3)), (4, .P 200), (6, .P 201), (22, .B (decide ((p0.Replicas.getD (Int.toNat p1) z_aRep).Epoch ≠ p2)))], [(200, .raw (d_group_Group p0)), (201, .raw [.I p2])]⟩) (And.intro (decide_eq_false c3) (And.intro (decide_eq_false c4) (And.intro g1.1 g2))) ?_
   rcases ite_some h with ⟨c5, h⟩ | ⟨c5, h⟩
   ·refine tt (b := (decide ((p0.Replicas.getD (Int.toNat p1) z_aRep).Epoch ≠ p2))) (decide_eq_true c5) ?_
    refine sr0 L 245 [] [] [] (S' := ⟨[(8, .I 25)], []⟩) ?_
    refine awp_ret ?_
    obtain rfl := Option.some.inj h
    exact er (.I 25)
   refine ff (b := (decide ((p0.Replicas.getD (Int.toNat p1) z_aRep).Epoch ≠ p2))) (decide_eq_false c5) ?_
   refine awp_skip' ?_
   refine awp_seq ?_
   refine awp_seq ?_
   obtain ⟨a2, h2, h⟩ := bind_some h
   obtain ⟨a3, h3, h⟩ := bind_some h
   refine ar L 247 [] [(3, .cv (.ro .t_int a2)), (5, .B a3)] [] (cs := [PCall V P 39 [.agg (d_group_Group p0), .I p1, .cv (.ro .t_int p3)] (.cv (.ro .t_int a2)), True, PCall V P 55 [.cv (.ro .t_int a2), .cv (.fn (.func 56) [] [.pcs (d_group_Group p0) 0, .pcs [.I p2] 0])] (.B a3), True]) (S' := ⟨[(48, .B a3)], []⟩) (And.intro (group_Group_others.ok h2) (And.intro trivial (And.intro (slices_ContainsFunc_55_v2.ok h3) trivial))) ?_
   rcases ite_some h with ⟨c6, h⟩ | ⟨c6, h⟩
   ·refine tt (b := a3) (c6) ?_
    refine sr0 L 254 [] [] [] (S' := ⟨[(8, .I 25)], []⟩) ?_
    refine awp_ret ?_
    obtain rfl := Option.some.inj h
    exact er (.I 25)
   refine ff (b := a3) (eq_false_of_ne_true c6) ?_
   refine awp_skip' ?_
   refine sr0 L 256 [] [] [] (S' := ⟨[(8, .I 0)], []⟩) ?_
   refine awp_ret ?_
   obtain rfl := Option.some.inj h
   exact er (.I 0)
  refine tt (b := (!(p0.Up.getD (Int.toNat p1) false))) (congrArg Bool.not (eq_false_of_ne_true c2)) ?_
  refine sr0 L 221 [] [] [] (S' := ⟨[(8, .I 28)], []⟩) ?_
  refine awp_ret ?_
  obtain rfl := Option.some.inj h
  exact er (.I 28)
 refine tt (b := (!a1)) (congrArg Bool.not (eq_false_of_ne_true c1)) ?_
 refine sr0 L 211 [] [] [] (S' := ⟨[(8, .I 2)], []⟩) ?_
 refine awp_ret ?_
 obtain rfl := Option.some.inj h
 exact er (.I 2)
theorem group_Group_leads.ok {K : Nat} {p0 : group_Group} {p1 : Int} {p2 : Int} {p3 : List Int} {r : Int} (h : group_Group_leads K p0 p1 p2 p3 = some r) : PCall V P 28 [.agg (d_group_Group p0), .I p1, .I p2, .cv (.ro .t_int p3)] (.I r) := ECall.pcall (eo (fn := Tryz.f28) (n := 49) (m := 100) fun Γ => group_Group_leads.body h) (by kernel_rfl)
def replog_entries.l9 (K : Nat) (p0 : List aEnt) : Nat → Int → (List aEnt) → Option (List aEnt)
 | 0, _, _ => none
 | k + 1, xt9_9h, x21900 => (if xt9_9h < (p0.length : Int) then (if (0 : Int) ≤ xt9_9h ∧ (xt9_9h : Int) < (x21900.length : Int) then (if (Int.toNat xt9_9h) < x21900.length then (Option.bind (bytes_Clone_59 K ((x21900.getD (Int.toNat xt9_9h) z_aEnt).Data)) (fun a1 => replog_entries.l9 K p0 k (IntKind.i64.wrap (xt9_9h + 1)) (x21900.set (Int.toNat xt9_9h) (⟨(x21900.getD (Int.toNat xt9_9h) z_aEnt).Epoch, a1⟩ : aEnt)))) else none) else none) else some x21900)
def replog_entries (K : Nat) (p0 : List aEnt) : Option (List aEnt) := (if p0.length * 32 ≤ 140737488355328 then (Option.bind (replog_entries.l9 K p0 K 0 p0 : Option (List aEnt)) (fun x21800 => some x21800)) else none)
theorem replog_entries.body {Γ : Ent} {K : Nat} {p0 : List aEnt} {r : List aEnt} (h : replog_entries K p0 = some r) : AWp V P 24 100 Γ (Tryz.f58.body.getD .skip) (EndsE P V Tryz.f58 (.cv (.ro .t_aEnt r)) []) ⟨args0 0 [.cv (.ro .t_aEnt p0)], []⟩ := by
 unfold replog_entries at h
 refine sr0 L 200 [] [] [] (S' := ⟨[(0, .cv (.ro .t_aEnt p0))], []⟩) ?_
 refine awp_seq ?_
 obtain ⟨g1, h⟩ := guard_some h
 refine ar L 202 [] [(1, .cv (.ron .t_aEnt p0))] [] (cs := [FCall V P 87 [.cv (.ro .t_aEnt p0)] Tag.t_aEnt p0]) (S' := ⟨[(3, .cv (.own .t_aEnt 203))], [(203, .lst .t_aEnt p0)]⟩) (slices_Clone_87.okF (show slices_Clone_87 0 p0 = some p0 from if_pos g1)) ?_
 refine awp_seq ?_
 refine sr0 L 206 [] [] [] (S' := ⟨[(3, .cv (.own .t_aEnt 203)), (8, .I (p0.length : Int)), (9, .I 0)], [(203, .lst .t_aEnt p0)]⟩) ?_
 refine awp_block ?_
 refine awp_turn (Turns.trans (Turns.kp (S' := ⟨[(3, .cv (.own .t_aEnt 203)), (8, .I (p0.length : Int)), (9, .I 0)], [(203, .lst .t_aEnt p0)]⟩)) (Turns.rn [(203, 21900)] (S' := ⟨[(3, .cv (.own .t_aEnt 21900)), (8, .I (p0.length : Int)), (9, .I 0)], [(21900, .lst .t_aEnt p0)]⟩))) ?_
 refine kp (S' := ⟨[(3, .cv (.own .t_aEnt 21900)), (8, .I (p0.length : Int)), (9, .I 0)], [(21900, .lst .t_aEnt p0)]⟩) ?_
 obtain ⟨o1, hp1, h⟩ := bind_some h
 refine awp_conseq (Q' := fun e S => (e = .exit 0 ∧ ∃ x21800 : List aEnt, S = ⟨[(3, .cv (.own .t_aEnt 21800))], [(21800, .lst .t_aEnt x21800)]⟩ ∧ x21800 = o1)) (awp_loop (fun k S => ∃ xt9_9h : Int, ∃ x21900 : List aEnt, S = ⟨[(3, .cv (.own .t_aEnt 21900)), (8, .I (p0.length : Int)), (9, .I xt9_9h)], [(21900, .lst .t_aEnt x21900)]⟩ ∧ replog_entries.l9 K p0 k xt9_9h x21900 = some o1) ?_ ⟨_, _, rfl, hp1⟩) ?_
 ·clear h hp1
  intro k S hS
  obtain ⟨xt9_9h, x21900, rfl, h⟩ := hS
  cases k with
  | zero => cases h
  | succ k =>
  unfold replog_entries.l9 at h
  refine sr0 L 210 [] [] [] (S' := ⟨[(3, .cv (.own .t_aEnt 21900)), (8, .I (p0.length : Int)), (9, .I xt9_9h), (10, .B (decide (xt9_9h < (p0.length : Int))))], [(21900, .lst .t_aEnt x21900)]⟩) ?_
  refine awp_seq ?_
  rcases ite_some h with ⟨c1, h⟩ | ⟨c1, h⟩
  ·refine tt (b := (decide (xt9_9h < (p0.length : Int)))) (decide_eq_true c1) ?_
   refine awp_skip' ?_
   refine awp_seq ?_
   refine awp_block ?_
   refine sr0 L 212 [] [] [] (S' := ⟨[(3, .cv (.own .t_aEnt 21900)), (4, .I xt9_9h), (8, .I (p0.length : Int)), (9, .I xt9_9h)], [(21900, .lst .t_aEnt x21900)]⟩) ?_
   obtain ⟨g2, h⟩ := guard_some h
   obtain ⟨g3, h⟩ := guard_some h
   obtain ⟨a1, ha1, h⟩ := bind_some h
   refine ar L 215 [] [(7, .cv (.ro .t_uint8 a1))] [] (cs := [(0 : Int) ≤ xt9_9h, (xt9_9h : Int) < (x21900.length : Int), (Int.toNat xt9_9h) < x21900.length, PCall V P 59 [.cv (.ro .t_uint8 ((x21900.getD (Int.toNat xt9_9h) z_aEnt).Data))] (.cv (.ro .t_uint8 a1)), True, (0 : Int) ≤ xt9_9h, (xt9_9h : Int) < (x21900.length : Int), (Int.toNat xt9_9h) < x21900.length, True]) (S' := ⟨[(3, .cv (.own .t_aEnt 21900)), (8, .I (p0.length : Int)), (9, .I xt9_9h)], [(21900, .lst .t_aEnt (x21900.set (Int.toNat xt9_9h) (⟨(x21900.getD (Int.toNat xt9_9h) z_aEnt).Epoch, a1⟩ : aEnt)))]⟩) (And.intro g2.1 (And.intro g2.2 (And.intro g3 (And.intro (bytes_Clone_59.ok ha1) (And.intro trivial (And.intro g2.1 (And.intro g2.2 (And.intro g3 trivial)))))))) ?_
   refine ar0 L 227 [] [] [] (S' := ⟨[(3, .cv (.own .t_aEnt 21900)), (8, .I (p0.length : Int)), (9, .I (IntKind.i64.wrap (xt9_9h + 1)))], [(21900, .lst .t_aEnt (x21900.set (Int.toNat xt9_9h) (⟨(x21900.getD (Int.toNat xt9_9h) z_aEnt).Epoch, a1⟩ : aEnt)))]⟩) ?_
   exact ⟨k, Nat.lt_succ_self k, _, _, rfl, h⟩
  refine ff (b := (decide (xt9_9h < (p0.length : Int)))) (decide_eq_false c1) ?_
  refine awp_turn (Turns.trans (Turns.kp (S' := ⟨[(3, .cv (.own .t_aEnt 21900))], [(21900, .lst .t_aEnt x21900)]⟩)) (Turns.rn [(21900, 21800)] (S' := ⟨[(3, .cv (.own .t_aEnt 21800))], [(21800, .lst .t_aEnt x21900)]⟩))) ?_
  refine ex (S' := ⟨[(3, .cv (.own .t_aEnt 21800))], [(21800, .lst .t_aEnt x21900)]⟩) ?_
  obtain rfl := Option.some.inj h
  exact ⟨rfl, _, rfl, rfl⟩
 ·rintro e S ⟨rfl, x21800, rfl, rfl⟩
  refine ⟨_, Turns.refl, ?_⟩
  refine sr0 L 230 [] [] [] (S' := ⟨[(2, .cv (.own .t_aEnt 21800))], [(21800, .lst .t_aEnt x21800)]⟩) ?_
  refine awp_turn (Turns.frz 21800 (blk0 := .lst .t_aEnt x21800) (by kernel_rfl) (by kernel_rfl) (S' := ⟨[(2, .cv (.ro .t_aEnt x21800))], []⟩) (by kernel_rfl)) ?_
  refine awp_ret ?_
  obtain rfl := Option.some.inj h
  exact er (.cv (.ro .t_aEnt x21800))
theorem replog_entries.ok {K : Nat} {p0 : List aEnt} {r : List aEnt} (h : replog_entries K p0 = some r) : PCall V P 58 [.cv (.ro .t_aEnt p0)] (.cv (.ro .t_aEnt r)) := ECall.pcall (eo (fn := Tryz.f58) (n := 24) (m := 100) fun Γ => replog_entries.body h) (by kernel_rfl)
def replog_entries_v2.l9 (K : Nat) (p0 : List aEnt) : Nat → Int → (List aEnt) → Option (List aEnt)
 | 0, _, _ => none
 | k + 1, xt9_9h, x21900 => (if xt9_9h < (p0.length : Int) then (if (0 : Int) ≤ xt9_9h ∧ (xt9_9h : Int) < (x21900.length : Int) then (if (Int.toNat xt9_9h) < x21900.length then (Option.bind (bytes_Clone_59 K ((x21900.getD (Int.toNat xt9_9h) z_aEnt).Data)) (fun a1 => replog_entries_v2.l9 K p0 k (IntKind.i64.wrap (xt9_9h + 1)) (x21900.set (Int.toNat xt9_9h) (⟨(x21900.getD (Int.toNat xt9_9h) z_aEnt).Epoch, a1⟩ : aEnt)))) else none) else none) else some x21900)
def replog_entries_v2 (K : Nat) (p0 : List aEnt) : Option (List aEnt) := (if p0.length * 32 ≤ 140737488355328 then (Option.bind (replog_entries_v2.l9 K p0 K 0 p0 : Option (List aEnt)) (fun x21800 => some x21800)) else none)
theorem replog_entries_v2.body {Γ : Ent} {K : Nat} {p0 : List aEnt} {r : List aEnt} (h : replog_entries_v2 K p0 = some r) : AWp V P 24 100 Γ (Tryz.f58.body.getD .skip) (EndsE P V Tryz.f58 (.cv (.own .t_aEnt 100)) [(100, .lst .t_aEnt r)]) ⟨args0 0 [.cv (.ro .t_aEnt p0)], []⟩ := by
 unfold replog_entries_v2 at h
 refine sr0 L 200 [] [] [] (S' := ⟨[(0, .cv (.ro .t_aEnt p0))], []⟩) ?_
 refine awp_seq ?_
 obtain ⟨g1, h⟩ := guard_some h
 refine ar L 202 [] [(1, .cv (.ron .t_aEnt p0))] [] (cs := [FCall V P 87 [.cv (.ro .t_aEnt p0)] Tag.t_aEnt p0]) (S' := ⟨[(3, .cv (.own .t_aEnt 203))], [(203, .lst .t_aEnt p0)]⟩) (slices_Clone_87.okF (show slices_Clone_87 0 p0 = some p0 from if_pos g1)) ?_
 refine awp_seq ?_
 refine sr0 L 206 [] [] [] (S' := ⟨[(3, .cv (.own .t_aEnt 203)), (8, .I (p0.length : Int)), (9, .I 0)], [(203, .lst .t_aEnt p0)]⟩) ?_
 refine awp_block ?_
 refine awp_turn (Turns.trans (Turns.kp (S' := ⟨[(3, .cv (.own .t_aEnt 203)), (8, .I (p0.length : Int)), (9, .I 0)], [(203, .lst .t_aEnt p0)]⟩)) (Turns.rn [(203, 21900)] (S' := ⟨[(3, .cv (.own .t_aEnt 21900)), (8, .I (p0.length : Int)), (9, .I 0)], [(21900, .lst .t_aEnt p0)]⟩))) ?_
 refine kp (S' := ⟨[(3, .cv (.own .t_aEnt 21900)), (8, .I (p0.length : Int)), (9, .I 0)], [(21900, .lst .t_aEnt p0)]⟩) ?_
 obtain ⟨o1, hp1, h⟩ := bind_some h
 refine awp_conseq (Q' := fun e S => (e = .exit 0 ∧ ∃ x21800 : List aEnt, S = ⟨[(3, .cv (.own .t_aEnt 21800))], [(21800, .lst .t_aEnt x21800)]⟩ ∧ x21800 = o1)) (awp_loop (fun k S => ∃ xt9_9h : Int, ∃ x21900 : List aEnt, S = ⟨[(3, .cv (.own .t_aEnt 21900)), (8, .I (p0.length : Int)), (9, .I xt9_9h)], [(21900, .lst .t_aEnt x21900)]⟩ ∧ replog_entries_v2.l9 K p0 k xt9_9h x21900 = some o1) ?_ ⟨_, _, rfl, hp1⟩) ?_
 ·clear h hp1
  intro k S hS
  obtain ⟨xt9_9h, x21900, rfl, h⟩ := hS
  cases k with
  | zero => cases h
  | succ k =>
  unfold replog_entries_v2.l9 at h
  refine sr0 L 210 [] [] [] (S' := ⟨[(3, .cv (.own .t_aEnt 21900)), (8, .I (p0.length : Int)), (9, .I xt9_9h), (10, .B (decide (xt9_9h < (p0.length : Int))))], [(21900, .lst .t_aEnt x21900)]⟩) ?_
  refine awp_seq ?_
  rcases ite_some h with ⟨c1, h⟩ | ⟨c1, h⟩
  ·refine tt (b := (decide (xt9_9h < (p0.length : Int)))) (decide_eq_true c1) ?_
   refine awp_skip' ?_
   refine awp_seq ?_
   refine awp_block ?_
   refine sr0 L 212 [] [] [] (S' := ⟨[(3, .cv (.own .t_aEnt 21900)), (4, .I xt9_9h), (8, .I (p0.length : Int)), (9, .I xt9_9h)], [(21900, .lst .t_aEnt x21900)]⟩) ?_
   obtain ⟨g2, h⟩ := guard_some h
   obtain ⟨g3, h⟩ := guard_some h
   obtain ⟨a1, ha1, h⟩ := bind_some h
   refine ar L 215 [] [(7, .cv (.ro .t_uint8 a1))] [] (cs := [(0 : Int) ≤ xt9_9h, (xt9_9h : Int) < (x21900.length : Int), (Int.toNat xt9_9h) < x21900.length, PCall V P 59 [.cv (.ro .t_uint8 ((x21900.getD (Int.toNat xt9_9h) z_aEnt).Data))] (.cv (.ro .t_uint8 a1)), True, (0 : Int) ≤ xt9_9h, (xt9_9h : Int) < (x21900.length : Int), (Int.toNat xt9_9h) < x21900.length, True]) (S' := ⟨[(3, .cv (.own .t_aEnt 21900)), (8, .I (p0.length : Int)), (9, .I xt9_9h)], [(21900, .lst .t_aEnt (x21900.set (Int.toNat xt9_9h) (⟨(x21900.getD (Int.toNat xt9_9h) z_aEnt).Epoch, a1⟩ : aEnt)))]⟩) (And.intro g2.1 (And.intro g2.2 (And.intro g3 (And.intro (bytes_Clone_59.ok ha1) (And.intro trivial (And.intro g2.1 (And.intro g2.2 (And.intro g3 trivial)))))))) ?_
   refine ar0 L 227 [] [] [] (S' := ⟨[(3, .cv (.own .t_aEnt 21900)), (8, .I (p0.length : Int)), (9, .I (IntKind.i64.wrap (xt9_9h + 1)))], [(21900, .lst .t_aEnt (x21900.set (Int.toNat xt9_9h) (⟨(x21900.getD (Int.toNat xt9_9h) z_aEnt).Epoch, a1⟩ : aEnt)))]⟩) ?_
   exact ⟨k, Nat.lt_succ_self k, _, _, rfl, h⟩
  refine ff (b := (decide (xt9_9h < (p0.length : Int)))) (decide_eq_false c1) ?_
  refine awp_turn (Turns.trans (Turns.kp (S' := ⟨[(3, .cv (.own .t_aEnt 21900))], [(21900, .lst .t_aEnt x21900)]⟩)) (Turns.rn [(21900, 21800)] (S' := ⟨[(3, .cv (.own .t_aEnt 21800))], [(21800, .lst .t_aEnt x21900)]⟩))) ?_
  refine ex (S' := ⟨[(3, .cv (.own .t_aEnt 21800))], [(21800, .lst .t_aEnt x21900)]⟩) ?_
  obtain rfl := Option.some.inj h
  exact ⟨rfl, _, rfl, rfl⟩
 ·rintro e S ⟨rfl, x21800, rfl, rfl⟩
  refine ⟨_, Turns.refl, ?_⟩
  refine sr0 L 230 [] [] [] (S' := ⟨[(2, .cv (.own .t_aEnt 21800))], [(21800, .lst .t_aEnt x21800)]⟩) ?_
  refine awp_turn (Turns.rn [(21800, 100)] (S' := ⟨[(2, .cv (.own .t_aEnt 100))], [(100, .lst .t_aEnt x21800)]⟩)) ?_
  refine awp_ret ?_
  obtain rfl := Option.some.inj h
  exact er (.cv (.own .t_aEnt 100))
theorem replog_entries_v2.okF {K : Nat} {p0 : List aEnt} {r : List aEnt} (h : replog_entries_v2 K p0 = some r) : FCall V P 58 [.cv (.ro .t_aEnt p0)] Tag.t_aEnt r := ECall.fcall (eo (fn := Tryz.f58) (n := 24) (m := 100) fun Γ => replog_entries_v2.body h)
def replog_Lead (K : Nat) (p0 : aRep) (p1 : Int) (p2 : List UInt8) : Option (aRep × Int) := (Option.bind ((Option.bind (replog_Right K p0) (fun a1 => (if a1 = true then some (decide (p1 < 1)) else some true))) : Option Bool) (fun xt8_5 => (if xt8_5 = true then some ((⟨0, 0, 0, ([] : List aEnt)⟩ : aRep), 2) else (if (p2.length : Int) > 65536 then some ((⟨0, 0, 0, ([] : List aEnt)⟩ : aRep), 6) else (if p1 ≠ p0.Epoch then some ((⟨0, 0, 0, ([] : List aEnt)⟩ : aRep), 25) else (if (p0.Log.length : Int) ≥ 5000 then some ((⟨0, 0, 0, ([] : List aEnt)⟩ : aRep), 18) else (Option.bind (replog_entries_v2 K p0.Log) (fun a2 => (Option.bind (bytes_Clone_59 K p2) (fun a3 => (if (a2.length + ([(⟨p1, a3⟩ : aEnt)] : List aEnt).length) * 32 ≤ 140737488355328 then some ((⟨p0.Epoch, p0.Vote, p0.Commit, (a2 ++ ([(⟨p1, a3⟩ : aEnt)] : List aEnt))⟩ : aRep), 0) else none)))))))))))
theorem replog_Lead.body {Γ : Ent} {K : Nat} {p0 : aRep} {p1 : Int} {p2 : List UInt8} {r : aRep × Int} (h : replog_Lead K p0 p1 p2 = some r) : AWp V P 45 100 Γ (Tryz.f29.body.getD .skip) (EndsE P V Tryz.f29 (.tup [.agg [.I r.1.Epoch, .I r.1.Vote, .I r.1.Commit, .ro .t_aEnt r.1.Log], .I r.2]) []) ⟨args0 0 [.agg (d_aRep p0), .I p1, .cv (.ro .t_uint8 p2)], []⟩ := by
 unfold replog_Lead at h
 refine sr0 L 200 [] [] [] (S' := ⟨[(1, .I p1), (2, .cv (.ro .t_uint8 p2)), (3, .P 200), (6, .P 201)], [(200, .raw (d_aRep p0)), (201, .raw [.I 0, .I 0, .I 0, .N])]⟩) ?_
 refine awp_seq ?_
 refine awp_block ?_
 obtain ⟨o1, hp1, h⟩ := bind_some h
 refine awp_seq (awp_mono (Q' := fun e S => (e = .normal ∧ ∃ xt8_5 : Bool, S = ⟨[(1, .I p1), (2, .cv (.ro .t_uint8 p2)), (3, .P 21000), (6, .P 21001), (8, .B xt8_5)], [(21000, .raw (d_aRep p0)), (21001, .raw [.I 0, .I 0, .I 0, .N])]⟩ ∧ xt8_5 = o1)) ?_ ?_)
 ·clear h
  replace h := hp1
  obtain ⟨a1, h1, h⟩ := bind_some h
  rcases ite_some h with ⟨c1, h⟩ | ⟨c1, h⟩
  ·refine awp_post (ar L 204 [(3, false)] [(1, .B a1)] [] (cs := [PCall V P 57 [.agg (d_aRep p0)] (.B a1), True, (!a1) = false]) (S' := ⟨[(1, .I p1), (2, .cv (.ro .t_uint8 p2)), (3, .P 200), (6, .P 201), (8, .B (decide (p1 < 1)))], [(200, .raw (d_aRep p0)), (201, .raw [.I 0, .I 0, .I 0, .N])]⟩) (And.intro (replog_Right.ok h1) (And.intro trivial (congrArg Bool.not (c1)))) ⟨rfl, rfl⟩) (Turns.trans (Turns.kp (S' := ⟨[(1, .I p1), (2, .cv (.ro .t_uint8 p2)), (3, .P 200), (6, .P 201), (8, .B (decide (p1 < 1)))], [(200, .raw (d_aRep p0)), (201, .raw [.I 0, .I 0, .I 0, .N])]⟩)) (Turns.trans (Turns.rn [(200, 21000), (201, 21001)] (S' := ⟨[(1, .I p1), (2, .cv (.ro .t_uint8 p2)), (3, .P 21000), (6, .P 21001), (8, .B (decide (p1 < 1)))], [(21000, .raw (d_aRep p0)), (21001, .raw [.I 0, .I 0, .I 0, .N])]⟩)) (Turns.kp (S' := ⟨[(1, .I p1), (2, .cv (.ro .t_uint8 p2)), (3, .P 21000), (6, .P 21001), (8, .B (decide (p1 < 1)))], [(21000, .raw (d_aRep p0)), (21001, .raw [.I 0, .I 0, .I 0, .N])]⟩)))) ?_
   obtain rfl := Option.some.inj h
   exact ⟨rfl, _, rfl, rfl⟩
  refine awp_post (ar L 204 [(3, true)] [(1, .B a1)] [] (cs := [PCall V P 57 [.agg (d_aRep p0)] (.B a1), True, (!a1) = true]) (S' := ⟨[(1, .I p1), (2, .cv (.ro .t_uint8 p2)), (3, .P 200), (6, .P 201), (8, .B true)], [(200, .raw (d_aRep p0)), (201, .raw [.I 0, .I 0, .I 0, .N])]⟩) (And.intro (replog_Right.ok h1) (And.intro trivial (congrArg Bool.not (eq_false_of_ne_true c1)))) ⟨rfl, rfl⟩) (Turns.trans (Turns.kp (S' := ⟨[(1, .I p1), (2, .cv (.ro .t_uint8 p2)), (3, .P 200), (6, .P 201), (8, .B true)], [(200, .raw (d_aRep p0)), (201, .raw [.I 0, .I 0, .I 0, .N])]⟩)) (Turns.trans (Turns.rn [(200, 21000), (201, 21001)] (S' := ⟨[(1, .I p1), (2, .cv (.ro .t_uint8 p2)), (3, .P 21000), (6, .P 21001), (8, .B true)], [(21000, .raw (d_aRep p0)), (21001, .raw [.I 0, .I 0, .I 0, .N])]⟩)) (Turns.kp (S' := ⟨[(1, .I p1), (2, .cv (.ro .t_uint8 p2)), (3, .P 21000), (6, .P 21001), (8, .B true)], [(21000, .raw (d_aRep p0)), (21001, .raw [.I 0, .I 0, .I 0, .N])]⟩)))) ?_
  obtain rfl := Option.some.inj h
  exact ⟨rfl, _, rfl, rfl⟩
 ·rintro e S ⟨rfl, xt8_5, rfl, rfl⟩
  rcases ite_some h with ⟨c2, h⟩ | ⟨c2, h⟩
  ·refine tt (b := xt8_5) (c2) ?_
   refine sr0 L 213 [] [] [] (S' := ⟨[(6, .P 21001), (7, .I 2)], [(21001, .raw [.I 0, .I 0, .I 0, .N])]⟩) ?_
   refine awp_turn (Turns.rn [(21001, 100)] (S' := ⟨[(6, .P 100), (7, .I 2)], [(100, .raw [.I 0, .I 0, .I 0, .N])]⟩)) ?_
   refine awp_ret ?_
   obtain rfl := Option.some.inj h
   exact er (.tup [.agg [.I 0, .I 0, .I 0, .N], .I 2])
  refine ff (b := xt8_5) (eq_false_of_ne_true c2) ?_
  refine sr0 L 217 [] [] [] (S' := ⟨[(1, .I p1), (2, .cv (.ro .t_uint8 p2)), (3, .P 21000), (6, .P 21001), (17, .B (decide ((p2.length : Int) > 65536)))], [(21000, .raw (d_aRep p0)), (21001, .raw [.I 0, .I 0, .I 0, .N])]⟩) ?_
  rcases ite_some h with ⟨c3, h⟩ | ⟨c3, h⟩
  ·refine tt (b := (decide ((p2.length : Int) > 65536))) (decide_eq_true c3) ?_
   refine sr0 L 222 [] [] [] (S' := ⟨[(6, .P 21001), (7, .I 6)], [(21001, .raw [.I 0, .I 0, .I 0, .N])]⟩) ?_
   refine awp_turn (Turns.rn [(21001, 100)] (S' := ⟨[(6, .P 100), (7, .I 6)], [(100, .raw [.I 0, .I 0, .I 0, .N])]⟩)) ?_
   refine awp_ret ?_
   obtain rfl := Option.some.inj h
   exact er (.tup [.agg [.I 0, .I 0, .I 0, .N], .I 6])
  refine ff (b := (decide ((p2.length : Int) > 65536))) (decide_eq_false c3) ?_
  refine sr0 L 226 [] [] [] (S' := ⟨[(1, .I p1), (2, .cv (.ro .t_uint8 p2)), (3, .P 21000), (6, .P 21001), (22, .B (decide (p1 ≠ p0.Epoch)))], [(21000, .raw (d_aRep p0)), (21001, .raw [.I 0, .I 0, .I 0, .N])]⟩) ?_
  rcases ite_some h with ⟨c4, h⟩ | ⟨c4, h⟩
  ·refine tt (b := (decide (p1 ≠ p0.Epoch))) (decide_eq_true c4) ?_
   refine sr0 L 232 [] [] [] (S' := ⟨[(6, .P 21001), (7, .I 25)], [(21001, .raw [.I 0, .I 0, .I 0, .N])]⟩) ?_
   refine awp_turn (Turns.rn [(21001, 100)] (S' := ⟨[(6, .P 100), (7, .I 25)], [(100, .raw [.I 0, .I 0, .I 0, .N])]⟩)) ?_
   refine awp_ret ?_
   obtain rfl := Option.some.inj h
   exact er (.tup [.agg [.I 0, .I 0, .I 0, .N], .I 25])
  refine ff (b := (decide (p1 ≠ p0.Epoch))) (decide_eq_false c4) ?_
  refine sr0 L 236 [] [] [] (S' := ⟨[(1, .I p1), (2, .cv (.ro .t_uint8 p2)), (3, .P 21000), (6, .P 21001), (28, .B (decide ((p0.Log.length : Int) ≥ 5000)))], [(21000, .raw (d_aRep p0)), (21001, .raw [.I 0, .I 0, .I 0, .N])]⟩) ?_
  rcases ite_some h with ⟨c5, h⟩ | ⟨c5, h⟩
  ·refine tt (b := (decide ((p0.Log.length : Int) ≥ 5000))) (decide_eq_true c5) ?_
   refine sr0 L 242 [] [] [] (S' := ⟨[(6, .P 21001), (7, .I 18)], [(21001, .raw [.I 0, .I 0, .I 0, .N])]⟩) ?_
   refine awp_turn (Turns.rn [(21001, 100)] (S' := ⟨[(6, .P 100), (7, .I 18)], [(100, .raw [.I 0, .I 0, .I 0, .N])]⟩)) ?_
   refine awp_ret ?_
   obtain rfl := Option.some.inj h
   exact er (.tup [.agg [.I 0, .I 0, .I 0, .N], .I 18])
  refine ff (b := (decide ((p0.Log.length : Int) ≥ 5000))) (decide_eq_false c5) ?_
  refine awp_skip' ?_
  refine awp_seq ?_
  obtain ⟨a2, h2, h⟩ := bind_some h
  obtain ⟨a3, ha3, h⟩ := bind_some h
  obtain ⟨g1, h⟩ := guard_some h
  refine ar L 246 [] [(2, .cv (.ron .t_aEnt a2)), (5, .cv (.ro .t_uint8 a3))] [] (cs := [FCall V P 58 [.cv (.ro .t_aEnt p0.Log)] Tag.t_aEnt a2, PCall V P 59 [.cv (.ro .t_uint8 p2)] (.cv (.ro .t_uint8 a3)), True, (a2.length + ([(⟨p1, a3⟩ : aEnt)] : List aEnt).length) * 32 ≤ 140737488355328, True]) (S' := ⟨[(3, .P 21000), (6, .P 21001)], [(248, .lst .t_aEnt (a2 ++ ([(⟨p1, a3⟩ : aEnt)] : List aEnt))), (21000, .raw [.I p0.Epoch, .I p0.Vote, .I p0.Commit, .own .t_aEnt 248]), (21001, .raw [.I 0, .I 0, .I 0, .N])]⟩) (And.intro (replog_entries_v2.okF h2) (And.intro (bytes_Clone_59.ok ha3) (And.intro trivial (And.intro g1 trivial)))) ?_
  refine sr0 L 258 [] [] [] (S' := ⟨[(6, .P 21001), (7, .I 0)], [(248, .lst .t_aEnt (a2 ++ ([(⟨p1, a3⟩ : aEnt)] : List aEnt))), (21001, .raw [.I p0.Epoch, .I p0.Vote, .I p0.Commit, .own .t_aEnt 248])]⟩) ?_
  refine awp_turn (Turns.trans (Turns.frz 248 (blk0 := .lst .t_aEnt (a2 ++ ([(⟨p1, a3⟩ : aEnt)] : List aEnt))) (by kernel_rfl) (by kernel_rfl) (S' := ⟨[(6, .P 21001), (7, .I 0)], [(21001, .raw [.I p0.Epoch, .I p0.Vote, .I p0.Commit, .ro .t_aEnt (a2 ++ ([(⟨p1, a3⟩ : aEnt)] : List aEnt))])]⟩) (by kernel_rfl)) (Turns.rn [(21001, 100)] (S' := ⟨[(6, .P 100), (7, .I 0)], [(100, .raw [.I p0.Epoch, .I p0.Vote, .I p0.Commit, .ro .t_aEnt (a2 ++ ([(⟨p1, a3⟩ : aEnt)] : List aEnt))])]⟩))) ?_
  refine awp_ret ?_
  obtain rfl := Option.some.inj h
  exact er (.tup [.agg [.I p0.Epoch, .I p0.Vote, .I p0.Commit, .ro .t_aEnt (a2 ++ ([(⟨p1, a3⟩ : aEnt)] : List aEnt))], .I 0])
theorem replog_Lead.ok {K : Nat} {p0 : aRep} {p1 : Int} {p2 : List UInt8} {r : aRep × Int} (h : replog_Lead K p0 p1 p2 = some r) : PCall V P 29 [.agg (d_aRep p0), .I p1, .cv (.ro .t_uint8 p2)] (.tup [.agg [.I r.1.Epoch, .I r.1.Vote, .I r.1.Commit, .ro .t_aEnt r.1.Log], .I r.2]) := ECall.pcall (eo (fn := Tryz.f29) (n := 45) (m := 100) fun Γ => replog_Lead.body h) (by kernel_rfl)
def bytes_Equal (K : Nat) (p0 : List UInt8) (p1 : List UInt8) : Option Bool := some (decide ((p0.map (fun b => b)) = (p1.map (fun b => b))))
theorem bytes_Equal.body {Γ : Ent} {K : Nat} {p0 : List UInt8} {p1 : List UInt8} {r : Bool} (h : bytes_Equal K p0 p1 = some r) : AWp V P 10 100 Γ (Tryz.f90.body.getD .skip) (EndsE P V Tryz.f90 (.B r) []) ⟨args0 0 [.cv (.ro .t_uint8 p0), .cv (.ro .t_uint8 p1)], []⟩ := by
 unfold bytes_Equal at h
 refine sr0 L 200 [] [] [] (S' := ⟨[(0, .cv (.ro .t_uint8 p0)), (1, .cv (.ro .t_uint8 p1))], []⟩) ?_
 refine sr0 L 202 [] [] [] (S' := ⟨[(4, .B (decide ((p0.map (fun b => b)) = (p1.map (fun b => b)))))], []⟩) ?_
 refine awp_ret ?_
 obtain rfl := Option.some.inj h
 exact er (.B (decide ((p0.map (fun b => b)) = (p1.map (fun b => b)))))
theorem bytes_Equal.ok {K : Nat} {p0 : List UInt8} {p1 : List UInt8} {r : Bool} (h : bytes_Equal K p0 p1 = some r) : PCall V P 90 [.cv (.ro .t_uint8 p0), .cv (.ro .t_uint8 p1)] (.B r) := ECall.pcall (eo (fn := Tryz.f90) (n := 10) (m := 100) fun Γ => bytes_Equal.body h) (by kernel_rfl)
def replog_agree (K : Nat) (p0 : aEnt) (p1 : aEnt) : Option Bool := (if p0.Epoch = p1.Epoch then (Option.bind (bytes_Equal K p0.Data p1.Data) (fun a1 => some a1)) else some false)
theorem replog_agree.body {Γ : Ent} {K : Nat} {p0 : aEnt} {p1 : aEnt} {r : Bool} (h : replog_agree K p0 p1 = some r) : AWp V P 17 100 Γ (Tryz.f65.body.getD .skip) (EndsE P V Tryz.f65 (.B r) []) ⟨args0 0 [.agg (d_aEnt p0), .agg (d_aEnt p1)], []⟩ := by
 unfold replog_agree at h
 refine sr0 L 200 [] [] [] (S' := ⟨[(2, .P 200), (3, .P 201)], [(200, .raw (d_aEnt p0)), (201, .raw (d_aEnt p1))]⟩) ?_
 refine awp_seq ?_
 rcases ite_some h with ⟨c1, h⟩ | ⟨c1, h⟩
 ·obtain ⟨a1, h1, h⟩ := bind_some h
  refine ar L 204 [(5, true)] [(10, .B a1)] [] (cs := [(decide (p0.Epoch = p1.Epoch)) = true, PCall V P 90 [.cv (.ro .t_uint8 p0.Data), .cv (.ro .t_uint8 p1.Data)] (.B a1), True]) (S' := ⟨[(4, .B a1)], []⟩) (And.intro (decide_eq_true c1) (And.intro (bytes_Equal.ok h1) trivial)) ?_
  refine awp_ret ?_
  obtain rfl := Option.some.inj h
  exact er (.B a1)
 refine ar L 204 [(5, false)] [] [] (cs := [(decide (p0.Epoch = p1.Epoch)) = false]) (S' := ⟨[(4, .B false)], []⟩) (decide_eq_false c1) ?_
 refine awp_ret ?_
 obtain rfl := Option.some.inj h
 exact er (.B false)
theorem replog_agree.ok {K : Nat} {p0 : aEnt} {p1 : aEnt} {r : Bool} (h : replog_agree K p0 p1 = some r) : PCall V P 65 [.agg (d_aEnt p0), .agg (d_aEnt p1)] (.B r) := ECall.pcall (eo (fn := Tryz.f65) (n := 17) (m := 100) fun Γ => replog_agree.body h) (by kernel_rfl)
def replog_Common.l7 (K : Nat) (p0 : aRep) (p1 : aRep) : Nat → Int → Option Int
 | 0, _ => none
 | k + 1, xt5_7h => (if xt5_7h < (p0.Log.length : Int) then (if xt5_7h < (p1.Log.length : Int) then (if (0 : Int) ≤ xt5_7h ∧ (xt5_7h : Int) < (p0.Log.length : Int) then (if (xt5_7h : Int) < (p1.Log.length : Int) then (Option.bind (replog_agree K (p0.Log.getD (Int.toNat xt5_7h) z_aEnt) (p1.Log.getD (Int.toNat xt5_7h) z_aEnt)) (fun a1 => (if a1 = true then replog_Common.l7 K p0 p1 k (IntKind.i64.wrap (xt5_7h + 1)) else some xt5_7h))) else none) else none) else some xt5_7h) else some xt5_7h)
def replog_Common (K : Nat) (p0 : aRep) (p1 : aRep) : Option Int := (Option.bind (replog_Common.l7 K p0 p1 K 0 : Option Int) (fun xt5_7 => some xt5_7))
theorem replog_Common.body {Γ : Ent} {K : Nat} {p0 : aRep} {p1 : aRep} {r : Int} (h : replog_Common K p0 p1 = some r) : AWp V P 34 100 Γ (Tryz.f32.body.getD .skip) (EndsE P V Tryz.f32 (.I r) []) ⟨args0 0 [.agg (d_aRep p0), .agg (d_aRep p1)], []⟩ := by
 unfold replog_Common at h
 refine sr0 L 200 [] [] [] (S' := ⟨[(2, .P 200), (3, .P 201)], [(200, .raw (d_aRep p0)), (201, .raw (d_aRep p1))]⟩) ?_
 refine sr0 L 204 [] [] [] (S' := ⟨[(2, .P 200), (3, .P 201), (5, .I 0)], [(200, .raw (d_aRep p0)), (201, .raw (d_aRep p1))]⟩) ?_
 refine awp_seq ?_
 refine awp_block ?_
 refine awp_turn (Turns.trans (Turns.kp (S' := ⟨[(2, .P 200), (3, .P 201), (5, .I 0)], [(200, .raw (d_aRep p0)), (201, .raw (d_aRep p1))]⟩)) (Turns.rn [(200, 21500), (201, 21501)] (S' := ⟨[(2, .P 21500), (3, .P 21501), (5, .I 0)], [(21500, .raw (d_aRep p0)), (21501, .raw (d_aRep p1))]⟩))) ?_
 refine kp (S' := ⟨[(2, .P 21500), (3, .P 21501), (5, .I 0)], [(21500, .raw (d_aRep p0)), (21501, .raw (d_aRep p1))]⟩) ?_
 obtain ⟨o1, hp1, h⟩ := bind_some h
 refine awp_conseq (Q' := fun e S => (e = .exit 0 ∧ ∃ xt5_7 : Int, S = ⟨[(5, .I xt5_7)], []⟩ ∧ xt5_7 = o1)) (awp_loop (fun k S => ∃ xt5_7h : Int, S = ⟨[(2, .P 21500), (3, .P 21501), (5, .I xt5_7h)], [(21500, .raw (d_aRep p0)), (21501, .raw (d_aRep p1))]⟩ ∧ replog_Common.l7 K p0 p1 k xt5_7h = some o1) ?_ ⟨_, rfl, hp1⟩) ?_
 ·clear h hp1
  intro k S hS
  obtain ⟨xt5_7h, rfl, h⟩ := hS
  cases k with
  | zero => cases h
  | succ k =>
  unfold replog_Common.l7 at h
  refine awp_seq ?_
  refine awp_seq ?_
  rcases ite_some h with ⟨c1, h⟩ | ⟨c1, h⟩
  ·rcases ite_some h with ⟨c2, h⟩ | ⟨c2, h⟩
   ·obtain ⟨g1, h⟩ := guard_some h
    obtain ⟨g2, h⟩ := guard_some h
    obtain ⟨a1, h1, h⟩ := bind_some h
    refine ad L mixed 206 [(5, true), (12, true)] [(23, .B a1)] [] [] 25 (cs := [(decide (xt5_7h < (p0.Log.length : Int))) = true, (decide (xt5_7h < (p1.Log.length : Int))) = true, (0 : Int) ≤ xt5_7h, (xt5_7h : Int) < (p0.Log.length : Int), (0 : Int) ≤ xt5_7h, (xt5_7h : Int) < (p1.Log.length : Int), PCall V P 65 [.agg (d_aEnt (p0.Log.getD (Int.toNat xt5_7h) z_aEnt)), .agg (d_aEnt (p1.Log.getD (Int.toNat xt5_7h) z_aEnt))] (.B a1), True]) (S' := ⟨[(2, .P 21500), (3, .P 21501), (5, .I xt5_7h), (30, .B a1)], [(21500, .raw (d_aRep p0)), (21501, .raw (d_aRep p1))]⟩) (And.intro (decide_eq_true c1) (And.intro (decide_eq_true c2) (And.intro g1.1 (And.intro g1.2 (And.intro g1.1 (And.intro g2 (And.intro (replog_agree.ok h1) trivial))))))) ?_
    rcases ite_some h with ⟨c3, h⟩ | ⟨c3, h⟩
    ·refine tt (b := a1) (c3) ?_
     refine awp_skip' ?_
     refine awp_block ?_
     refine ar0 L 232 [] [] [] (S' := ⟨[(2, .P 21500), (3, .P 21501), (5, .I (IntKind.i64.wrap (xt5_7h + 1)))], [(21500, .raw (d_aRep p0)), (21501, .raw (d_aRep p1))]⟩) ?_
     exact ⟨k, Nat.lt_succ_self k, _, rfl, h⟩
    refine ff (b := a1) (eq_false_of_ne_true c3) ?_
    refine ex (S' := ⟨[(5, .I xt5_7h)], []⟩) ?_
    obtain rfl := Option.some.inj h
    exact ⟨rfl, _, rfl, rfl⟩
   refine ad L mixed 206 [(5, true), (12, false)] [] [] [] 25 (cs := [(decide (xt5_7h < (p0.Log.length : Int))) = true, (decide (xt5_7h < (p1.Log.length : Int))) = false]) (S' := ⟨[(2, .P 21500), (3, .P 21501), (5, .I xt5_7h), (30, .B false)], [(21500, .raw (d_aRep p0)), (21501, .raw (d_aRep p1))]⟩) (And.intro (decide_eq_true c1) (decide_eq_false c2)) ?_
   refine ff (b := false) (rfl) ?_
   refine ex (S' := ⟨[(5, .I xt5_7h)], []⟩) ?_
   obtain rfl := Option.some.inj h
   exact ⟨rfl, _, rfl, rfl⟩
  refine ad L mixed 206 [(5, false)] [] [] [] 25 (cs := [(decide (xt5_7h < (p0.Log.length : Int))) = false]) (S' := ⟨[(2, .P 21500), (3, .P 21501), (5, .I xt5_7h), (30, .B false)], [(21500, .raw (d_aRep p0)), (21501, .raw (d_aRep p1))]⟩) (decide_eq_false c1) ?_
  refine ff (b := false) (rfl) ?_
  refine ex (S' := ⟨[(5, .I xt5_7h)], []⟩) ?_
  obtain rfl := Option.some.inj h
  exact ⟨rfl, _, rfl, rfl⟩
 ·rintro e S ⟨rfl, xt5_7, rfl, rfl⟩
  refine ⟨_, Turns.refl, ?_⟩
  refine sr0 L 236 [] [] [] (S' := ⟨[(4, .I xt5_7)], []⟩) ?_
  refine awp_ret ?_
  obtain rfl := Option.some.inj h
  exact er (.I xt5_7)
theorem replog_Common.ok {K : Nat} {p0 : aRep} {p1 : aRep} {r : Int} (h : replog_Common K p0 p1 = some r) : PCall V P 32 [.agg (d_aRep p0), .agg (d_aRep p1)] (.I r) := ECall.pcall (eo (fn := Tryz.f32) (n := 34) (m := 100) fun Γ => replog_Common.body h) (by kernel_rfl)
def replog_suits (K : Nat) (p0 : aRep) (p1 : Int) (p2 : Int) (p3 : Int) (p4 : List aEnt) (p5 : Int) : Option Bool := (Option.bind (replog_Right K p0) (fun a1 => (if a1 = true then (Option.bind (replog_in K p1 1 1099511627776) (fun a2 => (if a2 = true then (Option.bind (replog_in K p2 0 5000) (fun a3 => (if a3 = true then (if p3 ≥ 0 then (if ((decide (p2 = 0)) == (decide (p3 = 0))) = true then (if p5 ≥ 0 then (Option.bind (replog_rising K p4 p3 p1) (fun a4 => some a4)) else some false) else some false) else some false) else some false))) else some false))) else some false)))
theorem replog_suits.body {Γ : Ent} {K : Nat} {p0 : aRep} {p1 : Int} {p2 : Int} {p3 : Int} {p4 : List aEnt} {p5 : Int} {r : Bool} (h : replog_suits K p0 p1 p2 p3 p4 p5 = some r) : AWp V P 44 100 Γ (Tryz.f96.body.getD .skip) (EndsE P V Tryz.f96 (.B r) []) ⟨args0 0 [.agg (d_aRep p0), .I p1, .I p2, .I p3, .cv (.ro .t_aEnt p4), .I p5], []⟩ := by
 unfold replog_suits at h
 refine sr0 L 200 [] [] [] (S' := ⟨[(1, .I p1), (2, .I p2), (3, .I p3), (4, .cv (.ro .t_aEnt p4)), (5, .I p5), (6, .P 200)], [(200, .raw (d_aRep p0))]⟩) ?_
 refine awp_seq ?_
 obtain ⟨a1, h1, h⟩ := bind_some h
 rcases ite_some h with ⟨c1, h⟩ | ⟨c1, h⟩
 ·obtain ⟨a2, h2, h⟩ := bind_some h
  rcases ite_some h with ⟨c2, h⟩ | ⟨c2, h⟩
  ·obtain ⟨a3, h3, h⟩ := bind_some h
   rcases ite_some h with ⟨c3, h⟩ | ⟨c3, h⟩
   ·rcases ite_some h with ⟨c4, h⟩ | ⟨c4, h⟩
    ·rcases ite_some h with ⟨c5, h⟩ | ⟨c5, h⟩
     ·rcases ite_some h with ⟨c6, h⟩ | ⟨c6, h⟩
      ·obtain ⟨a4, h4, h⟩ := bind_some h
       refine ar L 203 [(2, true), (6, true), (10, true), (14, true), (21, true), (25, true)] [(1, .B a1), (4, .B a2), (8, .B a3), (29, .B a4)] [] (cs := [PCall V P 57 [.agg (d_aRep p0)] (.B a1), True, a1 = true, PCall V P 85 [.I p1, .I 1, .I 1099511627776] (.B a2), True, a2 = true, PCall V P 85 [.I p2, .I 0, .I 5000] (.B a3), True, a3 = true, (decide (p3 ≥ 0)) = true, ((decide (p2 = 0)) == (decide (p3 = 0))) = true, (decide (p5 ≥ 0)) = true, PCall V P 86 [.cv (.ro .t_aEnt p4), .I p3, .I p1] (.B a4), True]) (S' := ⟨[(12, .B a4)], []⟩) (And.intro (replog_Right.ok h1) (And.intro trivial (And.intro c1 (And.intro (replog_in.ok h2) (And.intro trivial (And.intro c2 (And.intro (replog_in.ok h3) (And.intro trivial (And.intro c3 (And.intro (decide_eq_true c4) (And.intro c5 (And.intro (decide_eq_true c6) (And.intro (replog_rising.ok h4) trivial))))))))))))) ?_
       refine awp_ret ?_
       obtain rfl := Option.some.inj h
       exact er (.B a4)
      refine ar L 203 [(2, true), (6, true), (10, true), (14, true), (21, true), (25, false)] [(1, .B a1), (4, .B a2), (8, .B a3)] [] (cs := [PCall V P 57 [.agg (d_aRep p0)] (.B a1), True, a1 = true, PCall V P 85 [.I p1, .I 1, .I 1099511627776] (.B a2), True, a2 = true, PCall V P 85 [.I p2, .I 0, .I 5000] (.B a3), True, a3 = true, (decide (p3 ≥ 0)) = true, ((decide (p2 = 0)) == (decide (p3 = 0))) = true, (decide (p5 ≥ 0)) = false]) (S' := ⟨[(12, .B false)], []⟩) (And.intro (replog_Right.ok h1) (And.intro trivial (And.intro c1 (And.intro (replog_in.ok h2) (And.intro trivial (And.intro c2 (And.intro (replog_in.ok h3) (And.intro trivial (And.intro c3 (And.intro (decide_eq_true c4) (And.intro c5 (decide_eq_false c6)))))))))))) ?_
      refine awp_ret ?_
      obtain rfl := Option.some.inj h
      exact er (.B false)
     refine ar L 203 [(2, true), (6, true), (10, true), (14, true), (21, false)] [(1, .B a1), (4, .B a2), (8, .B a3)] [] (cs := [PCall V P 57 [.agg (d_aRep p0)] (.B a1), True, a1 = true, PCall V P 85 [.I p1, .I 1, .I 1099511627776] (.B a2), True, a2 = true, PCall V P 85 [.I p2, .I 0, .I 5000] (.B a3), True, a3 = true, (decide (p3 ≥ 0)) = true, ((decide (p2 = 0)) == (decide (p3 = 0))) = false]) (S' := ⟨[(12, .B false)], []⟩) (And.intro (replog_Right.ok h1) (And.intro trivial (And.intro c1 (And.intro (replog_in.ok h2) (And.intro trivial (And.intro c2 (And.intro (replog_in.ok h3) (And.intro trivial (And.intro c3 (And.intro (decide_eq_true c4) (eq_false_of_ne_true c5))))))))))) ?_
     refine awp_ret ?_
     obtain rfl := Option.some.inj h
     exact er (.B false)
    refine ar L 203 [(2, true), (6, true), (10, true), (14, false)] [(1, .B a1), (4, .B a2), (8, .B a3)] [] (cs := [PCall V P 57 [.agg (d_aRep p0)] (.B a1), True, a1 = true, PCall V P 85 [.I p1, .I 1, .I 1099511627776] (.B a2), True, a2 = true, PCall V P 85 [.I p2, .I 0, .I 5000] (.B a3), True, a3 = true, (decide (p3 ≥ 0)) = false]) (S' := ⟨[(12, .B false)], []⟩) (And.intro (replog_Right.ok h1) (And.intro trivial (And.intro c1 (And.intro (replog_in.ok h2) (And.intro trivial (And.intro c2 (And.intro (replog_in.ok h3) (And.intro trivial (And.intro c3 (decide_eq_false c4)))))))))) ?_
    refine awp_ret ?_
    obtain rfl := Option.some.inj h
    exact er (.B false)
   refine ar L 203 [(2, true), (6, true), (10, false)] [(1, .B a1), (4, .B a2), (8, .B a3)] [] (cs := [PCall V P 57 [.agg (d_aRep p0)] (.B a1), True, a1 = true, PCall V P 85 [.I p1, .I 1, .I 1099511627776] (.B a2), True, a2 = true, PCall V P 85 [.I p2, .I 0, .I 5000] (.B a3), True, a3 = false]) (S' := ⟨[(12, .B false)], []⟩) (And.intro (replog_Right.ok h1) (And.intro trivial (And.intro c1 (And.intro (replog_in.ok h2) (And.intro trivial (And.intro c2 (And.intro (replog_in.ok h3) (And.intro trivial (eq_false_of_ne_true c3))))))))) ?_
   refine awp_ret ?_
   obtain rfl := Option.some.inj h
   exact er (.B false)
  refine ar L 203 [(2, true), (6, false)] [(1, .B a1), (4, .B a2)] [] (cs := [PCall V P 57 [.agg (d_aRep p0)] (.B a1), True, a1 = true, PCall V P 85 [.I p1, .I 1, .I 1099511627776] (.B a2), True, a2 = false]) (S' := ⟨[(12, .B false)], []⟩) (And.intro (replog_Right.ok h1) (And.intro trivial (And.intro c1 (And.intro (replog_in.ok h2) (And.intro trivial (eq_false_of_ne_true c2)))))) ?_
  refine awp_ret ?_
  obtain rfl := Option.some.inj h
  exact er (.B false)
 refine ar L 203 [(2, false)] [(1, .B a1)] [] (cs := [PCall V P 57 [.agg (d_aRep p0)] (.B a1), True, a1 = false]) (S' := ⟨[(12, .B false)], []⟩) (And.intro (replog_Right.ok h1) (And.intro trivial (eq_false_of_ne_true c1))) ?_
 refine awp_ret ?_
 obtain rfl := Option.some.inj h
 exact er (.B false)
theorem replog_suits.ok {K : Nat} {p0 : aRep} {p1 : Int} {p2 : Int} {p3 : Int} {p4 : List aEnt} {p5 : Int} {r : Bool} (h : replog_suits K p0 p1 p2 p3 p4 p5 = some r) : PCall V P 96 [.agg (d_aRep p0), .I p1, .I p2, .I p3, .cv (.ro .t_aEnt p4), .I p5] (.B r) := ECall.pcall (eo (fn := Tryz.f96) (n := 44) (m := 100) fun Γ => replog_suits.body h) (by kernel_rfl)
def replog_Accept.l28 (K : Nat) (p0 : aRep) (p2 : Int) (p4 : List aEnt) : Nat → Int → Option Int
 | 0, _ => none
 | k + 1, xt14_28h => (if xt14_28h < (p4.length : Int) then (if (IntKind.i64.wrap (p2 + xt14_28h)) < (p0.Log.length : Int) then (if (0 : Int) ≤ xt14_28h ∧ (xt14_28h : Int) < (p4.length : Int) then (if (0 : Int) ≤ (IntKind.i64.wrap (p2 + xt14_28h)) ∧ ((IntKind.i64.wrap (p2 + xt14_28h)) : Int) < (p0.Log.length : Int) then (Option.bind (replog_agree K (p4.getD (Int.toNat xt14_28h) z_aEnt) (p0.Log.getD (Int.toNat (IntKind.i64.wrap (p2 + xt14_28h))) z_aEnt)) (fun a2 => (if a2 = true then replog_Accept.l28 K p0 p2 p4 k (IntKind.i64.wrap (xt14_28h + 1)) else some xt14_28h))) else none) else none) else some xt14_28h) else some xt14_28h)
def replog_Accept (K : Nat) (p0 : aRep) (p1 : Int) (p2 : Int) (p3 : Int) (p4 : List aEnt) (p5 : Int) : Option (aRep × Int) := (obind (((Option.bind (replog_suits K p0 p1 p2 p3 p4 p5) (fun a1 => (if a1 = true then (if p1 < p0.Epoch then some (Out.done ((⟨0, 0, 0, ([] : List aEnt)⟩ : aRep), 25)) else (if (p0.Log.length : Int) < p2 then some (Out.done ((⟨0, 0, 0, ([] : List aEnt)⟩ : aRep), 26)) else (if p2 > 0 then (if (0 : Int) ≤ (IntKind.i64.wrap (p2 - 1)) ∧ ((IntKind.i64.wrap (p2 - 1)) : Int) < (p0.Log.length : Int) then (if (p0.Log.getD (Int.toNat (IntKind.i64.wrap (p2 - 1))) z_aEnt).Epoch ≠ p3 then some (Out.done ((⟨0, 0, 0, ([] : List aEnt)⟩ : aRep), 26)) else some (Out.go ())) else none) else some (Out.go ())))) else some (Out.done ((⟨0, 0, 0, ([] : List aEnt)⟩ : aRep), 2)))))) : Option (Out (aRep × Int) Unit)) (fun r => r) (fun _ => (Option.bind (replog_Accept.l28 K p0 p2 p4 K 0 : Option Int) (fun xt14_28 => (Option.bind ((if xt14_28 < (p4.length : Int) then some (decide ((IntKind.i64.wrap (p2 + xt14_28)) < (p0.Log.length : Int))) else some false) : Option Bool) (fun xt15_37 => (Option.bind ((if xt15_37 = true then some (decide ((IntKind.i64.wrap (p2 + xt14_28)) < p0.Commit)) else some false) : Option Bool) (fun xt97_41 => (if xt97_41 = true then some ((⟨0, 0, 0, ([] : List aEnt)⟩ : aRep), 16) else (if (p4.length : Int) > (IntKind.i64.wrap (5000 - p2)) then some ((⟨0, 0, 0, ([] : List aEnt)⟩ : aRep), 18) else (Option.bind ((if p1 > p0.Epoch then some (-1) else some p0.Vote) : Option Int) (fun x31202_1 => (if xt15_37 = true then (if (0 : Int) ≤ p2 ∧ p2 ≤ (p0.Log.length : Int) then (Option.bind (replog_entries_v2 K (slc p0.Log 0 p2)) (fun a3 => (Option.bind (replog_entries K p4) (fun a4 => (if (a3.length + a4.length) * 32 ≤ 140737488355328 then some (((⟨p1, x31202_1, (if (if (IntKind.i64.wrap (p2 + (p4.length : Int))) < p5 then (IntKind.i64.wrap (p2 + (p4.length : Int))) else p5) > p0.Commit then (if (IntKind.i64.wrap (p2 + (p4.length : Int))) < p5 then (IntKind.i64.wrap (p2 + (p4.length : Int))) else p5) else p0.Commit), (a3 ++ a4)⟩ : aRep), 0)) else none))))) else none) else (Option.bind (replog_entries_v2 K p0.Log) (fun a5 => (if (0 : Int) ≤ xt14_28 ∧ xt14_28 ≤ (p4.length : Int) then (Option.bind (replog_entries K (slc p4 xt14_28 (p4.length : Int))) (fun a6 => (if (a5.length + a6.length) * 32 ≤ 140737488355328 then some (((⟨p1, x31202_1, (if (if (IntKind.i64.wrap (p2 + (p4.length : Int))) < p5 then (IntKind.i64.wrap (p2 + (p4.length : Int))) else p5) > p0.Commit then (if (IntKind.i64.wrap (p2 + (p4.length : Int))) < p5 then (IntKind.i64.wrap (p2 + (p4.length : Int))) else p5) else p0.Commit), (a5 ++ a6)⟩ : aRep), 0)) else none))) else none))))))))))))))))
theorem replog_Accept.body {Γ : Ent} {K : Nat} {p0 : aRep} {p1 : Int} {p2 : Int} {p3 : Int} {p4 : List aEnt} {p5 : Int} {r : aRep × Int} (h : replog_Accept K p0 p1 p2 p3 p4 p5 = some r) : AWp V P 153 100 Γ (Tryz.f88.body.getD .skip) (EndsE P V Tryz.f88 (.tup [.agg [.I r.1.Epoch, .I r.1.Vote, .I r.1.Commit, .ro .t_aEnt r.1.Log], .I r.2]) []) ⟨args0 0 [.agg (d_aRep p0), .I p1, .I p2, .I p3, .cv (.ro .t_aEnt p4), .I p5], []⟩ := by
 unfold replog_Accept at h
 refine sr0 L 200 [] [] [] (S' := ⟨[(1, .I p1), (2, .I p2), (3, .I p3), (4, .cv (.ro .t_aEnt p4)), (5, .I p5), (6, .P 200), (12, .P 201)], [(200, .raw (d_aRep p0)), (201, .raw [.I 0, .I 0, .I 0, .N])]⟩) ?_
 obtain ⟨o1, hp1, h⟩ := obind_some h
 refine awp_seq (awp_mono (Q' := fun e S => (e = .normal ∧ S = ⟨[(1, .I p1), (2, .I p2), (4, .cv (.ro .t_aEnt p4)), (5, .I p5), (6, .P 20600), (12, .P 20601)], [(20600, .raw (d_aRep p0)), (20601, .raw [.I 0, .I 0, .I 0, .N])]⟩ ∧ Out.go () = o1) ∨ (e = .ret ∧ ∃ a, Out.done a = o1 ∧ EndsE P V Tryz.f88 (.tup [.agg [.I a.1.Epoch, .I a.1.Vote, .I a.1.Commit, .ro .t_aEnt a.1.Log], .I a.2]) [] .ret S)) ?_ ?_)
 ·clear h
  replace h := hp1
  refine awp_block ?_
  refine awp_seq ?_
  obtain ⟨a1, h1, h⟩ := bind_some h
  refine ar L 204 [] [(6, .B a1)] [] (cs := [PCall V P 96 [.agg (d_aRep p0), .I p1, .I p2, .I p3, .cv (.ro .t_aEnt p4), .I p5] (.B a1), True]) (S' := ⟨[(1, .I p1), (2, .I p2), (3, .I p3), (4, .cv (.ro .t_aEnt p4)), (5, .I p5), (6, .P 200), (12, .P 201), (17, .B (!a1))], [(200, .raw (d_aRep p0)), (201, .raw [.I 0, .I 0, .I 0, .N])]⟩) (And.intro (replog_suits.ok h1) trivial) ?_
  rcases ite_some h with ⟨c1, h⟩ | ⟨c1, h⟩
  ·refine ff (b := (!a1)) (congrArg Bool.not (c1)) ?_
   refine sr0 L 218 [] [] [] (S' := ⟨[(1, .I p1), (2, .I p2), (3, .I p3), (4, .cv (.ro .t_aEnt p4)), (5, .I p5), (6, .P 200), (12, .P 201), (27, .B (decide (p1 < p0.Epoch)))], [(200, .raw (d_aRep p0)), (201, .raw [.I 0, .I 0, .I 0, .N])]⟩) ?_
   rcases ite_some h with ⟨c2, h⟩ | ⟨c2, h⟩
   ·refine tt (b := (decide (p1 < p0.Epoch))) (decide_eq_true c2) ?_
    refine sr0 L 224 [] [] [] (S' := ⟨[(12, .P 201), (13, .I 25)], [(201, .raw [.I 0, .I 0, .I 0, .N])]⟩) ?_
    refine awp_turn (Turns.rn [(201, 100)] (S' := ⟨[(12, .P 100), (13, .I 25)], [(100, .raw [.I 0, .I 0, .I 0, .N])]⟩)) ?_
    refine awp_ret ?_
    obtain rfl := Option.some.inj h
    exact .inr ⟨rfl, _, rfl, er (.tup [.agg [.I 0, .I 0, .I 0, .N], .I 25])⟩
   refine ff (b := (decide (p1 < p0.Epoch))) (decide_eq_false c2) ?_
   refine awp_seq ?_
   rcases ite_some h with ⟨c3, h⟩ | ⟨c3, h⟩
   ·refine ar L 228 [(5, true)] [] [] (cs := [(decide ((p0.Log.length : Int) < p2)) = true]) (S' := ⟨[(1, .I p1), (2, .I p2), (4, .cv (.ro .t_aEnt p4)), (5, .I p5), (6, .P 200), (12, .P 201), (33, .B true)], [(200, .raw (d_aRep p0)), (201, .raw [.I 0, .I 0, .I 0, .N])]⟩) (decide_eq_true c3) ?_
    refine tt (b := true) (rfl) ?_
    refine sr0 L 250 [] [] [] (S' := ⟨[(12, .P 201), (13, .I 26)], [(201, .raw [.I 0, .I 0, .I 0, .N])]⟩) ?_
    refine awp_turn (Turns.rn [(201, 100)] (S' := ⟨[(12, .P 100), (13, .I 26)], [(100, .raw [.I 0, .I 0, .I 0, .N])]⟩)) ?_
    refine awp_ret ?_
    obtain rfl := Option.some.inj h
    exact .inr ⟨rfl, _, rfl, er (.tup [.agg [.I 0, .I 0, .I 0, .N], .I 26])⟩
   rcases ite_some h with ⟨c4, h⟩ | ⟨c4, h⟩
   ·obtain ⟨g1, h⟩ := guard_some h
    refine ar L 228 [(5, false), (8, true)] [] [] (cs := [(decide ((p0.Log.length : Int) < p2)) = false, (decide (p2 > 0)) = true, (0 : Int) ≤ (IntKind.i64.wrap (p2 - 1)), ((IntKind.i64.wrap (p2 - 1)) : Int) < (p0.Log.length : Int)]) (S' := ⟨[(1, .I p1), (2, .I p2), (4, .cv (.ro .t_aEnt p4)), (5, .I p5), (6, .P 200), (12, .P 201), (33, .B ((decide ((p0.Log.getD (Int.toNat (IntKind.i64.wrap (p2 - 1))) z_aEnt).Epoch ≠ p3))))], [(200, .raw (d_aRep p0)), (201, .raw [.I 0, .I 0, .I 0, .N])]⟩) (And.intro (decide_eq_false c3) (And.intro (decide_eq_true c4) (And.intro g1.1 g1.2))) ?_
    rcases ite_some h with ⟨c5, h⟩ | ⟨c5, h⟩
    ·refine tt (b := (decide ((p0.Log.getD (Int.toNat (IntKind.i64.wrap (p2 - 1))) z_aEnt).Epoch ≠ p3))) (decide_eq_true c5) ?_
     refine sr0 L 250 [] [] [] (S' := ⟨[(12, .P 201), (13, .I 26)], [(201, .raw [.I 0, .I 0, .I 0, .N])]⟩) ?_
     refine awp_turn (Turns.rn [(201, 100)] (S' := ⟨[(12, .P 100), (13, .I 26)], [(100, .raw [.I 0, .I 0, .I 0, .N])]⟩)) ?_
     refine awp_ret ?_
     obtain rfl := Option.some.inj h
     exact .inr ⟨rfl, _, rfl, er (.tup [.agg [.I 0, .I 0, .I 0, .N], .I 26])⟩
    refine ff (b := (decide ((p0.Log.getD (Int.toNat (IntKind.i64.wrap (p2 - 1))) z_aEnt).Epoch ≠ p3))) (decide_eq_false c5) ?_
    refine awp_turn (Turns.trans (Turns.kp (S' := ⟨[(1, .I p1), (2, .I p2), (4, .cv (.ro .t_aEnt p4)), (5, .I p5), (6, .P 200), (12, .P 201)], [(200, .raw (d_aRep p0)), (201, .raw [.I 0, .I 0, .I 0, .N])]⟩)) (Turns.rn [(200, 20600), (201, 20601)] (S' := ⟨[(1, .I p1), (2, .I p2), (4, .cv (.ro .t_aEnt p4)), (5, .I p5), (6, .P 20600), (12, .P 20601)], [(20600, .raw (d_aRep p0)), (20601, .raw [.I 0, .I 0, .I 0, .N])]⟩))) ?_
    refine sk (S' := ⟨[(1, .I p1), (2, .I p2), (4, .cv (.ro .t_aEnt p4)), (5, .I p5), (6, .P 20600), (12, .P 20601)], [(20600, .raw (d_aRep p0)), (20601, .raw [.I 0, .I 0, .I 0, .N])]⟩) ?_
    obtain rfl := Option.some.inj h
    exact .inl ⟨rfl, rfl, rfl⟩
   refine ar L 228 [(5, false), (8, false)] [] [] (cs := [(decide ((p0.Log.length : Int) < p2)) = false, (decide (p2 > 0)) = false]) (S' := ⟨[(1, .I p1), (2, .I p2), (4, .cv (.ro .t_aEnt p4)), (5, .I p5), (6, .P 200), (12, .P 201), (33, .B false)], [(200, .raw (d_aRep p0)), (201, .raw [.I 0, .I 0, .I 0, .N])]⟩) (And.intro (decide_eq_false c3) (decide_eq_false c4)) ?_
   refine ff (b := false) (rfl) ?_
   refine awp_turn (Turns.trans (Turns.kp (S' := ⟨[(1, .I p1), (2, .I p2), (4, .cv (.ro .t_aEnt p4)), (5, .I p5), (6, .P 200), (12, .P 201)], [(200, .raw (d_aRep p0)), (201, .raw [.I 0, .I 0, .I 0, .N])]⟩)) (Turns.rn [(200, 20600), (201, 20601)] (S' := ⟨[(1, .I p1), (2, .I p2), (4, .cv (.ro .t_aEnt p4)), (5, .I p5), (6, .P 20600), (12, .P 20601)], [(20600, .raw (d_aRep p0)), (20601, .raw [.I 0, .I 0, .I 0, .N])]⟩))) ?_
   refine sk (S' := ⟨[(1, .I p1), (2, .I p2), (4, .cv (.ro .t_aEnt p4)), (5, .I p5), (6, .P 20600), (12, .P 20601)], [(20600, .raw (d_aRep p0)), (20601, .raw [.I 0, .I 0, .I 0, .N])]⟩) ?_
   obtain rfl := Option.some.inj h
   exact .inl ⟨rfl, rfl, rfl⟩
  refine tt (b := (!a1)) (congrArg Bool.not (eq_false_of_ne_true c1)) ?_
  refine sr0 L 214 [] [] [] (S' := ⟨[(12, .P 201), (13, .I 2)], [(201, .raw [.I 0, .I 0, .I 0, .N])]⟩) ?_
  refine awp_turn (Turns.rn [(201, 100)] (S' := ⟨[(12, .P 100), (13, .I 2)], [(100, .raw [.I 0, .I 0, .I 0, .N])]⟩)) ?_
  refine awp_ret ?_
  obtain rfl := Option.some.inj h
  exact .inr ⟨rfl, _, rfl, er (.tup [.agg [.I 0, .I 0, .I 0, .N], .I 2])⟩
 ·rintro e S (⟨rfl, rfl, rfl⟩ | ⟨rfl, a, rfl, hr⟩)
  ·rcases h with ⟨_, e1, h⟩ | ⟨_, e1, h⟩
   ·cases e1
   ·have e2 := Out.go.inj e1
    subst e2
    refine sr0 L 254 [] [] [] (S' := ⟨[(1, .I p1), (2, .I p2), (4, .cv (.ro .t_aEnt p4)), (5, .I p5), (6, .P 20600), (12, .P 20601), (14, .I 0)], [(20600, .raw (d_aRep p0)), (20601, .raw [.I 0, .I 0, .I 0, .N])]⟩) ?_
    refine awp_seq ?_
    refine awp_block ?_
    refine awp_turn (Turns.trans (Turns.kp (S' := ⟨[(1, .I p1), (2, .I p2), (4, .cv (.ro .t_aEnt p4)), (5, .I p5), (6, .P 20600), (12, .P 20601), (14, .I 0)], [(20600, .raw (d_aRep p0)), (20601, .raw [.I 0, .I 0, .I 0, .N])]⟩)) (Turns.rn [(20600, 25700), (20601, 25701)] (S' := ⟨[(1, .I p1), (2, .I p2), (4, .cv (.ro .t_aEnt p4)), (5, .I p5), (6, .P 25700), (12, .P 25701), (14, .I 0)], [(25700, .raw (d_aRep p0)), (25701, .raw [.I 0, .I 0, .I 0, .N])]⟩))) ?_
    refine kp (S' := ⟨[(1, .I p1), (2, .I p2), (4, .cv (.ro .t_aEnt p4)), (5, .I p5), (6, .P 25700), (12, .P 25701), (14, .I 0)], [(25700, .raw (d_aRep p0)), (25701, .raw [.I 0, .I 0, .I 0, .N])]⟩) ?_
    obtain ⟨o2, hp2, h⟩ := bind_some h
    refine awp_conseq (Q' := fun e S => (e = .exit 1 ∧ ∃ xt14_28 : Int, S = ⟨[(1, .I p1), (2, .I p2), (4, .cv (.ro .t_aEnt p4)), (5, .I p5), (6, .P 25600), (12, .P 25601), (14, .I xt14_28)], [(25600, .raw (d_aRep p0)), (25601, .raw [.I 0, .I 0, .I 0, .N])]⟩ ∧ xt14_28 = o2)) (awp_loop (fun k S => ∃ xt14_28h : Int, S = ⟨[(1, .I p1), (2, .I p2), (4, .cv (.ro .t_aEnt p4)), (5, .I p5), (6, .P 25700), (12, .P 25701), (14, .I xt14_28h)], [(25700, .raw (d_aRep p0)), (25701, .raw [.I 0, .I 0, .I 0, .N])]⟩ ∧ replog_Accept.l28 K p0 p2 p4 k xt14_28h = some o2) ?_ ⟨_, rfl, hp2⟩) ?_
    ·clear h hp2
     intro k S hS
     obtain ⟨xt14_28h, rfl, h⟩ := hS
     cases k with
     | zero => cases h
     | succ k =>
     unfold replog_Accept.l28 at h
     refine awp_seq ?_
     refine awp_seq ?_
     rcases ite_some h with ⟨c6, h⟩ | ⟨c6, h⟩
     ·rcases ite_some h with ⟨c7, h⟩ | ⟨c7, h⟩
      ·obtain ⟨g2, h⟩ := guard_some h
       obtain ⟨g3, h⟩ := guard_some h
       obtain ⟨a2, h2, h⟩ := bind_some h
       refine ad L mixed 256 [(4, true), (13, true)] [(25, .B a2)] [] [] 27 (cs := [(decide (xt14_28h < (p4.length : Int))) = true, (decide ((IntKind.i64.wrap (p2 + xt14_28h)) < (p0.Log.length : Int))) = true, (0 : Int) ≤ xt14_28h, (xt14_28h : Int) < (p4.length : Int), (0 : Int) ≤ (IntKind.i64.wrap (p2 + xt14_28h)), ((IntKind.i64.wrap (p2 + xt14_28h)) : Int) < (p0.Log.length : Int), PCall V P 65 [.agg (d_aEnt (p4.getD (Int.toNat xt14_28h) z_aEnt)), .agg (d_aEnt (p0.Log.getD (Int.toNat (IntKind.i64.wrap (p2 + xt14_28h))) z_aEnt))] (.B a2), True]) (S' := ⟨[(1, .I p1), (2, .I p2), (4, .cv (.ro .t_aEnt p4)), (5, .I p5), (6, .P 25700), (12, .P 25701), (14, .I xt14_28h), (81, .B a2)], [(25700, .raw (d_aRep p0)), (25701, .raw [.I 0, .I 0, .I 0, .N])]⟩) (And.intro (decide_eq_true c6) (And.intro (decide_eq_true c7) (And.intro g2.1 (And.intro g2.2 (And.intro g3.1 (And.intro g3.2 (And.intro (replog_agree.ok h2) trivial))))))) ?_
       rcases ite_some h with ⟨c8, h⟩ | ⟨c8, h⟩
       ·refine tt (b := a2) (c8) ?_
        refine awp_skip' ?_
        refine awp_block ?_
        refine ar0 L 284 [] [] [] (S' := ⟨[(1, .I p1), (2, .I p2), (4, .cv (.ro .t_aEnt p4)), (5, .I p5), (6, .P 25700), (12, .P 25701), (14, .I (IntKind.i64.wrap (xt14_28h + 1)))], [(25700, .raw (d_aRep p0)), (25701, .raw [.I 0, .I 0, .I 0, .N])]⟩) ?_
        exact ⟨k, Nat.lt_succ_self k, _, rfl, h⟩
       refine ff (b := a2) (eq_false_of_ne_true c8) ?_
       refine awp_turn (Turns.trans (Turns.kp (S' := ⟨[(1, .I p1), (2, .I p2), (4, .cv (.ro .t_aEnt p4)), (5, .I p5), (6, .P 25700), (12, .P 25701), (14, .I xt14_28h)], [(25700, .raw (d_aRep p0)), (25701, .raw [.I 0, .I 0, .I 0, .N])]⟩)) (Turns.rn [(25700, 25600), (25701, 25601)] (S' := ⟨[(1, .I p1), (2, .I p2), (4, .cv (.ro .t_aEnt p4)), (5, .I p5), (6, .P 25600), (12, .P 25601), (14, .I xt14_28h)], [(25600, .raw (d_aRep p0)), (25601, .raw [.I 0, .I 0, .I 0, .N])]⟩))) ?_
       refine ex (S' := ⟨[(1, .I p1), (2, .I p2), (4, .cv (.ro .t_aEnt p4)), (5, .I p5), (6, .P 25600), (12, .P 25601), (14, .I xt14_28h)], [(25600, .raw (d_aRep p0)), (25601, .raw [.I 0, .I 0, .I 0, .N])]⟩) ?_
       obtain rfl := Option.some.inj h
       exact ⟨rfl, _, rfl, rfl⟩
      refine ad L mixed 256 [(4, true), (13, false)] [] [] [] 27 (cs := [(decide (xt14_28h < (p4.length : Int))) = true, (decide ((IntKind.i64.wrap (p2 + xt14_28h)) < (p0.Log.length : Int))) = false]) (S' := ⟨[(1, .I p1), (2, .I p2), (4, .cv (.ro .t_aEnt p4)), (5, .I p5), (6, .P 25700), (12, .P 25701), (14, .I xt14_28h), (81, .B false)], [(25700, .raw (d_aRep p0)), (25701, .raw [.I 0, .I 0, .I 0, .N])]⟩) (And.intro (decide_eq_true c6) (decide_eq_false c7)) ?_
      refine ff (b := false) (rfl) ?_
      refine awp_turn (Turns.trans (Turns.kp (S' := ⟨[(1, .I p1), (2, .I p2), (4, .cv (.ro .t_aEnt p4)), (5, .I p5), (6, .P 25700), (12, .P 25701), (14, .I xt14_28h)], [(25700, .raw (d_aRep p0)), (25701, .raw [.I 0, .I 0, .I 0, .N])]⟩)) (Turns.rn [(25700, 25600), (25701, 25601)] (S' := ⟨[(1, .I p1), (2, .I p2), (4, .cv (.ro .t_aEnt p4)), (5, .I p5), (6, .P 25600), (12, .P 25601), (14, .I xt14_28h)], [(25600, .raw (d_aRep p0)), (25601, .raw [.I 0, .I 0, .I 0, .N])]⟩))) ?_
      refine ex (S' := ⟨[(1, .I p1), (2, .I p2), (4, .cv (.ro .t_aEnt p4)), (5, .I p5), (6, .P 25600), (12, .P 25601), (14, .I xt14_28h)], [(25600, .raw (d_aRep p0)), (25601, .raw [.I 0, .I 0, .I 0, .N])]⟩) ?_
      obtain rfl := Option.some.inj h
      exact ⟨rfl, _, rfl, rfl⟩
     refine ad L mixed 256 [(4, false)] [] [] [] 27 (cs := [(decide (xt14_28h < (p4.length : Int))) = false]) (S' := ⟨[(1, .I p1), (2, .I p2), (4, .cv (.ro .t_aEnt p4)), (5, .I p5), (6, .P 25700), (12, .P 25701), (14, .I xt14_28h), (81, .B false)], [(25700, .raw (d_aRep p0)), (25701, .raw [.I 0, .I 0, .I 0, .N])]⟩) (decide_eq_false c6) ?_
     refine ff (b := false) (rfl) ?_
     refine awp_turn (Turns.trans (Turns.kp (S' := ⟨[(1, .I p1), (2, .I p2), (4, .cv (.ro .t_aEnt p4)), (5, .I p5), (6, .P 25700), (12, .P 25701), (14, .I xt14_28h)], [(25700, .raw (d_aRep p0)), (25701, .raw [.I 0, .I 0, .I 0, .N])]⟩)) (Turns.rn [(25700, 25600), (25701, 25601)] (S' := ⟨[(1, .I p1), (2, .I p2), (4, .cv (.ro .t_aEnt p4)), (5, .I p5), (6, .P 25600), (12, .P 25601), (14, .I xt14_28h)], [(25600, .raw (d_aRep p0)), (25601, .raw [.I 0, .I 0, .I 0, .N])]⟩))) ?_
     refine ex (S' := ⟨[(1, .I p1), (2, .I p2), (4, .cv (.ro .t_aEnt p4)), (5, .I p5), (6, .P 25600), (12, .P 25601), (14, .I xt14_28h)], [(25600, .raw (d_aRep p0)), (25601, .raw [.I 0, .I 0, .I 0, .N])]⟩) ?_
     obtain rfl := Option.some.inj h
     exact ⟨rfl, _, rfl, rfl⟩
    ·rintro e S ⟨rfl, xt14_28, rfl, rfl⟩
     refine ⟨_, Turns.refl, ?_⟩
     obtain ⟨o3, hp3, h⟩ := bind_some h
     refine awp_seq (awp_mono (Q' := fun e S => (e = .normal ∧ ∃ xt15_37 : Bool, S = ⟨[(1, .I p1), (2, .I p2), (4, .cv (.ro .t_aEnt p4)), (5, .I p5), (6, .P 27400), (12, .P 27401), (14, .I xt14_28), (15, .B xt15_37)], [(27400, .raw (d_aRep p0)), (27401, .raw [.I 0, .I 0, .I 0, .N])]⟩ ∧ xt15_37 = o3)) ?_ ?_)
     ·clear h
      replace h := hp3
      rcases ite_some h with ⟨c9, h⟩ | ⟨c9, h⟩
      ·refine awp_post (ar L 288 [(4, true)] [] [] (cs := [(decide (xt14_28 < (p4.length : Int))) = true]) (S' := ⟨[(1, .I p1), (2, .I p2), (4, .cv (.ro .t_aEnt p4)), (5, .I p5), (6, .P 25600), (12, .P 25601), (14, .I xt14_28), (15, .B (decide ((IntKind.i64.wrap (p2 + xt14_28)) < (p0.Log.length : Int))))], [(25600, .raw (d_aRep p0)), (25601, .raw [.I 0, .I 0, .I 0, .N])]⟩) (decide_eq_true c9) ⟨rfl, rfl⟩) (Turns.trans (Turns.kp (S' := ⟨[(1, .I p1), (2, .I p2), (4, .cv (.ro .t_aEnt p4)), (5, .I p5), (6, .P 25600), (12, .P 25601), (14, .I xt14_28), (15, .B (decide ((IntKind.i64.wrap (p2 + xt14_28)) < (p0.Log.length : Int))))], [(25600, .raw (d_aRep p0)), (25601, .raw [.I 0, .I 0, .I 0, .N])]⟩)) (Turns.trans (Turns.rn [(25600, 27400), (25601, 27401)] (S' := ⟨[(1, .I p1), (2, .I p2), (4, .cv (.ro .t_aEnt p4)), (5, .I p5), (6, .P 27400), (12, .P 27401), (14, .I xt14_28), (15, .B (decide ((IntKind.i64.wrap (p2 + xt14_28)) < (p0.Log.length : Int))))], [(27400, .raw (d_aRep p0)), (27401, .raw [.I 0, .I 0, .I 0, .N])]⟩)) (Turns.kp (S' := ⟨[(1, .I p1), (2, .I p2), (4, .cv (.ro .t_aEnt p4)), (5, .I p5), (6, .P 27400), (12, .P 27401), (14, .I xt14_28), (15, .B (decide ((IntKind.i64.wrap (p2 + xt14_28)) < (p0.Log.length : Int))))], [(27400, .raw (d_aRep p0)), (27401, .raw [.I 0, .I 0, .I 0, .N])]⟩)))) ?_
       obtain rfl := Option.some.inj h
       exact ⟨rfl, _, rfl, rfl⟩
      refine awp_post (ar L 288 [(4, false)] [] [] (cs := [(decide (xt14_28 < (p4.length : Int))) = false]) (S' := ⟨[(1, .I p1), (2, .I p2), (4, .cv (.ro .t_aEnt p4)), (5, .I p5), (6, .P 25600), (12, .P 25601), (14, .I xt14_28), (15, .B false)], [(25600, .raw (d_aRep p0)), (25601, .raw [.I 0, .I 0, .I 0, .N])]⟩) (decide_eq_false c9) ⟨rfl, rfl⟩) (Turns.trans (Turns.kp (S' := ⟨[(1, .I p1), (2, .I p2), (4, .cv (.ro .t_aEnt p4)), (5, .I p5), (6, .P 25600), (12, .P 25601), (14, .I xt14_28), (15, .B false)], [(25600, .raw (d_aRep p0)), (25601, .raw [.I 0, .I 0, .I 0, .N])]⟩)) (Turns.trans (Turns.rn [(25600, 27400), (25601, 27401)] (S' := ⟨[(1, .I p1), (2, .I p2), (4, .cv (.ro .t_aEnt p4)), (5, .I p5), (6, .P 27400), (12, .P 27401), (14, .I xt14_28), (15, .B false)], [(27400, .raw (d_aRep p0)), (27401, .raw [.I 0, .I 0, .I 0, .N])]⟩)) (Turns.kp (S' := ⟨[(1, .I p1), (2, .I p2), (4, .cv (.ro .t_aEnt p4)), (5, .I p5), (6, .P 27400), (12, .P 27401), (14, .I xt14_28), (15, .B false)], [(27400, .raw (d_aRep p0)), (27401, .raw [.I 0, .I 0, .I 0, .N])]⟩)))) ?_
      obtain rfl := Option.some.inj h
      exact ⟨rfl, _, rfl, rfl⟩
     ·rintro e S ⟨rfl, xt15_37, rfl, rfl⟩
      refine awp_seq ?_
      refine awp_block ?_
      obtain ⟨o4, hp4, h⟩ := bind_some h
      refine awp_seq (awp_mono (Q' := fun e S => (e = .normal ∧ ∃ xt97_41 : Bool, S = ⟨[(1, .I p1), (2, .I p2), (4, .cv (.ro .t_aEnt p4)), (5, .I p5), (6, .P 28200), (12, .P 28201), (14, .I xt14_28), (15, .B xt15_37), (97, .B xt97_41)], [(28200, .raw (d_aRep p0)), (28201, .raw [.I 0, .I 0, .I 0, .N])]⟩ ∧ xt97_41 = o4)) ?_ ?_)
      ·clear h
       replace h := hp4
       rcases ite_some h with ⟨c10, h⟩ | ⟨c10, h⟩
       ·refine awp_post (ar L 303 [(1, true)] [] [] (cs := [xt15_37 = true]) (S' := ⟨[(1, .I p1), (2, .I p2), (4, .cv (.ro .t_aEnt p4)), (5, .I p5), (6, .P 27400), (12, .P 27401), (14, .I xt14_28), (15, .B xt15_37), (97, .B (decide ((IntKind.i64.wrap (p2 + xt14_28)) < p0.Commit)))], [(27400, .raw (d_aRep p0)), (27401, .raw [.I 0, .I 0, .I 0, .N])]⟩) c10 ⟨rfl, rfl⟩) (Turns.trans (Turns.kp (S' := ⟨[(1, .I p1), (2, .I p2), (4, .cv (.ro .t_aEnt p4)), (5, .I p5), (6, .P 27400), (12, .P 27401), (14, .I xt14_28), (15, .B xt15_37), (97, .B (decide ((IntKind.i64.wrap (p2 + xt14_28)) < p0.Commit)))], [(27400, .raw (d_aRep p0)), (27401, .raw [.I 0, .I 0, .I 0, .N])]⟩)) (Turns.trans (Turns.rn [(27400, 28200), (27401, 28201)] (S' := ⟨[(1, .I p1), (2, .I p2), (4, .cv (.ro .t_aEnt p4)), (5, .I p5), (6, .P 28200), (12, .P 28201), (14, .I xt14_28), (15, .B xt15_37), (97, .B (decide ((IntKind.i64.wrap (p2 + xt14_28)) < p0.Commit)))], [(28200, .raw (d_aRep p0)), (28201, .raw [.I 0, .I 0, .I 0, .N])]⟩)) (Turns.kp (S' := ⟨[(1, .I p1), (2, .I p2), (4, .cv (.ro .t_aEnt p4)), (5, .I p5), (6, .P 28200), (12, .P 28201), (14, .I xt14_28), (15, .B xt15_37), (97, .B (decide ((IntKind.i64.wrap (p2 + xt14_28)) < p0.Commit)))], [(28200, .raw (d_aRep p0)), (28201, .raw [.I 0, .I 0, .I 0, .N])]⟩)))) ?_
        obtain rfl := Option.some.inj h
        exact ⟨rfl, _, rfl, rfl⟩
       refine awp_post (ar L 303 [(1, false)] [] [] (cs := [xt15_37 = false]) (S' := ⟨[(1, .I p1), (2, .I p2), (4, .cv (.ro .t_aEnt p4)), (5, .I p5), (6, .P 27400), (12, .P 27401), (14, .I xt14_28), (15, .B xt15_37), (97, .B false)], [(27400, .raw (d_aRep p0)), (27401, .raw [.I 0, .I 0, .I 0, .N])]⟩) (eq_false_of_ne_true c10) ⟨rfl, rfl⟩) (Turns.trans (Turns.kp (S' := ⟨[(1, .I p1), (2, .I p2), (4, .cv (.ro .t_aEnt p4)), (5, .I p5), (6, .P 27400), (12, .P 27401), (14, .I xt14_28), (15, .B xt15_37), (97, .B false)], [(27400, .raw (d_aRep p0)), (27401, .raw [.I 0, .I 0, .I 0, .N])]⟩)) (Turns.trans (Turns.rn [(27400, 28200), (27401, 28201)] (S' := ⟨[(1, .I p1), (2, .I p2), (4, .cv (.ro .t_aEnt p4)), (5, .I p5), (6, .P 28200), (12, .P 28201), (14, .I xt14_28), (15, .B xt15_37), (97, .B false)], [(28200, .raw (d_aRep p0)), (28201, .raw [.I 0, .I 0, .I 0, .N])]⟩)) (Turns.kp (S' := ⟨[(1, .I p1), (2, .I p2), (4, .cv (.ro .t_aEnt p4)), (5, .I p5), (6, .P 28200), (12, .P 28201), (14, .I xt14_28), (15, .B xt15_37), (97, .B false)], [(28200, .raw (d_aRep p0)), (28201, .raw [.I 0, .I 0, .I 0, .N])]⟩)))) ?_
       obtain rfl := Option.some.inj h
       exact ⟨rfl, _, rfl, rfl⟩
      ·rintro e S ⟨rfl, xt97_41, rfl, rfl⟩
       rcases ite_some h with ⟨c11, h⟩ | ⟨c11, h⟩
       ·refine tt (b := xt97_41) (c11) ?_
        refine sr0 L 314 [] [] [] (S' := ⟨[(12, .P 28201), (13, .I 16)], [(28201, .raw [.I 0, .I 0, .I 0, .N])]⟩) ?_
        refine awp_turn (Turns.rn [(28201, 100)] (S' := ⟨[(12, .P 100), (13, .I 16)], [(100, .raw [.I 0, .I 0, .I 0, .N])]⟩)) ?_
        refine awp_ret ?_
        obtain rfl := Option.some.inj h
        exact er (.tup [.agg [.I 0, .I 0, .I 0, .N], .I 16])
       refine ff (b := xt97_41) (eq_false_of_ne_true c11) ?_
       refine sr0 L 318 [] [] [] (S' := ⟨[(1, .I p1), (2, .I p2), (4, .cv (.ro .t_aEnt p4)), (5, .I p5), (6, .P 28200), (12, .P 28201), (14, .I xt14_28), (15, .B xt15_37), (108, .B (decide ((p4.length : Int) > (IntKind.i64.wrap (5000 - p2)))))], [(28200, .raw (d_aRep p0)), (28201, .raw [.I 0, .I 0, .I 0, .N])]⟩) ?_
       rcases ite_some h with ⟨c12, h⟩ | ⟨c12, h⟩
       ·refine tt (b := (decide ((p4.length : Int) > (IntKind.i64.wrap (5000 - p2))))) (decide_eq_true c12) ?_
        refine sr0 L 325 [] [] [] (S' := ⟨[(12, .P 28201), (13, .I 18)], [(28201, .raw [.I 0, .I 0, .I 0, .N])]⟩) ?_
        refine awp_turn (Turns.rn [(28201, 100)] (S' := ⟨[(12, .P 100), (13, .I 18)], [(100, .raw [.I 0, .I 0, .I 0, .N])]⟩)) ?_
        refine awp_ret ?_
        obtain rfl := Option.some.inj h
        exact er (.tup [.agg [.I 0, .I 0, .I 0, .N], .I 18])
       refine ff (b := (decide ((p4.length : Int) > (IntKind.i64.wrap (5000 - p2))))) (decide_eq_false c12) ?_
       refine awp_skip' ?_
       refine sr0 L 329 [] [] [] (S' := ⟨[(1, .I p1), (2, .I p2), (4, .cv (.ro .t_aEnt p4)), (6, .P 28200), (12, .P 28201), (14, .I xt14_28), (15, .B xt15_37), (16, .P 342)], [(342, .raw [.I p1, .I p0.Vote, .I (if (if (IntKind.i64.wrap (p2 + (p4.length : Int))) < p5 then (IntKind.i64.wrap (p2 + (p4.length : Int))) else p5) > p0.Commit then (if (IntKind.i64.wrap (p2 + (p4.length : Int))) < p5 then (IntKind.i64.wrap (p2 + (p4.length : Int))) else p5) else p0.Commit), .N]), (28200, .raw (d_aRep p0)), (28201, .raw [.I 0, .I 0, .I 0, .N])]⟩) ?_
       obtain ⟨o5, hp5, h⟩ := bind_some h
       refine awp_seq (awp_mono (Q' := fun e S => (e = .normal ∧ ∃ x31202_1 : Int, S = ⟨[(2, .I p2), (4, .cv (.ro .t_aEnt p4)), (6, .P 31200), (12, .P 31201), (14, .I xt14_28), (15, .B xt15_37), (16, .P 31202)], [(31200, .raw (d_aRep p0)), (31201, .raw [.I 0, .I 0, .I 0, .N]), (31202, .raw [.I p1, .I x31202_1, .I (if (if (IntKind.i64.wrap (p2 + (p4.length : Int))) < p5 then (IntKind.i64.wrap (p2 + (p4.length : Int))) else p5) > p0.Commit then (if (IntKind.i64.wrap (p2 + (p4.length : Int))) < p5 then (IntKind.i64.wrap (p2 + (p4.length : Int))) else p5) else p0.Commit), .N])]⟩ ∧ x31202_1 = o5)) ?_ ?_)
       ·clear h
        replace h := hp5
        refine sr0 L 345 [] [] [] (S' := ⟨[(2, .I p2), (4, .cv (.ro .t_aEnt p4)), (6, .P 28200), (12, .P 28201), (14, .I xt14_28), (15, .B xt15_37), (16, .P 342), (131, .B (decide (p1 > p0.Epoch)))], [(342, .raw [.I p1, .I p0.Vote, .I (if (if (IntKind.i64.wrap (p2 + (p4.length : Int))) < p5 then (IntKind.i64.wrap (p2 + (p4.length : Int))) else p5) > p0.Commit then (if (IntKind.i64.wrap (p2 + (p4.length : Int))) < p5 then (IntKind.i64.wrap (p2 + (p4.length : Int))) else p5) else p0.Commit), .N]), (28200, .raw (d_aRep p0)), (28201, .raw [.I 0, .I 0, .I 0, .N])]⟩) ?_
        rcases ite_some h with ⟨c13, h⟩ | ⟨c13, h⟩
        ·refine tt (b := (decide (p1 > p0.Epoch))) (decide_eq_true c13) ?_
         refine awp_post (ar0 L 350 [] [] [] (S' := ⟨[(2, .I p2), (4, .cv (.ro .t_aEnt p4)), (6, .P 28200), (12, .P 28201), (14, .I xt14_28), (15, .B xt15_37), (16, .P 342)], [(342, .raw [.I p1, .I (-1), .I (if (if (IntKind.i64.wrap (p2 + (p4.length : Int))) < p5 then (IntKind.i64.wrap (p2 + (p4.length : Int))) else p5) > p0.Commit then (if (IntKind.i64.wrap (p2 + (p4.length : Int))) < p5 then (IntKind.i64.wrap (p2 + (p4.length : Int))) else p5) else p0.Commit), .N]), (28200, .raw (d_aRep p0)), (28201, .raw [.I 0, .I 0, .I 0, .N])]⟩) ⟨rfl, rfl⟩) (Turns.trans (Turns.kp (S' := ⟨[(2, .I p2), (4, .cv (.ro .t_aEnt p4)), (6, .P 28200), (12, .P 28201), (14, .I xt14_28), (15, .B xt15_37), (16, .P 342)], [(342, .raw [.I p1, .I (-1), .I (if (if (IntKind.i64.wrap (p2 + (p4.length : Int))) < p5 then (IntKind.i64.wrap (p2 + (p4.length : Int))) else p5) > p0.Commit then (if (IntKind.i64.wrap (p2 + (p4.length : Int))) < p5 then (IntKind.i64.wrap (p2 + (p4.length : Int))) else p5) else p0.Commit), .N]), (28200, .raw (d_aRep p0)), (28201, .raw [.I 0, .I 0, .I 0, .N])]⟩)) (Turns.trans (Turns.rn [(342, 31202), (28200, 31200), (28201, 31201)] (S' := ⟨[(2, .I p2), (4, .cv (.ro .t_aEnt p4)), (6, .P 31200), (12, .P 31201), (14, .I xt14_28), (15, .B xt15_37), (16, .P 31202)], [(31202, .raw [.I p1, .I (-1), .I (if (if (IntKind.i64.wrap (p2 + (p4.length : Int))) < p5 then (IntKind.i64.wrap (p2 + (p4.length : Int))) else p5) > p0.Commit then (if (IntKind.i64.wrap (p2 + (p4.length : Int))) < p5 then (IntKind.i64.wrap (p2 + (p4.length : Int))) else p5) else p0.Commit), .N]), (31200, .raw (d_aRep p0)), (31201, .raw [.I 0, .I 0, .I 0, .N])]⟩)) (Turns.kp (S' := ⟨[(2, .I p2), (4, .cv (.ro .t_aEnt p4)), (6, .P 31200), (12, .P 31201), (14, .I xt14_28), (15, .B xt15_37), (16, .P 31202)], [(31200, .raw (d_aRep p0)), (31201, .raw [.I 0, .I 0, .I 0, .N]), (31202, .raw [.I p1, .I (-1), .I (if (if (IntKind.i64.wrap (p2 + (p4.length : Int))) < p5 then (IntKind.i64.wrap (p2 + (p4.length : Int))) else p5) > p0.Commit then (if (IntKind.i64.wrap (p2 + (p4.length : Int))) < p5 then (IntKind.i64.wrap (p2 + (p4.length : Int))) else p5) else p0.Commit), .N])]⟩)))) ?_
         obtain rfl := Option.some.inj h
         exact ⟨rfl, _, rfl, rfl⟩
        refine ff (b := (decide (p1 > p0.Epoch))) (decide_eq_false c13) ?_
        refine awp_turn (Turns.trans (Turns.kp (S' := ⟨[(2, .I p2), (4, .cv (.ro .t_aEnt p4)), (6, .P 28200), (12, .P 28201), (14, .I xt14_28), (15, .B xt15_37), (16, .P 342)], [(342, .raw [.I p1, .I p0.Vote, .I (if (if (IntKind.i64.wrap (p2 + (p4.length : Int))) < p5 then (IntKind.i64.wrap (p2 + (p4.length : Int))) else p5) > p0.Commit then (if (IntKind.i64.wrap (p2 + (p4.length : Int))) < p5 then (IntKind.i64.wrap (p2 + (p4.length : Int))) else p5) else p0.Commit), .N]), (28200, .raw (d_aRep p0)), (28201, .raw [.I 0, .I 0, .I 0, .N])]⟩)) (Turns.rn [(342, 31202), (28200, 31200), (28201, 31201)] (S' := ⟨[(2, .I p2), (4, .cv (.ro .t_aEnt p4)), (6, .P 31200), (12, .P 31201), (14, .I xt14_28), (15, .B xt15_37), (16, .P 31202)], [(31202, .raw [.I p1, .I p0.Vote, .I (if (if (IntKind.i64.wrap (p2 + (p4.length : Int))) < p5 then (IntKind.i64.wrap (p2 + (p4.length : Int))) else p5) > p0.Commit then (if (IntKind.i64.wrap (p2 + (p4.length : Int))) < p5 then (IntKind.i64.wrap (p2 + (p4.length : Int))) else p5) else p0.Commit), .N]), (31200, .raw (d_aRep p0)), (31201, .raw [.I 0, .I 0, .I 0, .N])]⟩))) ?_
        refine sk (S' := ⟨[(2, .I p2), (4, .cv (.ro .t_aEnt p4)), (6, .P 31200), (12, .P 31201), (14, .I xt14_28), (15, .B xt15_37), (16, .P 31202)], [(31200, .raw (d_aRep p0)), (31201, .raw [.I 0, .I 0, .I 0, .N]), (31202, .raw [.I p1, .I p0.Vote, .I (if (if (IntKind.i64.wrap (p2 + (p4.length : Int))) < p5 then (IntKind.i64.wrap (p2 + (p4.length : Int))) else p5) > p0.Commit then (if (IntKind.i64.wrap (p2 + (p4.length : Int))) < p5 then (IntKind.i64.wrap (p2 + (p4.length : Int))) else p5) else p0.Commit), .N])]⟩) ?_
        obtain rfl := Option.some.inj h
        exact ⟨rfl, _, rfl, rfl⟩
       ·rintro e S ⟨rfl, x31202_1, rfl, rfl⟩
        refine awp_seq ?_
        refine sr0 L 353 [] [] [] (S' := ⟨[(2, .I p2), (4, .cv (.ro .t_aEnt p4)), (6, .P 31200), (12, .P 31201), (14, .I xt14_28), (16, .P 31202), (133, .B xt15_37)], [(31200, .raw (d_aRep p0)), (31201, .raw [.I 0, .I 0, .I 0, .N]), (31202, .raw [.I p1, .I x31202_1, .I (if (if (IntKind.i64.wrap (p2 + (p4.length : Int))) < p5 then (IntKind.i64.wrap (p2 + (p4.length : Int))) else p5) > p0.Commit then (if (IntKind.i64.wrap (p2 + (p4.length : Int))) < p5 then (IntKind.i64.wrap (p2 + (p4.length : Int))) else p5) else p0.Commit), .N])]⟩) ?_
        rcases ite_some h with ⟨c14, h⟩ | ⟨c14, h⟩
        ·refine tt (b := xt15_37) (c14) ?_
         obtain ⟨g4, h⟩ := guard_some h
         obtain ⟨a3, h3, h⟩ := bind_some h
         obtain ⟨a4, h4, h⟩ := bind_some h
         obtain ⟨g5, h⟩ := guard_some h
         refine ar L 355 [] [(4, .cv (.ron .t_aEnt a3)), (6, .cv (.ro .t_aEnt a4))] [] (cs := [(0 : Int) ≤ 0, (0 : Int) ≤ p2, p2 ≤ (p0.Log.length : Int), FCall V P 58 [.cv (.ro .t_aEnt (slc p0.Log 0 p2))] Tag.t_aEnt a3, PCall V P 58 [.cv (.ro .t_aEnt p4)] (.cv (.ro .t_aEnt a4)), True, (a3.length + a4.length) * 32 ≤ 140737488355328, True]) (S' := ⟨[(12, .P 31201), (16, .P 31202)], [(359, .lst .t_aEnt (a3 ++ a4)), (31201, .raw [.I 0, .I 0, .I 0, .N]), (31202, .raw [.I p1, .I x31202_1, .I (if (if (IntKind.i64.wrap (p2 + (p4.length : Int))) < p5 then (IntKind.i64.wrap (p2 + (p4.length : Int))) else p5) > p0.Commit then (if (IntKind.i64.wrap (p2 + (p4.length : Int))) < p5 then (IntKind.i64.wrap (p2 + (p4.length : Int))) else p5) else p0.Commit), .own .t_aEnt 359])]⟩) (And.intro (Int.le_refl _) (And.intro g4.1 (And.intro g4.2 (And.intro (replog_entries_v2.okF h3) (And.intro (replog_entries.ok h4) (And.intro trivial (And.intro g5 trivial))))))) ?_
         refine sr0 L 377 [] [] [] (S' := ⟨[(12, .P 31201), (13, .I 0)], [(359, .lst .t_aEnt (a3 ++ a4)), (31201, .raw [.I p1, .I x31202_1, .I (if (if (IntKind.i64.wrap (p2 + (p4.length : Int))) < p5 then (IntKind.i64.wrap (p2 + (p4.length : Int))) else p5) > p0.Commit then (if (IntKind.i64.wrap (p2 + (p4.length : Int))) < p5 then (IntKind.i64.wrap (p2 + (p4.length : Int))) else p5) else p0.Commit), .own .t_aEnt 359])]⟩) ?_
         refine awp_turn (Turns.trans (Turns.frz 359 (blk0 := .lst .t_aEnt (a3 ++ a4)) (by kernel_rfl) (by kernel_rfl) (S' := ⟨[(12, .P 31201), (13, .I 0)], [(31201, .raw [.I p1, .I x31202_1, .I (if (if (IntKind.i64.wrap (p2 + (p4.length : Int))) < p5 then (IntKind.i64.wrap (p2 + (p4.length : Int))) else p5) > p0.Commit then (if (IntKind.i64.wrap (p2 + (p4.length : Int))) < p5 then (IntKind.i64.wrap (p2 + (p4.length : Int))) else p5) else p0.Commit), .ro .t_aEnt (a3 ++ a4)])]⟩) (by kernel_rfl)) (Turns.rn [(31201, 100)] (S' := ⟨[(12, .P 100), (13, .I 0)], [(100, .raw [.I p1, .I x31202_1, .I (if (if (IntKind.i64.wrap (p2 + (p4.length : Int))) < p5 then (IntKind.i64.wrap (p2 + (p4.length : Int))) else p5) > p0.Commit then (if (IntKind.i64.wrap (p2 + (p4.length : Int))) < p5 then (IntKind.i64.wrap (p2 + (p4.length : Int))) else p5) else p0.Commit), .ro .t_aEnt (a3 ++ a4)])]⟩))) ?_
         refine awp_ret ?_
         obtain rfl := Option.some.inj h
         exact er (.tup [.agg [.I p1, .I x31202_1, .I (if (if (IntKind.i64.wrap (p2 + (p4.length : Int))) < p5 then (IntKind.i64.wrap (p2 + (p4.length : Int))) else p5) > p0.Commit then (if (IntKind.i64.wrap (p2 + (p4.length : Int))) < p5 then (IntKind.i64.wrap (p2 + (p4.length : Int))) else p5) else p0.Commit), .ro .t_aEnt (a3 ++ a4)], .I 0])
        refine ff (b := xt15_37) (eq_false_of_ne_true c14) ?_
        obtain ⟨a5, h5, h⟩ := bind_some h
        obtain ⟨g6, h⟩ := guard_some h
        obtain ⟨a6, h6, h⟩ := bind_some h
        obtain ⟨g7, h⟩ := guard_some h
        refine ad L mixed 366 [] [(2, .cv (.ron .t_aEnt a5)), (6, .cv (.ro .t_aEnt a6))] [] [] 7 (cs := [FCall V P 58 [.cv (.ro .t_aEnt p0.Log)] Tag.t_aEnt a5, (0 : Int) ≤ xt14_28, xt14_28 ≤ (p4.length : Int), (p4.length : Int) ≤ (p4.length : Int), PCall V P 58 [.cv (.ro .t_aEnt (slc p4 xt14_28 (p4.length : Int)))] (.cv (.ro .t_aEnt a6)), True, (a5.length + a6.length) * 32 ≤ 140737488355328, True]) (S' := ⟨[(12, .P 31201), (16, .P 31202)], [(368, .lst .t_aEnt (a5 ++ a6)), (31201, .raw [.I 0, .I 0, .I 0, .N]), (31202, .raw [.I p1, .I x31202_1, .I (if (if (IntKind.i64.wrap (p2 + (p4.length : Int))) < p5 then (IntKind.i64.wrap (p2 + (p4.length : Int))) else p5) > p0.Commit then (if (IntKind.i64.wrap (p2 + (p4.length : Int))) < p5 then (IntKind.i64.wrap (p2 + (p4.length : Int))) else p5) else p0.Commit), .own .t_aEnt 368])]⟩) (And.intro (replog_entries_v2.okF h5) (And.intro g6.1 (And.intro g6.2 (And.intro (Int.le_refl _) (And.intro (replog_entries.ok h6) (And.intro trivial (And.intro g7 trivial))))))) ?_
        refine sr0 L 377 [] [] [] (S' := ⟨[(12, .P 31201), (13, .I 0)], [(368, .lst .t_aEnt (a5 ++ a6)), (31201, .raw [.I p1, .I x31202_1, .I (if (if (IntKind.i64.wrap (p2 + (p4.length : Int))) < p5 then (IntKind.i64.wrap (p2 + (p4.length : Int))) else p5) > p0.Commit then (if (IntKind.i64.wrap (p2 + (p4.length : Int))) < p5 then (IntKind.i64.wrap (p2 + (p4.length : Int))) else p5) else p0.Commit), .own .t_aEnt 368])]⟩) ?_
        refine awp_turn (Turns.trans (Turns.frz 368 (blk0 := .lst .t_aEnt (a5 ++ a6)) (by kernel_rfl) (by kernel_rfl) (S' := ⟨[(12, .P 31201), (13, .I 0)], [(31201, .raw [.I p1, .I x31202_1, .I (if (if (IntKind.i64.wrap (p2 + (p4.length : Int))) < p5 then (IntKind.i64.wrap (p2 + (p4.length : Int))) else p5) > p0.Commit then (if (IntKind.i64.wrap (p2 + (p4.length : Int))) < p5 then (IntKind.i64.wrap (p2 + (p4.length : Int))) else p5) else p0.Commit), .ro .t_aEnt (a5 ++ a6)])]⟩) (by kernel_rfl)) (Turns.rn [(31201, 100)] (S' := ⟨[(12, .P 100), (13, .I 0)], [(100, .raw [.I p1, .I x31202_1, .I (if (if (IntKind.i64.wrap (p2 + (p4.length : Int))) < p5 then (IntKind.i64.wrap (p2 + (p4.length : Int))) else p5) > p0.Commit then (if (IntKind.i64.wrap (p2 + (p4.length : Int))) < p5 then (IntKind.i64.wrap (p2 + (p4.length : Int))) else p5) else p0.Commit), .ro .t_aEnt (a5 ++ a6)])]⟩))) ?_
        refine awp_ret ?_
        obtain rfl := Option.some.inj h
        exact er (.tup [.agg [.I p1, .I x31202_1, .I (if (if (IntKind.i64.wrap (p2 + (p4.length : Int))) < p5 then (IntKind.i64.wrap (p2 + (p4.length : Int))) else p5) > p0.Commit then (if (IntKind.i64.wrap (p2 + (p4.length : Int))) < p5 then (IntKind.i64.wrap (p2 + (p4.length : Int))) else p5) else p0.Commit), .ro .t_aEnt (a5 ++ a6)], .I 0])
  ·rcases h with ⟨_, e1, h⟩ | ⟨_, e1, h⟩
   ·have e2 := Out.done.inj e1
    subst e2
    subst h
    exact hr
   ·cases e1
theorem replog_Accept.ok {K : Nat} {p0 : aRep} {p1 : Int} {p2 : Int} {p3 : Int} {p4 : List aEnt} {p5 : Int} {r : aRep × Int} (h : replog_Accept K p0 p1 p2 p3 p4 p5 = some r) : PCall V P 88 [.agg (d_aRep p0), .I p1, .I p2, .I p3, .cv (.ro .t_aEnt p4), .I p5] (.tup [.agg [.I r.1.Epoch, .I r.1.Vote, .I r.1.Commit, .ro .t_aEnt r.1.Log], .I r.2]) := ECall.pcall (eo (fn := Tryz.f88) (n := 153) (m := 100) fun Γ => replog_Accept.body h) (by kernel_rfl)
def group_Group_accept_v2 (K : Nat) (p0 : List Bool) (p1 : Int) (p2 : Int) (p3 : Int) (p4 : aRep) (p5 : Int) (p6 : List aEnt) (p7 : List aRep) : Option (Bool × (List aRep)) := (Option.bind (((if p5 > 0 then (if (0 : Int) ≤ (IntKind.i64.wrap (p5 - 1)) ∧ ((IntKind.i64.wrap (p5 - 1)) : Int) < (p4.Log.length : Int) then some ((p4.Log.getD (Int.toNat (IntKind.i64.wrap (p5 - 1))) z_aEnt).Epoch) else none) else some 0)) : Option Int) (fun xt11_5 => (if (0 : Int) ≤ p3 ∧ (p3 : Int) < (p7.length : Int) then (if (Int.toNat p3) < p7.length then (Option.bind (replog_Accept K (p7.getD (Int.toNat p3) z_aRep) p4.Epoch p5 xt11_5 p6 p4.Commit) (fun (a1_0, a1_1) => (if a1_1 = 0 then some ((decide (a1_1 = 0)), (p7.set (Int.toNat p3) a1_0)) else some ((decide (a1_1 = 0)), p7)))) else none) else none)))
theorem group_Group_accept_v2.body {Γ : Ent} {K : Nat} {p0 : List Bool} {p1 : Int} {p2 : Int} {p3 : Int} {p4 : aRep} {p5 : Int} {p6 : List aEnt} {p7 : List aRep} {r : Bool × (List aRep)} (h : group_Group_accept_v2 K p0 p1 p2 p3 p4 p5 p6 p7 = some r) : AWp V P 48 100 Γ (Tryz.f63.body.getD .skip) (EndsE P V Tryz.f63 (.B r.1) [(0, .lst .t_aRep r.2)]) ⟨args0 0 [.agg [.own .t_aRep 0, .ro .t_bool p0, .I p1, .I p2], .I p3, .agg (d_aRep p4), .I p5, .cv (.ro .t_aEnt p6)], [(0, .lst .t_aRep p7)]⟩ := by
 unfold group_Group_accept_v2 at h
 refine sr0 L 200 [] [] [] (S' := ⟨[(1, .I p3), (3, .I p5), (4, .cv (.ro .t_aEnt p6)), (5, .P 200), (7, .P 201)], [(0, .lst .t_aRep p7), (200, .raw [.own .t_aRep 0, .ro .t_bool p0, .I p1, .I p2]), (201, .raw (d_aRep p4))]⟩) ?_
 refine sr0 L 204 [] [] [] (S' := ⟨[(1, .I p3), (3, .I p5), (4, .cv (.ro .t_aEnt p6)), (5, .P 200), (7, .P 201), (11, .I 0)], [(0, .lst .t_aRep p7), (200, .raw [.own .t_aRep 0, .ro .t_bool p0, .I p1, .I p2]), (201, .raw (d_aRep p4))]⟩) ?_
 obtain ⟨o1, hp1, h⟩ := bind_some h
 refine awp_seq (awp_mono (Q' := fun e S => (e = .normal ∧ ∃ xt11_5 : Int, S = ⟨[(1, .I p3), (3, .I p5), (4, .cv (.ro .t_aEnt p6)), (5, .P 21000), (7, .P 21001), (11, .I xt11_5)], [(0, .lst .t_aRep p7), (21000, .raw [.own .t_aRep 0, .ro .t_bool p0, .I p1, .I p2]), (21001, .raw (d_aRep p4))]⟩ ∧ xt11_5 = o1)) ?_ ?_)
 ·clear h
  replace h := hp1
  refine sr0 L 206 [] [] [] (S' := ⟨[(1, .I p3), (3, .I p5), (4, .cv (.ro .t_aEnt p6)), (5, .P 200), (7, .P 201), (11, .I 0), (15, .B (decide (p5 > 0)))], [(0, .lst .t_aRep p7), (200, .raw [.own .t_aRep 0, .ro .t_bool p0, .I p1, .I p2]), (201, .raw (d_aRep p4))]⟩) ?_
  rcases ite_some h with ⟨c1, h⟩ | ⟨c1, h⟩
  ·refine tt (b := (decide (p5 > 0))) (decide_eq_true c1) ?_
   obtain ⟨g1, h⟩ := guard_some h
   refine awp_post (ar L 209 [] [] [] (cs := [(0 : Int) ≤ (IntKind.i64.wrap (p5 - 1)), ((IntKind.i64.wrap (p5 - 1)) : Int) < (p4.Log.length : Int)]) (S' := ⟨[(1, .I p3), (3, .I p5), (4, .cv (.ro .t_aEnt p6)), (5, .P 200), (7, .P 201), (11, .I ((p4.Log.getD (Int.toNat (IntKind.i64.wrap (p5 - 1))) z_aEnt).Epoch))], [(0, .lst .t_aRep p7), (200, .raw [.own .t_aRep 0, .ro .t_bool p0, .I p1, .I p2]), (201, .raw (d_aRep p4))]⟩) (And.intro g1.1 g1.2) ⟨rfl, rfl⟩) (Turns.trans (Turns.kp (S' := ⟨[(1, .I p3), (3, .I p5), (4, .cv (.ro .t_aEnt p6)), (5, .P 200), (7, .P 201), (11, .I ((p4.Log.getD (Int.toNat (IntKind.i64.wrap (p5 - 1))) z_aEnt).Epoch))], [(0, .lst .t_aRep p7), (200, .raw [.own .t_aRep 0, .ro .t_bool p0, .I p1, .I p2]), (201, .raw (d_aRep p4))]⟩)) (Turns.trans (Turns.rn [(0, 0), (200, 21000), (201, 21001)] (S' := ⟨[(1, .I p3), (3, .I p5), (4, .cv (.ro .t_aEnt p6)), (5, .P 21000), (7, .P 21001), (11, .I ((p4.Log.getD (Int.toNat (IntKind.i64.wrap (p5 - 1))) z_aEnt).Epoch))], [(0, .lst .t_aRep p7), (21000, .raw [.own .t_aRep 0, .ro .t_bool p0, .I p1, .I p2]), (21001, .raw (d_aRep p4))]⟩)) (Turns.kp (S' := ⟨[(1, .I p3), (3, .I p5), (4, .cv (.ro .t_aEnt p6)), (5, .P 21000), (7, .P 21001), (11, .I ((p4.Log.getD (Int.toNat (IntKind.i64.wrap (p5 - 1))) z_aEnt).Epoch))], [(0, .lst .t_aRep p7), (21000, .raw [.own .t_aRep 0, .ro .t_bool p0, .I p1, .I p2]), (21001, .raw (d_aRep p4))]⟩)))) ?_
   obtain rfl := Option.some.inj h
   exact ⟨rfl, _, rfl, rfl⟩
  refine ff (b := (decide (p5 > 0))) (decide_eq_false c1) ?_
  refine awp_turn (Turns.trans (Turns.kp (S' := ⟨[(1, .I p3), (3, .I p5), (4, .cv (.ro .t_aEnt p6)), (5, .P 200), (7, .P 201), (11, .I 0)], [(0, .lst .t_aRep p7), (200, .raw [.own .t_aRep 0, .ro .t_bool p0, .I p1, .I p2]), (201, .raw (d_aRep p4))]⟩)) (Turns.rn [(0, 0), (200, 21000), (201, 21001)] (S' := ⟨[(1, .I p3), (3, .I p5), (4, .cv (.ro .t_aEnt p6)), (5, .P 21000), (7, .P 21001), (11, .I 0)], [(0, .lst .t_aRep p7), (21000, .raw [.own .t_aRep 0, .ro .t_bool p0, .I p1, .I p2]), (21001, .raw (d_aRep p4))]⟩))) ?_
  refine sk (S' := ⟨[(1, .I p3), (3, .I p5), (4, .cv (.ro .t_aEnt p6)), (5, .P 21000), (7, .P 21001), (11, .I 0)], [(0, .lst .t_aRep p7), (21000, .raw [.own .t_aRep 0, .ro .t_bool p0, .I p1, .I p2]), (21001, .raw (d_aRep p4))]⟩) ?_
  obtain rfl := Option.some.inj h
  exact ⟨rfl, _, rfl, rfl⟩
 ·rintro e S ⟨rfl, xt11_5, rfl, rfl⟩
  refine awp_seq ?_
  obtain ⟨g2, h⟩ := guard_some h
  obtain ⟨g3, h⟩ := guard_some h
  obtain ⟨⟨a1_0, a1_1⟩, h1, h⟩ := bind_some h
  dsimp only at h
  refine ad L mixed 218 [] [(12, .tup [.agg (d_aRep a1_0), .I a1_1])] [] [234] 19 (cs := [(0 : Int) ≤ p3, (p3 : Int) < (p7.length : Int), (Int.toNat p3) < p7.length, PCall V P 88 [.agg (d_aRep (p7.getD (Int.toNat p3) z_aRep)), .I p4.Epoch, .I p5, .I xt11_5, .cv (.ro .t_aEnt p6), .I p4.Commit] (.tup [.agg (d_aRep a1_0), .I a1_1]), True]) (S' := ⟨[(1, .I p3), (5, .P 21000), (12, .P 234), (13, .I a1_1)], [(0, .lst .t_aRep p7), (234, .raw (d_aRep a1_0)), (21000, .raw [.own .t_aRep 0, .ro .t_bool p0, .I p1, .I p2])]⟩) (And.intro g2.1 (And.intro g2.2 (And.intro g3 (And.intro (replog_Accept.ok h1) trivial)))) ?_
  refine awp_seq ?_
  refine sr0 L 238 [] [] [] (S' := ⟨[(1, .I p3), (5, .P 21000), (12, .P 234), (13, .I a1_1), (40, .B (decide (a1_1 = 0)))], [(0, .lst .t_aRep p7), (234, .raw (d_aRep a1_0)), (21000, .raw [.own .t_aRep 0, .ro .t_bool p0, .I p1, .I p2])]⟩) ?_
  rcases ite_some h with ⟨c2, h⟩ | ⟨c2, h⟩
  ·refine tt (b := (decide (a1_1 = 0))) (decide_eq_true c2) ?_
   refine ar L 241 [] [] [] (cs := [(0 : Int) ≤ p3, (p3 : Int) < (p7.length : Int), (Int.toNat p3) < p7.length, True]) (S' := ⟨[(13, .I a1_1)], [(0, .lst .t_aRep (p7.set (Int.toNat p3) a1_0))]⟩) (And.intro g2.1 (And.intro g2.2 (And.intro g3 trivial))) ?_
   refine sr0 L 248 [] [] [] (S' := ⟨[(10, .B (decide (a1_1 = 0)))], [(0, .lst .t_aRep (p7.set (Int.toNat p3) a1_0))]⟩) ?_
   refine awp_ret ?_
   obtain rfl := Option.some.inj h
   exact er (.B (decide (a1_1 = 0)))
  refine ff (b := (decide (a1_1 = 0))) (decide_eq_false c2) ?_
  refine awp_skip' ?_
  refine sr0 L 248 [] [] [] (S' := ⟨[(10, .B (decide (a1_1 = 0)))], [(0, .lst .t_aRep p7)]⟩) ?_
  refine awp_ret ?_
  obtain rfl := Option.some.inj h
  exact er (.B (decide (a1_1 = 0)))
theorem group_Group_accept_v2.okE {K : Nat} {p0 : List Bool} {p1 : Int} {p2 : Int} {p3 : Int} {p4 : aRep} {p5 : Int} {p6 : List aEnt} {p7 : List aRep} {r : Bool × (List aRep)} (h : group_Group_accept_v2 K p0 p1 p2 p3 p4 p5 p6 p7 = some r) : ECall V P 63 [.agg [.own .t_aRep 0, .ro .t_bool p0, .I p1, .I p2], .I p3, .agg (d_aRep p4), .I p5, .cv (.ro .t_aEnt p6)] [(0, .lst .t_aRep p7)] [0] (.B r.1) [(0, .lst .t_aRep r.2)] :=
 eo (fn := Tryz.f63) (n := 48) (m := 100) fun Γ => group_Group_accept_v2.body h
def quorum_Index (K : Nat) (p0 : List Int) : Option Int := (if (p0.length : Int) = 0 then some 0 else (if p0.length * 8 ≤ 140737488351232 then (Option.bind (quorum_Majority K ((isrt p0).length : Int)) (fun a1 => (if (0 : Int) ≤ (IntKind.i64.wrap (((isrt p0).length : Int) - a1)) ∧ ((IntKind.i64.wrap (((isrt p0).length : Int) - a1)) : Int) < ((isrt p0).length : Int) then (if (Int.toNat (IntKind.i64.wrap (((isrt p0).length : Int) - a1))) < (isrt p0).length then some ((if (0 : Int) > ((isrt p0).getD (Int.toNat (IntKind.i64.wrap (((isrt p0).length : Int) - a1))) (0 : Int)) then 0 else ((isrt p0).getD (Int.toNat (IntKind.i64.wrap (((isrt p0).length : Int) - a1))) (0 : Int)))) else none) else none))) else none))
theorem quorum_Index.body {Γ : Ent} {K : Nat} {p0 : List Int} {r : Int} (h : quorum_Index K p0 = some r) : AWp V P 20 100 Γ (Tryz.f89.body.getD .skip) (EndsE P V Tryz.f89 (.I r) []) ⟨args0 0 [.cv (.ro .t_int p0)], []⟩ := by
 unfold quorum_Index at h
 refine sr0 L 200 [] [] [] (S' := ⟨[(0, .cv (.ro .t_int p0))], []⟩) ?_
 refine awp_seq ?_
 refine sr0 L 202 [] [] [] (S' := ⟨[(0, .cv (.ro .t_int p0)), (6, .B (decide ((p0.length : Int) = 0)))], []⟩) ?_
 rcases ite_some h with ⟨c1, h⟩ | ⟨c1, h⟩
 ·refine tt (b := (decide ((p0.length : Int) = 0))) (decide_eq_true c1) ?_
  refine sr0 L 206 [] [] [] (S' := ⟨[(2, .I 0)], []⟩) ?_
  refine awp_ret ?_
  obtain rfl := Option.some.inj h
  exact er (.I 0)
 refine ff (b := (decide ((p0.length : Int) = 0))) (decide_eq_false c1) ?_
 refine awp_skip' ?_
 refine awp_seq ?_
 obtain ⟨g1, h⟩ := guard_some h
 refine ar L 208 [] [(1, .cv (.fn (.func 103) [] [.pcs [.ro .t_int p0] 0])), (2, .cv (.ron .t_int (isrt p0)))] [] (cs := [PCall V P 98 [.cv (.ro .t_int p0)] (.cv (.fn (.func 103) [] [.pcs [.ro .t_int p0] 0])), True, FCall V P 97 [.cv (.fn (.func 103) [] [.pcs [.ro .t_int p0] 0])] Tag.t_int (isrt p0)]) (S' := ⟨[(3, .cv (.own .t_int 210))], [(210, .lst .t_int (isrt p0))]⟩) (And.intro (slices_Values.ok p0) (And.intro trivial (slices_Sorted.okF p0 g1))) ?_
 refine awp_seq ?_
 obtain ⟨a1, h1, h⟩ := bind_some h
 obtain ⟨g2, h⟩ := guard_some h
 obtain ⟨g3, h⟩ := guard_some h
 refine ar L 213 [] [(5, .I a1)] [] (cs := [PCall V P 75 [.I ((isrt p0).length : Int)] (.I a1), True, (0 : Int) ≤ (IntKind.i64.wrap (((isrt p0).length : Int) - a1)), ((IntKind.i64.wrap (((isrt p0).length : Int) - a1)) : Int) < ((isrt p0).length : Int), (Int.toNat (IntKind.i64.wrap (((isrt p0).length : Int) - a1))) < (isrt p0).length]) (S' := ⟨[(2, .I ((if (0 : Int) > ((isrt p0).getD (Int.toNat (IntKind.i64.wrap (((isrt p0).length : Int) - a1))) (0 : Int)) then 0 else ((isrt p0).getD (Int.toNat (IntKind.i64.wrap (((isrt p0).length : Int) - a1))) (0 : Int)))))], []⟩) (And.intro (quorum_Majority.ok h1) (And.intro trivial (And.intro g2.1 (And.intro g2.2 g3)))) ?_
 refine awp_ret ?_
 obtain rfl := Option.some.inj h
 exact er (.I ((if (0 : Int) > ((isrt p0).getD (Int.toNat (IntKind.i64.wrap (((isrt p0).length : Int) - a1))) (0 : Int)) then 0 else ((isrt p0).getD (Int.toNat (IntKind.i64.wrap (((isrt p0).length : Int) - a1))) (0 : Int)))))
theorem quorum_Index.ok {K : Nat} {p0 : List Int} {r : Int} (h : quorum_Index K p0 = some r) : PCall V P 89 [.cv (.ro .t_int p0)] (.I r) := ECall.pcall (eo (fn := Tryz.f89) (n := 20) (m := 100) fun Γ => quorum_Index.body h) (by kernel_rfl)
def quorum_Commit.l7 (K : Nat) (p0 : aRep) : Nat → Int → Option (Out Int Unit)
 | 0, _ => none
 | k + 1, xt5_7h => (if xt5_7h > p0.Commit then (if xt5_7h > 0 then (if (0 : Int) ≤ (IntKind.i64.wrap (xt5_7h - 1)) ∧ ((IntKind.i64.wrap (xt5_7h - 1)) : Int) < (p0.Log.length : Int) then (if (p0.Log.getD (Int.toNat (IntKind.i64.wrap (xt5_7h - 1))) z_aEnt).Epoch = p0.Epoch then some (Out.done xt5_7h) else quorum_Commit.l7 K p0 k (IntKind.i64.wrap (xt5_7h - 1))) else none) else some (Out.go ())) else some (Out.go ()))
def quorum_Commit (K : Nat) (p0 : aRep) (p1 : List Int) : Option Int := (Option.bind (quorum_Index K p1) (fun a1 => (obind (quorum_Commit.l7 K p0 K (if (p0.Log.length : Int) < a1 then (p0.Log.length : Int) else a1) : Option (Out Int Unit)) (fun r => r) (fun _ => some p0.Commit))))
theorem quorum_Commit.body {Γ : Ent} {K : Nat} {p0 : aRep} {p1 : List Int} {r : Int} (h : quorum_Commit K p0 p1 = some r) : AWp V P 35 100 Γ (Tryz.f64.body.getD .skip) (EndsE P V Tryz.f64 (.I r) []) ⟨args0 0 [.agg (d_aRep p0), .cv (.ro .t_int p1)], []⟩ := by
 unfold quorum_Commit at h
 refine sr0 L 200 [] [] [] (S' := ⟨[(1, .cv (.ro .t_int p1)), (2, .P 200)], [(200, .raw (d_aRep p0))]⟩) ?_
 refine awp_seq ?_
 refine awp_seq ?_
 obtain ⟨a1, h1, h⟩ := bind_some h
 refine ad L mixed 203 [] [(1, .I a1)] [] [] 7 (cs := [PCall V P 89 [.cv (.ro .t_int p1)] (.I a1), True]) (S' := ⟨[(2, .P 200), (5, .I (if (p0.Log.length : Int) < a1 then (p0.Log.length : Int) else a1))], [(200, .raw (d_aRep p0))]⟩) (And.intro (quorum_Index.ok h1) trivial) ?_
 refine awp_block ?_
 refine awp_turn (Turns.trans (Turns.kp (S' := ⟨[(2, .P 200), (5, .I (if (p0.Log.length : Int) < a1 then (p0.Log.length : Int) else a1))], [(200, .raw (d_aRep p0))]⟩)) (Turns.rn [(200, 21500)] (S' := ⟨[(2, .P 21500), (5, .I (if (p0.Log.length : Int) < a1 then (p0.Log.length : Int) else a1))], [(21500, .raw (d_aRep p0))]⟩))) ?_
 refine kp (S' := ⟨[(2, .P 21500), (5, .I (if (p0.Log.length : Int) < a1 then (p0.Log.length : Int) else a1))], [(21500, .raw (d_aRep p0))]⟩) ?_
 obtain ⟨o1, hp1, h⟩ := obind_some h
 refine awp_conseq (Q' := fun e S => (e = .exit 0 ∧ S = ⟨[(2, .P 21400)], [(21400, .raw (d_aRep p0))]⟩ ∧ Out.go () = o1) ∨ (e = .ret ∧ ∃ a, Out.done a = o1 ∧ EndsE P V Tryz.f64 (.I a) [] .ret S)) (awp_loop (fun k S => ∃ xt5_7h : Int, S = ⟨[(2, .P 21500), (5, .I xt5_7h)], [(21500, .raw (d_aRep p0))]⟩ ∧ quorum_Commit.l7 K p0 k xt5_7h = some o1) ?_ ⟨_, rfl, hp1⟩) ?_
 ·clear h hp1
  intro k S hS
  obtain ⟨xt5_7h, rfl, h⟩ := hS
  cases k with
  | zero => cases h
  | succ k =>
  unfold quorum_Commit.l7 at h
  refine awp_seq ?_
  refine awp_seq ?_
  rcases ite_some h with ⟨c1, h⟩ | ⟨c1, h⟩
  ·refine ar L 211 [(4, true)] [] [] (cs := [(decide (xt5_7h > p0.Commit)) = true]) (S' := ⟨[(2, .P 21500), (5, .I xt5_7h), (19, .B (decide (xt5_7h > 0)))], [(21500, .raw (d_aRep p0))]⟩) (decide_eq_true c1) ?_
   rcases ite_some h with ⟨c2, h⟩ | ⟨c2, h⟩
   ·refine tt (b := (decide (xt5_7h > 0))) (decide_eq_true c2) ?_
    refine awp_skip' ?_
    refine awp_seq ?_
    refine awp_block ?_
    refine awp_seq ?_
    obtain ⟨g1, h⟩ := guard_some h
    refine ad L mixed 220 [] [] [] [] 10 (cs := [(0 : Int) ≤ (IntKind.i64.wrap (xt5_7h - 1)), ((IntKind.i64.wrap (xt5_7h - 1)) : Int) < (p0.Log.length : Int)]) (S' := ⟨[(2, .P 21500), (5, .I xt5_7h), (31, .B ((decide ((p0.Log.getD (Int.toNat (IntKind.i64.wrap (xt5_7h - 1))) z_aEnt).Epoch = p0.Epoch))))], [(21500, .raw (d_aRep p0))]⟩) (And.intro g1.1 g1.2) ?_
    rcases ite_some h with ⟨c3, h⟩ | ⟨c3, h⟩
    ·refine tt (b := (decide ((p0.Log.getD (Int.toNat (IntKind.i64.wrap (xt5_7h - 1))) z_aEnt).Epoch = p0.Epoch))) (decide_eq_true c3) ?_
     refine sr0 L 231 [] [] [] (S' := ⟨[(4, .I xt5_7h)], []⟩) ?_
     refine awp_ret ?_
     obtain rfl := Option.some.inj h
     exact .inr ⟨rfl, _, rfl, er (.I xt5_7h)⟩
    refine ff (b := (decide ((p0.Log.getD (Int.toNat (IntKind.i64.wrap (xt5_7h - 1))) z_aEnt).Epoch = p0.Epoch))) (decide_eq_false c3) ?_
    refine awp_skip' ?_
    refine ar0 L 234 [] [] [] (S' := ⟨[(2, .P 21500), (5, .I (IntKind.i64.wrap (xt5_7h - 1)))], [(21500, .raw (d_aRep p0))]⟩) ?_
    exact ⟨k, Nat.lt_succ_self k, _, rfl, h⟩
   refine ff (b := (decide (xt5_7h > 0))) (decide_eq_false c2) ?_
   refine awp_turn (Turns.trans (Turns.kp (S' := ⟨[(2, .P 21500)], [(21500, .raw (d_aRep p0))]⟩)) (Turns.rn [(21500, 21400)] (S' := ⟨[(2, .P 21400)], [(21400, .raw (d_aRep p0))]⟩))) ?_
   refine ex (S' := ⟨[(2, .P 21400)], [(21400, .raw (d_aRep p0))]⟩) ?_
   obtain rfl := Option.some.inj h
   exact .inl ⟨rfl, rfl, rfl⟩
  refine ar L 211 [(4, false)] [] [] (cs := [(decide (xt5_7h > p0.Commit)) = false]) (S' := ⟨[(2, .P 21500), (5, .I xt5_7h), (19, .B false)], [(21500, .raw (d_aRep p0))]⟩) (decide_eq_false c1) ?_
  refine ff (b := false) (rfl) ?_
  refine awp_turn (Turns.trans (Turns.kp (S' := ⟨[(2, .P 21500)], [(21500, .raw (d_aRep p0))]⟩)) (Turns.rn [(21500, 21400)] (S' := ⟨[(2, .P 21400)], [(21400, .raw (d_aRep p0))]⟩))) ?_
  refine ex (S' := ⟨[(2, .P 21400)], [(21400, .raw (d_aRep p0))]⟩) ?_
  obtain rfl := Option.some.inj h
  exact .inl ⟨rfl, rfl, rfl⟩
 ·rintro e S (⟨rfl, rfl, rfl⟩ | ⟨rfl, a, rfl, hr⟩)
  ·rcases h with ⟨_, e1, h⟩ | ⟨_, e1, h⟩
   ·cases e1
   ·have e2 := Out.go.inj e1
    subst e2
    refine ⟨_, Turns.refl, ?_⟩
    refine sr0 L 238 [] [] [] (S' := ⟨[(4, .I p0.Commit)], []⟩) ?_
    refine awp_ret ?_
    obtain rfl := Option.some.inj h
    exact er (.I p0.Commit)
  ·rcases h with ⟨_, e1, h⟩ | ⟨_, e1, h⟩
   ·have e2 := Out.done.inj e1
    subst e2
    subst h
    exact ⟨_, Turns.refl, hr⟩
   ·cases e1
theorem quorum_Commit.ok {K : Nat} {p0 : aRep} {p1 : List Int} {r : Int} (h : quorum_Commit K p0 p1 = some r) : PCall V P 64 [.agg (d_aRep p0), .cv (.ro .t_int p1)] (.I r) := ECall.pcall (eo (fn := Tryz.f64) (n := 35) (m := 100) fun Γ => quorum_Commit.body h) (by kernel_rfl)
def group_Group_replicate_v2.l15 (K : Nat) (p0 : List Bool) (p1 : Int) (p2 : Int) (p3 : Int) (p5 : List aRep) (a1 : List Int) : Nat → Int → (List aRep) → (List Int) → (List Int) → Option ((List aRep) × (List Int) × (List Int))
 | 0, _, _, _, _ => none
 | k + 1, xt35_15h, xh0_15h, x23102, x23103 => (if xt35_15h < (a1.length : Int) then (if (0 : Int) ≤ xt35_15h ∧ (xt35_15h : Int) < (a1.length : Int) then (if (Int.toNat xt35_15h) < a1.length then (if (0 : Int) ≤ (a1.getD (Int.toNat xt35_15h) (0 : Int)) ∧ ((a1.getD (Int.toNat xt35_15h) (0 : Int)) : Int) < (xh0_15h.length : Int) then (if (Int.toNat (a1.getD (Int.toNat xt35_15h) (0 : Int))) < xh0_15h.length then (Option.bind (replog_Common K (p5.getD (Int.toNat p3) z_aRep) (xh0_15h.getD (Int.toNat (a1.getD (Int.toNat xt35_15h) (0 : Int))) z_aRep)) (fun a2 => (if (0 : Int) ≤ a2 ∧ a2 ≤ (((p5.getD (Int.toNat p3) z_aRep).Log).length : Int) then (Option.bind (group_Group_accept_v2 K p0 p1 p2 (a1.getD (Int.toNat xt35_15h) (0 : Int)) (p5.getD (Int.toNat p3) z_aRep) a2 (slc ((p5.getD (Int.toNat p3) z_aRep).Log) a2 (((p5.getD (Int.toNat p3) z_aRep).Log).length : Int)) xh0_15h) (fun (a3_0, a3_1) => (if a3_0 = true then (if ((a1.getD (Int.toNat xt35_15h) (0 : Int)) : Int) < (x23102.length : Int) then (if (Int.toNat (a1.getD (Int.toNat xt35_15h) (0 : Int))) < x23102.length then (if (x23103.length + ([(a1.getD (Int.toNat xt35_15h) (0 : Int))] : List Int).length) * 8 ≤ 140737488355328 then group_Group_replicate_v2.l15 K p0 p1 p2 p3 p5 a1 k (IntKind.i64.wrap (xt35_15h + 1)) a3_1 (x23102.set (Int.toNat (a1.getD (Int.toNat xt35_15h) (0 : Int))) (((p5.getD (Int.toNat p3) z_aRep).Log).length : Int)) (x23103 ++ ([(a1.getD (Int.toNat xt35_15h) (0 : Int))] : List Int)) else none) else none) else none) else group_Group_replicate_v2.l15 K p0 p1 p2 p3 p5 a1 k (IntKind.i64.wrap (xt35_15h + 1)) a3_1 x23102 x23103))) else none))) else none) else none) else none) else none) else some (xh0_15h, x23102, x23103))
def group_Group_replicate_v2.l51 (K : Nat) (p0 : List Bool) (p1 : Int) (p2 : Int) (p3 : Int) (p5 : List aRep) (x23003 : List Int) (a4 : Int) : Nat → Int → (List aRep) → Option (List aRep)
 | 0, _, _ => none
 | k + 1, xt83_51h, xh0_51h => (if xt83_51h < (x23003.length : Int) then (if (0 : Int) ≤ xt83_51h ∧ (xt83_51h : Int) < (x23003.length : Int) then (if (Int.toNat xt83_51h) < x23003.length then (Option.bind (group_Group_accept_v2 K p0 p1 p2 (x23003.getD (Int.toNat xt83_51h) (0 : Int)) (⟨(p5.getD (Int.toNat p3) z_aRep).Epoch, (p5.getD (Int.toNat p3) z_aRep).Vote, a4, (p5.getD (Int.toNat p3) z_aRep).Log⟩ : aRep) (((p5.getD (Int.toNat p3) z_aRep).Log).length : Int) ([] : List aEnt) xh0_51h) (fun (a5_0, a5_1) => group_Group_replicate_v2.l51 K p0 p1 p2 p3 p5 x23003 a4 k (IntKind.i64.wrap (xt83_51h + 1)) a5_1)) else none) else none) else some xh0_51h)
def group_Group_replicate_v2 (K : Nat) (p0 : List Bool) (p1 : Int) (p2 : Int) (p3 : Int) (p4 : List Int) (p5 : List aRep) : Option (List aRep) := (if (0 : Int) ≤ p3 ∧ (p3 : Int) < (p5.length : Int) then (if (Int.toNat p3) < p5.length then (if (0 : Int) ≤ (p5.length : Int) ∧ (8 : Int) * (p5.length : Int) ≤ 281474976710656 then (if (p3 : Int) < ((List.replicate (Int.toNat (p5.length : Int)) (0 : Int)).length : Int) then (if (Int.toNat p3) < (List.replicate (Int.toNat (p5.length : Int)) (0 : Int)).length then (Option.bind (group_Group_others_v2 K (⟨p5, p0, p1, p2⟩ : group_Group) p3 p4) (fun a1 => (Option.bind (group_Group_replicate_v2.l15 K p0 p1 p2 p3 p5 a1 K 0 p5 ((List.replicate (Int.toNat (p5.length : Int)) (0 : Int)).set (Int.toNat p3) (((p5.getD (Int.toNat p3) z_aRep).Log).length : Int)) ([] : List Int) : Option ((List aRep) × (List Int) × (List Int))) (fun (xh0_15, x23002, x23003) => (Option.bind (quorum_Commit K (p5.getD (Int.toNat p3) z_aRep) x23002) (fun a4 => (if (p3 : Int) < (xh0_15.length : Int) then (if (Int.toNat p3) < xh0_15.length then (if a4 ≤ (p5.getD (Int.toNat p3) z_aRep).Commit then some (xh0_15.set (Int.toNat p3) (⟨(p5.getD (Int.toNat p3) z_aRep).Epoch, (p5.getD (Int.toNat p3) z_aRep).Vote, a4, (p5.getD (Int.toNat p3) z_aRep).Log⟩ : aRep)) else (Option.bind (group_Group_replicate_v2.l51 K p0 p1 p2 p3 p5 x23003 a4 K 0 (xh0_15.set (Int.toNat p3) (⟨(p5.getD (Int.toNat p3) z_aRep).Epoch, (p5.getD (Int.toNat p3) z_aRep).Vote, a4, (p5.getD (Int.toNat p3) z_aRep).Log⟩ : aRep)) : Option (List aRep)) (fun xh0_51 => some xh0_51))) else none) else none))))))) else none) else none) else none) else none) else none)
theorem group_Group_replicate_v2.body {Γ : Ent} {K : Nat} {p0 : List Bool} {p1 : Int} {p2 : Int} {p3 : Int} {p4 : List Int} {p5 : List aRep} {r : List aRep} (h : group_Group_replicate_v2 K p0 p1 p2 p3 p4 p5 = some r) : AWp V P 95 100 Γ (Tryz.f31.body.getD .skip) (EndsE P V Tryz.f31 (.tup []) [(0, .lst .t_aRep r)]) ⟨args0 0 [.agg [.own .t_aRep 0, .ro .t_bool p0, .I p1, .I p2], .I p3, .cv (.ro .t_int p4)], [(0, .lst .t_aRep p5)]⟩ := by
 unfold group_Group_replicate_v2 at h
 refine sr0 L 200 [] [] [] (S' := ⟨[(1, .I p3), (2, .cv (.ro .t_int p4)), (3, .P 200)], [(0, .lst .t_aRep p5), (200, .raw [.own .t_aRep 0, .ro .t_bool p0, .I p1, .I p2])]⟩) ?_
 refine awp_seq ?_
 obtain ⟨g1, h⟩ := guard_some h
 obtain ⟨g2, h⟩ := guard_some h
 refine ar L 202 [] [] [] (cs := [(0 : Int) ≤ p3, (p3 : Int) < (p5.length : Int), (Int.toNat p3) < p5.length]) (S' := ⟨[(1, .I p3), (2, .cv (.ro .t_int p4)), (3, .P 200), (6, .P 207)], [(0, .lst .t_aRep p5), (200, .raw [.own .t_aRep 0, .ro .t_bool p0, .I p1, .I p2]), (207, .raw (d_aRep (p5.getD (Int.toNat p3) z_aRep)))]⟩) (And.intro g1.1 (And.intro g1.2 g2)) ?_
 refine awp_seq ?_
 obtain ⟨g3, h⟩ := guard_some h
 refine ar L 210 [] [] [] (cs := [(0 : Int) ≤ (p5.length : Int), (p5.length : Int) ≤ (p5.length : Int), (8 : Int) * (p5.length : Int) ≤ 281474976710656, True]) (S' := ⟨[(1, .I p3), (2, .cv (.ro .t_int p4)), (3, .P 200), (6, .P 207), (7, .cv (.own .t_int 213))], [(0, .lst .t_aRep p5), (200, .raw [.own .t_aRep 0, .ro .t_bool p0, .I p1, .I p2]), (207, .raw (d_aRep (p5.getD (Int.toNat p3) z_aRep))), (213, .lst .t_int (List.replicate (Int.toNat (p5.length : Int)) (0 : Int)))]⟩) (And.intro g3.1 (And.intro (Int.le_refl _) (And.intro g3.2 trivial))) ?_
 refine awp_seq ?_
 obtain ⟨g4, h⟩ := guard_some h
 obtain ⟨g5, h⟩ := guard_some h
 refine ar L 216 [] [] [] (cs := [(0 : Int) ≤ p3, (p3 : Int) < ((List.replicate (Int.toNat (p5.length : Int)) (0 : Int)).length : Int), (Int.toNat p3) < (List.replicate (Int.toNat (p5.length : Int)) (0 : Int)).length, True]) (S' := ⟨[(1, .I p3), (2, .cv (.ro .t_int p4)), (3, .P 200), (6, .P 207), (7, .cv (.own .t_int 213))], [(0, .lst .t_aRep p5), (200, .raw [.own .t_aRep 0, .ro .t_bool p0, .I p1, .I p2]), (207, .raw (d_aRep (p5.getD (Int.toNat p3) z_aRep))), (213, .lst .t_int ((List.replicate (Int.toNat (p5.length : Int)) (0 : Int)).set (Int.toNat p3) (((p5.getD (Int.toNat p3) z_aRep).Log).length : Int)))]⟩) (And.intro g1.1 (And.intro g4 (And.intro g5 trivial))) ?_
 refine sr0 L 224 [] [] [] (S' := ⟨[(1, .I p3), (2, .cv (.ro .t_int p4)), (3, .P 200), (6, .P 207), (7, .cv (.own .t_int 213)), (8, .N)], [(0, .lst .t_aRep p5), (200, .raw [.own .t_aRep 0, .ro .t_bool p0, .I p1, .I p2]), (207, .raw (d_aRep (p5.getD (Int.toNat p3) z_aRep))), (213, .lst .t_int ((List.replicate (Int.toNat (p5.length : Int)) (0 : Int)).set (Int.toNat p3) (((p5.getD (Int.toNat p3) z_aRep).Log).length : Int)))]⟩) ?_
 refine awp_seq ?_
 refine awp_seq ?_
 obtain ⟨a1, h1, h⟩ := bind_some h
 refine ar L 226 [] [(3, .cv (.ron .t_int a1))] [] (cs := [FCall V P 39 [.agg [.ro .t_aRep p5, .ro .t_bool p0, .I p1, .I p2], .I p3, .cv (.ro .t_int p4)] Tag.t_int a1, ∀ x, ∀ c ∈ V.E.k Tag.t_int x, c.flat = true]) (S' := ⟨[(1, .I p3), (3, .P 200), (6, .P 207), (7, .cv (.own .t_int 213)), (8, .N), (33, .cv (.own .t_int 229)), (34, .I (a1.length : Int)), (35, .I 0)], [(0, .lst .t_aRep p5), (200, .raw [.own .t_aRep 0, .ro .t_bool p0, .I p1, .I p2]), (207, .raw (d_aRep (p5.getD (Int.toNat p3) z_aRep))), (213, .lst .t_int ((List.replicate (Int.toNat (p5.length : Int)) (0 : Int)).set (Int.toNat p3) (((p5.getD (Int.toNat p3) z_aRep).Log).length : Int))), (229, .lst .t_int a1)]⟩) (And.intro (group_Group_others_v2.okF h1) flat_t_int) ?_
 refine awp_block ?_
 refine awp_turn (Turns.trans (Turns.kp (S' := ⟨[(1, .I p3), (3, .P 200), (6, .P 207), (7, .cv (.own .t_int 213)), (8, .N), (33, .cv (.own .t_int 229)), (34, .I (a1.length : Int)), (35, .I 0)], [(0, .lst .t_aRep p5), (200, .raw [.own .t_aRep 0, .ro .t_bool p0, .I p1, .I p2]), (207, .raw (d_aRep (p5.getD (Int.toNat p3) z_aRep))), (213, .lst .t_int ((List.replicate (Int.toNat (p5.length : Int)) (0 : Int)).set (Int.toNat p3) (((p5.getD (Int.toNat p3) z_aRep).Log).length : Int))), (229, .lst .t_int a1)]⟩)) (Turns.trans (Turns.nilown 8 9500 Tag.t_int (by kernel_rfl) (by kernel_rfl) (S' := ⟨[(8, .cv (.own .t_int 9500)), (1, .I p3), (3, .P 200), (6, .P 207), (7, .cv (.own .t_int 213)), (33, .cv (.own .t_int 229)), (34, .I (a1.length : Int)), (35, .I 0)], [(9500, .lst .t_int ([] : List Int)), (0, .lst .t_aRep p5), (200, .raw [.own .t_aRep 0, .ro .t_bool p0, .I p1, .I p2]), (207, .raw (d_aRep (p5.getD (Int.toNat p3) z_aRep))), (213, .lst .t_int ((List.replicate (Int.toNat (p5.length : Int)) (0 : Int)).set (Int.toNat p3) (((p5.getD (Int.toNat p3) z_aRep).Log).length : Int))), (229, .lst .t_int a1)]⟩) (by kernel_rfl)) (Turns.trans (Turns.kp (S' := ⟨[(1, .I p3), (3, .P 200), (6, .P 207), (7, .cv (.own .t_int 213)), (8, .cv (.own .t_int 9500)), (33, .cv (.own .t_int 229)), (34, .I (a1.length : Int)), (35, .I 0)], [(0, .lst .t_aRep p5), (200, .raw [.own .t_aRep 0, .ro .t_bool p0, .I p1, .I p2]), (207, .raw (d_aRep (p5.getD (Int.toNat p3) z_aRep))), (213, .lst .t_int ((List.replicate (Int.toNat (p5.length : Int)) (0 : Int)).set (Int.toNat p3) (((p5.getD (Int.toNat p3) z_aRep).Log).length : Int))), (229, .lst .t_int a1), (9500, .lst .t_int ([] : List Int))]⟩)) (Turns.rn [(0, 0), (200, 23100), (207, 23101), (213, 23102), (229, 23104), (9500, 23103)] (S' := ⟨[(1, .I p3), (3, .P 23100), (6, .P 23101), (7, .cv (.own .t_int 23102)), (8, .cv (.own .t_int 23103)), (33, .cv (.own .t_int 23104)), (34, .I (a1.length : Int)), (35, .I 0)], [(0, .lst .t_aRep p5), (23100, .raw [.own .t_aRep 0, .ro .t_bool p0, .I p1, .I p2]), (23101, .raw (d_aRep (p5.getD (Int.toNat p3) z_aRep))), (23102, .lst .t_int ((List.replicate (Int.toNat (p5.length : Int)) (0 : Int)).set (Int.toNat p3) (((p5.getD (Int.toNat p3) z_aRep).Log).length : Int))), (23104, .lst .t_int a1), (23103, .lst .t_int ([] : List Int))]⟩))))) ?_
 refine kp (S' := ⟨[(1, .I p3), (3, .P 23100), (6, .P 23101), (7, .cv (.own .t_int 23102)), (8, .cv (.own .t_int 23103)), (33, .cv (.own .t_int 23104)), (34, .I (a1.length : Int)), (35, .I 0)], [(0, .lst .t_aRep p5), (23100, .raw [.own .t_aRep 0, .ro .t_bool p0, .I p1, .I p2]), (23101, .raw (d_aRep (p5.getD (Int.toNat p3) z_aRep))), (23102, .lst .t_int ((List.replicate (Int.toNat (p5.length : Int)) (0 : Int)).set (Int.toNat p3) (((p5.getD (Int.toNat p3) z_aRep).Log).length : Int))), (23103, .lst .t_int ([] : List Int)), (23104, .lst .t_int a1)]⟩) ?_
 obtain ⟨o1, hp1, h⟩ := bind_some h
 refine awp_conseq (Q' := fun e S => (e = .exit 0 ∧ ∃ xh0_15 : List aRep, ∃ x23002 : List Int, ∃ x23003 : List Int, S = ⟨[(1, .I p3), (3, .P 23000), (6, .P 23001), (7, .cv (.own .t_int 23002)), (8, .cv (.own .t_int 23003))], [(0, .lst .t_aRep xh0_15), (23000, .raw [.own .t_aRep 0, .ro .t_bool p0, .I p1, .I p2]), (23001, .raw (d_aRep (p5.getD (Int.toNat p3) z_aRep))), (23002, .lst .t_int x23002), (23003, .lst .t_int x23003)]⟩ ∧ (xh0_15, x23002, x23003) = o1)) (awp_loop (fun k S => ∃ xt35_15h : Int, ∃ xh0_15h : List aRep, ∃ x23102 : List Int, ∃ x23103 : List Int, S = ⟨[(1, .I p3), (3, .P 23100), (6, .P 23101), (7, .cv (.own .t_int 23102)), (8, .cv (.own .t_int 23103)), (33, .cv (.own .t_int 23104)), (34, .I (a1.length : Int)), (35, .I xt35_15h)], [(0, .lst .t_aRep xh0_15h), (23100, .raw [.own .t_aRep 0, .ro .t_bool p0, .I p1, .I p2]), (23101, .raw (d_aRep (p5.getD (Int.toNat p3) z_aRep))), (23102, .lst .t_int x23102), (23103, .lst .t_int x23103), (23104, .lst .t_int a1)]⟩ ∧ group_Group_replicate_v2.l15 K p0 p1 p2 p3 p5 a1 k xt35_15h xh0_15h x23102 x23103 = some o1) ?_ ⟨_, _, _, _, rfl, hp1⟩) ?_
 ·clear h hp1
  intro k S hS
  obtain ⟨xt35_15h, xh0_15h, x23102, x23103, rfl, h⟩ := hS
  cases k with
  | zero => cases h
  | succ k =>
  unfold group_Group_replicate_v2.l15 at h
  refine sr0 L 233 [] [] [] (S' := ⟨[(1, .I p3), (3, .P 23100), (6, .P 23101), (7, .cv (.own .t_int 23102)), (8, .cv (.own .t_int 23103)), (33, .cv (.own .t_int 23104)), (34, .I (a1.length : Int)), (35, .I xt35_15h), (36, .B (decide (xt35_15h < (a1.length : Int))))], [(0, .lst .t_aRep xh0_15h), (23100, .raw [.own .t_aRep 0, .ro .t_bool p0, .I p1, .I p2]), (23101, .raw (d_aRep (p5.getD (Int.toNat p3) z_aRep))), (23102, .lst .t_int x23102), (23103, .lst .t_int x23103), (23104, .lst .t_int a1)]⟩) ?_
  refine awp_seq ?_
  rcases ite_some h with ⟨c1, h⟩ | ⟨c1, h⟩
  ·refine tt (b := (decide (xt35_15h < (a1.length : Int)))) (decide_eq_true c1) ?_
   refine awp_skip' ?_
   refine awp_seq ?_
   refine awp_block ?_
   refine awp_seq ?_
   obtain ⟨g6, h⟩ := guard_some h
   obtain ⟨g7, h⟩ := guard_some h
   refine ar L 235 [] [] [] (cs := [(0 : Int) ≤ xt35_15h, (xt35_15h : Int) < (a1.length : Int), (Int.toNat xt35_15h) < a1.length]) (S' := ⟨[(1, .I p3), (3, .P 23100), (6, .P 23101), (7, .cv (.own .t_int 23102)), (8, .cv (.own .t_int 23103)), (10, .I (a1.getD (Int.toNat xt35_15h) (0 : Int))), (33, .cv (.own .t_int 23104)), (34, .I (a1.length : Int)), (35, .I xt35_15h)], [(0, .lst .t_aRep xh0_15h), (23100, .raw [.own .t_aRep 0, .ro .t_bool p0, .I p1, .I p2]), (23101, .raw (d_aRep (p5.getD (Int.toNat p3) z_aRep))), (23102, .lst .t_int x23102), (23103, .lst .t_int x23103), (23104, .lst .t_int a1)]⟩) (And.intro g6.1 (And.intro g6.2 g7)) ?_
   refine awp_seq ?_
   obtain ⟨g8, h⟩ := guard_some h
   obtain ⟨g9, h⟩ := guard_some h
   obtain ⟨a2, h2, h⟩ := bind_some h
   refine ad L mixed 239 [] [(6, .I a2)] [] [] 8 (cs := [(0 : Int) ≤ (a1.getD (Int.toNat xt35_15h) (0 : Int)), ((a1.getD (Int.toNat xt35_15h) (0 : Int)) : Int) < (xh0_15h.length : Int), (Int.toNat (a1.getD (Int.toNat xt35_15h) (0 : Int))) < xh0_15h.length, PCall V P 32 [.agg (d_aRep (p5.getD (Int.toNat p3) z_aRep)), .agg (d_aRep (xh0_15h.getD (Int.toNat (a1.getD (Int.toNat xt35_15h) (0 : Int))) z_aRep))] (.I a2), True]) (S' := ⟨[(1, .I p3), (3, .P 23100), (6, .P 23101), (7, .cv (.own .t_int 23102)), (8, .cv (.own .t_int 23103)), (10, .I (a1.getD (Int.toNat xt35_15h) (0 : Int))), (11, .I a2), (33, .cv (.own .t_int 23104)), (34, .I (a1.length : Int)), (35, .I xt35_15h)], [(0, .lst .t_aRep xh0_15h), (23100, .raw [.own .t_aRep 0, .ro .t_bool p0, .I p1, .I p2]), (23101, .raw (d_aRep (p5.getD (Int.toNat p3) z_aRep))), (23102, .lst .t_int x23102), (23103, .lst .t_int x23103), (23104, .lst .t_int a1)]⟩) (And.intro g8.1 (And.intro g8.2 (And.intro g9 (And.intro (replog_Common.ok h2) trivial)))) ?_
   refine awp_seq ?_
   obtain ⟨g10, h⟩ := guard_some h
   obtain ⟨⟨a3_0, a3_1⟩, h3, h⟩ := bind_some h
   dsimp only at h
   refine ad L mixed 248 [] [] [(8, { hids := [0], fx := [0], r := .B a3_0, H' := [(0, .lst .t_aRep a3_1)], σ := [(0, 0)] })] [] 8 (cs := [(0 : Int) ≤ a2, a2 ≤ (((p5.getD (Int.toNat p3) z_aRep).Log).length : Int), (((p5.getD (Int.toNat p3) z_aRep).Log).length : Int) ≤ (((p5.getD (Int.toNat p3) z_aRep).Log).length : Int), ECall V P 63 [.agg [.own .t_aRep 0, .ro .t_bool p0, .I p1, .I p2], .I (a1.getD (Int.toNat xt35_15h) (0 : Int)), .agg (d_aRep (p5.getD (Int.toNat p3) z_aRep)), .I a2, .cv (.ro .t_aEnt (slc ((p5.getD (Int.toNat p3) z_aRep).Log) a2 (((p5.getD (Int.toNat p3) z_aRep).Log).length : Int)))] [(0, .lst .t_aRep xh0_15h)] [0] (.B a3_0) [(0, .lst .t_aRep a3_1)]]) (S' := ⟨[(1, .I p3), (3, .P 23100), (6, .P 23101), (7, .cv (.own .t_int 23102)), (8, .cv (.own .t_int 23103)), (10, .I (a1.getD (Int.toNat xt35_15h) (0 : Int))), (33, .cv (.own .t_int 23104)), (34, .I (a1.length : Int)), (35, .I xt35_15h), (54, .B a3_0)], [(0, .lst .t_aRep a3_1), (23100, .raw [.own .t_aRep 0, .ro .t_bool p0, .I p1, .I p2]), (23101, .raw (d_aRep (p5.getD (Int.toNat p3) z_aRep))), (23102, .lst .t_int x23102), (23103, .lst .t_int x23103), (23104, .lst .t_int a1)]⟩) (And.intro g10.1 (And.intro g10.2 (And.intro (Int.le_refl _) (group_Group_accept_v2.okE h3)))) ?_
   rcases ite_some h with ⟨c2, h⟩ | ⟨c2, h⟩
   ·refine tt (b := a3_0) (c2) ?_
    refine awp_seq ?_
    obtain ⟨g11, h⟩ := guard_some h
    obtain ⟨g12, h⟩ := guard_some h
    refine ar L 258 [] [] [] (cs := [(0 : Int) ≤ (a1.getD (Int.toNat xt35_15h) (0 : Int)), ((a1.getD (Int.toNat xt35_15h) (0 : Int)) : Int) < (x23102.length : Int), (Int.toNat (a1.getD (Int.toNat xt35_15h) (0 : Int))) < x23102.length, True]) (S' := ⟨[(1, .I p3), (3, .P 23100), (6, .P 23101), (7, .cv (.own .t_int 23102)), (8, .cv (.own .t_int 23103)), (10, .I (a1.getD (Int.toNat xt35_15h) (0 : Int))), (33, .cv (.own .t_int 23104)), (34, .I (a1.length : Int)), (35, .I xt35_15h)], [(0, .lst .t_aRep a3_1), (23100, .raw [.own .t_aRep 0, .ro .t_bool p0, .I p1, .I p2]), (23101, .raw (d_aRep (p5.getD (Int.toNat p3) z_aRep))), (23102, .lst .t_int (x23102.set (Int.toNat (a1.getD (Int.toNat xt35_15h) (0 : Int))) (((p5.getD (Int.toNat p3) z_aRep).Log).length : Int))), (23103, .lst .t_int x23103), (23104, .lst .t_int a1)]⟩) (And.intro g8.1 (And.intro g11 (And.intro g12 trivial))) ?_
    obtain ⟨g13, h⟩ := guard_some h
    refine ar L 266 [] [] [] (cs := [(x23103.length + ([(a1.getD (Int.toNat xt35_15h) (0 : Int))] : List Int).length) * 8 ≤ 140737488355328, True]) (S' := ⟨[(1, .I p3), (3, .P 23100), (6, .P 23101), (7, .cv (.own .t_int 23102)), (8, .cv (.own .t_int 23103)), (33, .cv (.own .t_int 23104)), (34, .I (a1.length : Int)), (35, .I xt35_15h)], [(0, .lst .t_aRep a3_1), (23100, .raw [.own .t_aRep 0, .ro .t_bool p0, .I p1, .I p2]), (23101, .raw (d_aRep (p5.getD (Int.toNat p3) z_aRep))), (23102, .lst .t_int (x23102.set (Int.toNat (a1.getD (Int.toNat xt35_15h) (0 : Int))) (((p5.getD (Int.toNat p3) z_aRep).Log).length : Int))), (23103, .lst .t_int (x23103 ++ ([(a1.getD (Int.toNat xt35_15h) (0 : Int))] : List Int))), (23104, .lst .t_int a1)]⟩) (And.intro g13 trivial) ?_
    refine ar0 L 272 [] [] [] (S' := ⟨[(1, .I p3), (3, .P 23100), (6, .P 23101), (7, .cv (.own .t_int 23102)), (8, .cv (.own .t_int 23103)), (33, .cv (.own .t_int 23104)), (34, .I (a1.length : Int)), (35, .I (IntKind.i64.wrap (xt35_15h + 1)))], [(0, .lst .t_aRep a3_1), (23100, .raw [.own .t_aRep 0, .ro .t_bool p0, .I p1, .I p2]), (23101, .raw (d_aRep (p5.getD (Int.toNat p3) z_aRep))), (23102, .lst .t_int (x23102.set (Int.toNat (a1.getD (Int.toNat xt35_15h) (0 : Int))) (((p5.getD (Int.toNat p3) z_aRep).Log).length : Int))), (23103, .lst .t_int (x23103 ++ ([(a1.getD (Int.toNat xt35_15h) (0 : Int))] : List Int))), (23104, .lst .t_int a1)]⟩) ?_
    exact ⟨k, Nat.lt_succ_self k, _, _, _, _, rfl, h⟩
   refine ff (b := a3_0) (eq_false_of_ne_true c2) ?_
   refine awp_skip' ?_
   refine ar0 L 272 [] [] [] (S' := ⟨[(1, .I p3), (3, .P 23100), (6, .P 23101), (7, .cv (.own .t_int 23102)), (8, .cv (.own .t_int 23103)), (33, .cv (.own .t_int 23104)), (34, .I (a1.length : Int)), (35, .I (IntKind.i64.wrap (xt35_15h + 1)))], [(0, .lst .t_aRep a3_1), (23100, .raw [.own .t_aRep 0, .ro .t_bool p0, .I p1, .I p2]), (23101, .raw (d_aRep (p5.getD (Int.toNat p3) z_aRep))), (23102, .lst .t_int x23102), (23103, .lst .t_int x23103), (23104, .lst .t_int a1)]⟩) ?_
   exact ⟨k, Nat.lt_succ_self k, _, _, _, _, rfl, h⟩
  refine ff (b := (decide (xt35_15h < (a1.length : Int)))) (decide_eq_false c1) ?_
  refine awp_turn (Turns.trans (Turns.kp (S' := ⟨[(1, .I p3), (3, .P 23100), (6, .P 23101), (7, .cv (.own .t_int 23102)), (8, .cv (.own .t_int 23103))], [(0, .lst .t_aRep xh0_15h), (23100, .raw [.own .t_aRep 0, .ro .t_bool p0, .I p1, .I p2]), (23101, .raw (d_aRep (p5.getD (Int.toNat p3) z_aRep))), (23102, .lst .t_int x23102), (23103, .lst .t_int x23103)]⟩)) (Turns.rn [(0, 0), (23100, 23000), (23101, 23001), (23102, 23002), (23103, 23003)] (S' := ⟨[(1, .I p3), (3, .P 23000), (6, .P 23001), (7, .cv (.own .t_int 23002)), (8, .cv (.own .t_int 23003))], [(0, .lst .t_aRep xh0_15h), (23000, .raw [.own .t_aRep 0, .ro .t_bool p0, .I p1, .I p2]), (23001, .raw (d_aRep (p5.getD (Int.toNat p3) z_aRep))), (23002, .lst .t_int x23102), (23003, .lst .t_int x23103)]⟩))) ?_
  refine ex (S' := ⟨[(1, .I p3), (3, .P 23000), (6, .P 23001), (7, .cv (.own .t_int 23002)), (8, .cv (.own .t_int 23003))], [(0, .lst .t_aRep xh0_15h), (23000, .raw [.own .t_aRep 0, .ro .t_bool p0, .I p1, .I p2]), (23001, .raw (d_aRep (p5.getD (Int.toNat p3) z_aRep))), (23002, .lst .t_int x23102), (23003, .lst .t_int x23103)]⟩) ?_
  obtain rfl := Option.some.inj h
  exact ⟨rfl, _, _, _, rfl, rfl⟩
 ·rintro e S ⟨rfl, xh0_15, x23002, x23003, rfl, rfl⟩
  dsimp only at h
  refine ⟨_, Turns.refl, ?_⟩
  refine sr0 L 275 [] [] [] (S' := ⟨[(1, .I p3), (3, .P 23000), (6, .P 23001), (7, .cv (.own .t_int 23002)), (8, .cv (.own .t_int 23003)), (12, .I ((p5.getD (Int.toNat p3) z_aRep).Commit))], [(0, .lst .t_aRep xh0_15), (23000, .raw [.own .t_aRep 0, .ro .t_bool p0, .I p1, .I p2]), (23001, .raw (d_aRep (p5.getD (Int.toNat p3) z_aRep))), (23002, .lst .t_int x23002), (23003, .lst .t_int x23003)]⟩) ?_
  refine awp_seq ?_
  obtain ⟨a4, h4, h⟩ := bind_some h
  refine ar L 279 [] [(2, .I a4)] [] (cs := [PCall V P 64 [.agg (d_aRep (p5.getD (Int.toNat p3) z_aRep)), .cv (.ro .t_int x23002)] (.I a4), True]) (S' := ⟨[(1, .I p3), (3, .P 23000), (6, .P 23001), (8, .cv (.own .t_int 23003)), (12, .I ((p5.getD (Int.toNat p3) z_aRep).Commit))], [(0, .lst .t_aRep xh0_15), (23000, .raw [.own .t_aRep 0, .ro .t_bool p0, .I p1, .I p2]), (23001, .raw [.I ((p5.getD (Int.toNat p3) z_aRep).Epoch), .I ((p5.getD (Int.toNat p3) z_aRep).Vote), .I a4, .ro .t_aEnt ((p5.getD (Int.toNat p3) z_aRep).Log)]), (23003, .lst .t_int x23003)]⟩) (And.intro (quorum_Commit.ok h4) trivial) ?_
  refine awp_seq ?_
  obtain ⟨g14, h⟩ := guard_some h
  obtain ⟨g15, h⟩ := guard_some h
  refine ar L 285 [] [] [] (cs := [(0 : Int) ≤ p3, (p3 : Int) < (xh0_15.length : Int), (Int.toNat p3) < xh0_15.length, True]) (S' := ⟨[(3, .P 23000), (6, .P 23001), (8, .cv (.own .t_int 23003)), (12, .I ((p5.getD (Int.toNat p3) z_aRep).Commit))], [(0, .lst .t_aRep (xh0_15.set (Int.toNat p3) (⟨(p5.getD (Int.toNat p3) z_aRep).Epoch, (p5.getD (Int.toNat p3) z_aRep).Vote, a4, (p5.getD (Int.toNat p3) z_aRep).Log⟩ : aRep))), (23000, .raw [.own .t_aRep 0, .ro .t_bool p0, .I p1, .I p2]), (23001, .raw [.I ((p5.getD (Int.toNat p3) z_aRep).Epoch), .I ((p5.getD (Int.toNat p3) z_aRep).Vote), .I a4, .ro .t_aEnt ((p5.getD (Int.toNat p3) z_aRep).Log)]), (23003, .lst .t_int x23003)]⟩) (And.intro g1.1 (And.intro g14 (And.intro g15 trivial))) ?_
  refine awp_seq ?_
  refine sr0 L 292 [] [] [] (S' := ⟨[(3, .P 23000), (6, .P 23001), (8, .cv (.own .t_int 23003)), (80, .B (decide (a4 ≤ (p5.getD (Int.toNat p3) z_aRep).Commit)))], [(0, .lst .t_aRep (xh0_15.set (Int.toNat p3) (⟨(p5.getD (Int.toNat p3) z_aRep).Epoch, (p5.getD (Int.toNat p3) z_aRep).Vote, a4, (p5.getD (Int.toNat p3) z_aRep).Log⟩ : aRep))), (23000, .raw [.own .t_aRep 0, .ro .t_bool p0, .I p1, .I p2]), (23001, .raw [.I ((p5.getD (Int.toNat p3) z_aRep).Epoch), .I ((p5.getD (Int.toNat p3) z_aRep).Vote), .I a4, .ro .t_aEnt ((p5.getD (Int.toNat p3) z_aRep).Log)]), (23003, .lst .t_int x23003)]⟩) ?_
  rcases ite_some h with ⟨c3, h⟩ | ⟨c3, h⟩
  ·refine tt (b := (decide (a4 ≤ (p5.getD (Int.toNat p3) z_aRep).Commit))) (decide_eq_true c3) ?_
   refine awp_ret ?_
   obtain rfl := Option.some.inj h
   exact er (.tup [])
  refine ff (b := (decide (a4 ≤ (p5.getD (Int.toNat p3) z_aRep).Commit))) (decide_eq_false c3) ?_
  refine awp_skip' ?_
  refine sr0 L 297 [] [] [] (S' := ⟨[(3, .P 23000), (6, .P 23001), (81, .cv (.own .t_int 23003)), (82, .I (x23003.length : Int)), (83, .I 0)], [(0, .lst .t_aRep (xh0_15.set (Int.toNat p3) (⟨(p5.getD (Int.toNat p3) z_aRep).Epoch, (p5.getD (Int.toNat p3) z_aRep).Vote, a4, (p5.getD (Int.toNat p3) z_aRep).Log⟩ : aRep))), (23000, .raw [.own .t_aRep 0, .ro .t_bool p0, .I p1, .I p2]), (23001, .raw [.I ((p5.getD (Int.toNat p3) z_aRep).Epoch), .I ((p5.getD (Int.toNat p3) z_aRep).Vote), .I a4, .ro .t_aEnt ((p5.getD (Int.toNat p3) z_aRep).Log)]), (23003, .lst .t_int x23003)]⟩) ?_
  refine awp_block ?_
  refine awp_turn (Turns.trans (Turns.kp (S' := ⟨[(3, .P 23000), (6, .P 23001), (81, .cv (.own .t_int 23003)), (82, .I (x23003.length : Int)), (83, .I 0)], [(0, .lst .t_aRep (xh0_15.set (Int.toNat p3) (⟨(p5.getD (Int.toNat p3) z_aRep).Epoch, (p5.getD (Int.toNat p3) z_aRep).Vote, a4, (p5.getD (Int.toNat p3) z_aRep).Log⟩ : aRep))), (23000, .raw [.own .t_aRep 0, .ro .t_bool p0, .I p1, .I p2]), (23001, .raw [.I ((p5.getD (Int.toNat p3) z_aRep).Epoch), .I ((p5.getD (Int.toNat p3) z_aRep).Vote), .I a4, .ro .t_aEnt ((p5.getD (Int.toNat p3) z_aRep).Log)]), (23003, .lst .t_int x23003)]⟩)) (Turns.rn [(0, 0), (23000, 30300), (23001, 30301), (23003, 30302)] (S' := ⟨[(3, .P 30300), (6, .P 30301), (81, .cv (.own .t_int 30302)), (82, .I (x23003.length : Int)), (83, .I 0)], [(0, .lst .t_aRep (xh0_15.set (Int.toNat p3) (⟨(p5.getD (Int.toNat p3) z_aRep).Epoch, (p5.getD (Int.toNat p3) z_aRep).Vote, a4, (p5.getD (Int.toNat p3) z_aRep).Log⟩ : aRep))), (30300, .raw [.own .t_aRep 0, .ro .t_bool p0, .I p1, .I p2]), (30301, .raw [.I ((p5.getD (Int.toNat p3) z_aRep).Epoch), .I ((p5.getD (Int.toNat p3) z_aRep).Vote), .I a4, .ro .t_aEnt ((p5.getD (Int.toNat p3) z_aRep).Log)]), (30302, .lst .t_int x23003)]⟩))) ?_
  refine kp (S' := ⟨[(3, .P 30300), (6, .P 30301), (81, .cv (.own .t_int 30302)), (82, .I (x23003.length : Int)), (83, .I 0)], [(0, .lst .t_aRep (xh0_15.set (Int.toNat p3) (⟨(p5.getD (Int.toNat p3) z_aRep).Epoch, (p5.getD (Int.toNat p3) z_aRep).Vote, a4, (p5.getD (Int.toNat p3) z_aRep).Log⟩ : aRep))), (30300, .raw [.own .t_aRep 0, .ro .t_bool p0, .I p1, .I p2]), (30301, .raw [.I ((p5.getD (Int.toNat p3) z_aRep).Epoch), .I ((p5.getD (Int.toNat p3) z_aRep).Vote), .I a4, .ro .t_aEnt ((p5.getD (Int.toNat p3) z_aRep).Log)]), (30302, .lst .t_int x23003)]⟩) ?_
  obtain ⟨o2, hp2, h⟩ := bind_some h
  refine awp_conseq (Q' := fun e S => (e = .exit 2 ∧ ∃ xh0_51 : List aRep, S = ⟨[], [(0, .lst .t_aRep xh0_51)]⟩ ∧ xh0_51 = o2)) (awp_loop (fun k S => ∃ xt83_51h : Int, ∃ xh0_51h : List aRep, S = ⟨[(3, .P 30300), (6, .P 30301), (81, .cv (.own .t_int 30302)), (82, .I (x23003.length : Int)), (83, .I xt83_51h)], [(0, .lst .t_aRep xh0_51h), (30300, .raw [.own .t_aRep 0, .ro .t_bool p0, .I p1, .I p2]), (30301, .raw [.I ((p5.getD (Int.toNat p3) z_aRep).Epoch), .I ((p5.getD (Int.toNat p3) z_aRep).Vote), .I a4, .ro .t_aEnt ((p5.getD (Int.toNat p3) z_aRep).Log)]), (30302, .lst .t_int x23003)]⟩ ∧ group_Group_replicate_v2.l51 K p0 p1 p2 p3 p5 x23003 a4 k xt83_51h xh0_51h = some o2) ?_ ⟨_, _, rfl, hp2⟩) ?_
  ·clear h hp2
   intro k S hS
   obtain ⟨xt83_51h, xh0_51h, rfl, h⟩ := hS
   cases k with
   | zero => cases h
   | succ k =>
   unfold group_Group_replicate_v2.l51 at h
   refine sr0 L 301 [] [] [] (S' := ⟨[(3, .P 30300), (6, .P 30301), (81, .cv (.own .t_int 30302)), (82, .I (x23003.length : Int)), (83, .I xt83_51h), (84, .B (decide (xt83_51h < (x23003.length : Int))))], [(0, .lst .t_aRep xh0_51h), (30300, .raw [.own .t_aRep 0, .ro .t_bool p0, .I p1, .I p2]), (30301, .raw [.I ((p5.getD (Int.toNat p3) z_aRep).Epoch), .I ((p5.getD (Int.toNat p3) z_aRep).Vote), .I a4, .ro .t_aEnt ((p5.getD (Int.toNat p3) z_aRep).Log)]), (30302, .lst .t_int x23003)]⟩) ?_
   refine awp_seq ?_
   rcases ite_some h with ⟨c4, h⟩ | ⟨c4, h⟩
   ·refine tt (b := (decide (xt83_51h < (x23003.length : Int)))) (decide_eq_true c4) ?_
    refine awp_skip' ?_
    refine awp_seq ?_
    refine awp_block ?_
    refine awp_seq ?_
    obtain ⟨g16, h⟩ := guard_some h
    obtain ⟨g17, h⟩ := guard_some h
    refine ar L 303 [] [] [] (cs := [(0 : Int) ≤ xt83_51h, (xt83_51h : Int) < (x23003.length : Int), (Int.toNat xt83_51h) < x23003.length]) (S' := ⟨[(3, .P 30300), (6, .P 30301), (14, .I (x23003.getD (Int.toNat xt83_51h) (0 : Int))), (81, .cv (.own .t_int 30302)), (82, .I (x23003.length : Int)), (83, .I xt83_51h)], [(0, .lst .t_aRep xh0_51h), (30300, .raw [.own .t_aRep 0, .ro .t_bool p0, .I p1, .I p2]), (30301, .raw [.I ((p5.getD (Int.toNat p3) z_aRep).Epoch), .I ((p5.getD (Int.toNat p3) z_aRep).Vote), .I a4, .ro .t_aEnt ((p5.getD (Int.toNat p3) z_aRep).Log)]), (30302, .lst .t_int x23003)]⟩) (And.intro g16.1 (And.intro g16.2 g17)) ?_
    obtain ⟨⟨a5_0, a5_1⟩, h5, h⟩ := bind_some h
    dsimp only at h
    refine ar L 307 [] [] [(6, { hids := [0], fx := [0], r := .B a5_0, H' := [(0, .lst .t_aRep a5_1)], σ := [(0, 0)] })] (cs := [ECall V P 63 [.agg [.own .t_aRep 0, .ro .t_bool p0, .I p1, .I p2], .I (x23003.getD (Int.toNat xt83_51h) (0 : Int)), .agg [.I ((p5.getD (Int.toNat p3) z_aRep).Epoch), .I ((p5.getD (Int.toNat p3) z_aRep).Vote), .I a4, .ro .t_aEnt ((p5.getD (Int.toNat p3) z_aRep).Log)], .I (((p5.getD (Int.toNat p3) z_aRep).Log).length : Int), .N] [(0, .lst .t_aRep xh0_51h)] [0] (.B a5_0) [(0, .lst .t_aRep a5_1)]]) (S' := ⟨[(3, .P 30300), (6, .P 30301), (81, .cv (.own .t_int 30302)), (82, .I (x23003.length : Int)), (83, .I xt83_51h)], [(0, .lst .t_aRep a5_1), (30300, .raw [.own .t_aRep 0, .ro .t_bool p0, .I p1, .I p2]), (30301, .raw [.I ((p5.getD (Int.toNat p3) z_aRep).Epoch), .I ((p5.getD (Int.toNat p3) z_aRep).Vote), .I a4, .ro .t_aEnt ((p5.getD (Int.toNat p3) z_aRep).Log)]), (30302, .lst .t_int x23003)]⟩) (ECall.co (group_Group_accept_v2.okE h5) (by kernel_rfl) (by kernel_rfl)) ?_
    refine ar0 L 315 [] [] [] (S' := ⟨[(3, .P 30300), (6, .P 30301), (81, .cv (.own .t_int 30302)), (82, .I (x23003.length : Int)), (83, .I (IntKind.i64.wrap (xt83_51h + 1)))], [(0, .lst .t_aRep a5_1), (30300, .raw [.own .t_aRep 0, .ro .t_bool p0, .I p1, .I p2]), (30301, .raw [.I ((p5.getD (Int.toNat p3) z_aRep).Epoch), .I ((p5.getD (Int.toNat p3) z_aRep).Vote), .I a4, .ro .t_aEnt ((p5.getD (Int.toNat p3) z_aRep).Log)]), (30302, .lst .t_int x23003)]⟩) ?_
    exact ⟨k, Nat.lt_succ_self k, _, _, rfl, h⟩
   refine ff (b := (decide (xt83_51h < (x23003.length : Int)))) (decide_eq_false c4) ?_
   refine ex (S' := ⟨[], [(0, .lst .t_aRep xh0_51h)]⟩) ?_
   obtain rfl := Option.some.inj h
   exact ⟨rfl, _, rfl, rfl⟩
  ·rintro e S ⟨rfl, xh0_51, rfl, rfl⟩
   refine ⟨_, Turns.kp (S' := ⟨[], [(0, .lst .t_aRep xh0_51)]⟩), ?_⟩
   obtain rfl := Option.some.inj h
   exact en (.tup [])
theorem group_Group_replicate_v2.okE {K : Nat} {p0 : List Bool} {p1 : Int} {p2 : Int} {p3 : Int} {p4 : List Int} {p5 : List aRep} {r : List aRep} (h : group_Group_replicate_v2 K p0 p1 p2 p3 p4 p5 = some r) : ECall V P 31 [.agg [.own .t_aRep 0, .ro .t_bool p0, .I p1, .I p2], .I p3, .cv (.ro .t_int p4)] [(0, .lst .t_aRep p5)] [0] (.tup []) [(0, .lst .t_aRep r)] :=
 eo (fn := Tryz.f31) (n := 95) (m := 100) fun Γ => group_Group_replicate_v2.body h
end Go.Proofs.YtmafcdkdcfaajaaGreat
