/- What functions of the program compute, as Lean functions, and that they compute it. -/
import Derived.Test.YtkcaccppmenfmaaTy
set_option linter.unusedVariables false
namespace Go.Proofs.Ytkcaccppmenfmaa
open Eng

def ballot_Newer (K : Nat) (p0 : Int) (p1 : Int) (p2 : Int) (p3 : Int) : Option Bool := (if p1 ≠ p3 then some ((decide (p1 > p3))) else some ((decide (p0 ≥ p2))))

theorem ballot_Newer.body {Γ : Ent} {K : Nat} {p0 : Int} {p1 : Int} {p2 : Int} {p3 : Int} {r : Bool} (h : ballot_Newer K p0 p1 p2 p3 = some r) : AWp V P 18 0 Γ (Try.f30.body.getD .skip) (Eng.Ends P V Try.f30 (.cv (.lit (.bool r)))) ⟨args0 0 [.cv (.lit (.int .i64 p0)), .cv (.lit (.int .i64 p1)), .cv (.lit (.int .i64 p2)), .cv (.lit (.int .i64 p3))], []⟩ := by
  unfold ballot_Newer at h
  refine awp_seq ?_
  refine awp_region L 0 [] [] [0, 1, 2, 3] [] (cs := []) (S' := ⟨[(0, .cv (.lit (.int .i64 p0))), (1, .cv (.lit (.int .i64 p1))), (2, .cv (.lit (.int .i64 p2))), (3, .cv (.lit (.int .i64 p3)))], []⟩) (by kernel_rfl) trivial ?_
  refine awp_seq ?_
  refine awp_seq ?_
  refine awp_region L 2 [] [] [0, 1, 2, 3, 11] [] (cs := []) (S' := ⟨[(0, .cv (.lit (.int .i64 p0))), (1, .cv (.lit (.int .i64 p1))), (2, .cv (.lit (.int .i64 p2))), (3, .cv (.lit (.int .i64 p3))), (11, .cv (.lit (.bool ((decide (p1 ≠ p3))))))], []⟩) (by kernel_rfl) trivial ?_
  rcases ite_some h with ⟨c1, h⟩ | ⟨c1, h⟩
  · refine awp_true (b := (decide (p1 ≠ p3))) (by kernel_rfl) (decide_eq_true c1) ?_
    refine awp_seq ?_
    refine awp_region L 6 [] [] [8] [] (cs := []) (S' := ⟨[(8, .cv (.lit (.bool ((decide (p1 > p3))))))], []⟩) (by kernel_rfl) trivial ?_
    refine awp_ret ?_
    have hr := Option.some.inj h
    subst hr
    exact ⟨.inr rfl, .cv (.lit (.bool ((decide (p1 > p3))))), by kernel_rfl, by kernel_rfl, trivial, by kernel_rfl⟩
  · refine awp_false (b := (decide (p1 ≠ p3))) (by kernel_rfl) (decide_eq_false c1) ?_
    refine awp_skip [0, 2] [] (S' := ⟨[(0, .cv (.lit (.int .i64 p0))), (2, .cv (.lit (.int .i64 p2)))], []⟩) (by kernel_rfl) ?_
    refine awp_seq ?_
    refine awp_region L 11 [] [] [8] [] (cs := []) (S' := ⟨[(8, .cv (.lit (.bool ((decide (p0 ≥ p2))))))], []⟩) (by kernel_rfl) trivial ?_
    refine awp_ret ?_
    have hr := Option.some.inj h
    subst hr
    exact ⟨.inr rfl, .cv (.lit (.bool ((decide (p0 ≥ p2))))), by kernel_rfl, by kernel_rfl, trivial, by kernel_rfl⟩

theorem ballot_Newer.ok {K : Nat} {p0 : Int} {p1 : Int} {p2 : Int} {p3 : Int} {r : Bool} (h : ballot_Newer K p0 p1 p2 p3 = some r) : PCall V P 30 [.cv (.lit (.int .i64 p0)), .cv (.lit (.int .i64 p1)), .cv (.lit (.int .i64 p2)), .cv (.lit (.int .i64 p3))] (.cv (.lit (.bool r))) :=
  pcall_of (fn := Try.f30) (n := 18) (by kernel_rfl) (by kernel_rfl) (by kernel_rfl) rfl (by kernel_rfl) (by kernel_rfl) fun Γ => ballot_Newer.body h

def workflowref54_Newer (K : Nat) (p0 : Int) (p1 : Int) (p2 : Int) (p3 : Int) : Option Bool := (if p1 > p3 then some true else (if p1 = p3 then some ((decide (p0 ≥ p2))) else some false))

theorem workflowref54_Newer.body {Γ : Ent} {K : Nat} {p0 : Int} {p1 : Int} {p2 : Int} {p3 : Int} {r : Bool} (h : workflowref54_Newer K p0 p1 p2 p3 = some r) : AWp V P 22 0 Γ (Try.f31.body.getD .skip) (Eng.Ends P V Try.f31 (.cv (.lit (.bool r)))) ⟨args0 0 [.cv (.lit (.int .i64 p0)), .cv (.lit (.int .i64 p1)), .cv (.lit (.int .i64 p2)), .cv (.lit (.int .i64 p3))], []⟩ := by
  unfold workflowref54_Newer at h
  refine awp_seq ?_
  refine awp_region L 0 [] [] [0, 1, 2, 3] [] (cs := []) (S' := ⟨[(0, .cv (.lit (.int .i64 p0))), (1, .cv (.lit (.int .i64 p1))), (2, .cv (.lit (.int .i64 p2))), (3, .cv (.lit (.int .i64 p3)))], []⟩) (by kernel_rfl) trivial ?_
  refine awp_seq ?_
  rcases ite_some h with ⟨c1, h⟩ | ⟨c1, h⟩
  · refine awp_region L 2 [(3, true)] [] [8] [] (cs := [(decide (p1 > p3)) = true]) (S' := ⟨[(8, .cv (.lit (.bool true)))], []⟩) (by kernel_rfl) (decide_eq_true c1) ?_
    refine awp_ret ?_
    have hr := Option.some.inj h
    subst hr
    exact ⟨.inr rfl, .cv (.lit (.bool true)), by kernel_rfl, by kernel_rfl, trivial, by kernel_rfl⟩
  · rcases ite_some h with ⟨c2, h⟩ | ⟨c2, h⟩
    · refine awp_region L 2 [(3, false), (7, true)] [] [8] [] (cs := [(decide (p1 > p3)) = false, (decide (p1 = p3)) = true]) (S' := ⟨[(8, .cv (.lit (.bool ((decide (p0 ≥ p2))))))], []⟩) (by kernel_rfl) (And.intro (decide_eq_false c1) (decide_eq_true c2)) ?_
      refine awp_ret ?_
      have hr := Option.some.inj h
      subst hr
      exact ⟨.inr rfl, .cv (.lit (.bool ((decide (p0 ≥ p2))))), by kernel_rfl, by kernel_rfl, trivial, by kernel_rfl⟩
    · refine awp_region L 2 [(3, false), (7, false)] [] [8] [] (cs := [(decide (p1 > p3)) = false, (decide (p1 = p3)) = false]) (S' := ⟨[(8, .cv (.lit (.bool false)))], []⟩) (by kernel_rfl) (And.intro (decide_eq_false c1) (decide_eq_false c2)) ?_
      refine awp_ret ?_
      have hr := Option.some.inj h
      subst hr
      exact ⟨.inr rfl, .cv (.lit (.bool false)), by kernel_rfl, by kernel_rfl, trivial, by kernel_rfl⟩

theorem workflowref54_Newer.ok {K : Nat} {p0 : Int} {p1 : Int} {p2 : Int} {p3 : Int} {r : Bool} (h : workflowref54_Newer K p0 p1 p2 p3 = some r) : PCall V P 31 [.cv (.lit (.int .i64 p0)), .cv (.lit (.int .i64 p1)), .cv (.lit (.int .i64 p2)), .cv (.lit (.int .i64 p3))] (.cv (.lit (.bool r))) :=
  pcall_of (fn := Try.f31) (n := 22) (by kernel_rfl) (by kernel_rfl) (by kernel_rfl) rfl (by kernel_rfl) (by kernel_rfl) fun Γ => workflowref54_Newer.body h

def replog_in (K : Nat) (p0 : Int) (p1 : Int) (p2 : Int) : Option Bool := (if p0 ≥ p1 then some ((decide (p0 ≤ p2))) else some false)

theorem replog_in.body {Γ : Ent} {K : Nat} {p0 : Int} {p1 : Int} {p2 : Int} {r : Bool} (h : replog_in K p0 p1 p2 = some r) : AWp V P 15 0 Γ (Try.f46.body.getD .skip) (Eng.Ends P V Try.f46 (.cv (.lit (.bool r)))) ⟨args0 0 [.cv (.lit (.int .i64 p0)), .cv (.lit (.int .i64 p1)), .cv (.lit (.int .i64 p2))], []⟩ := by
  unfold replog_in at h
  refine awp_seq ?_
  refine awp_region L 0 [] [] [0, 1, 2] [] (cs := []) (S' := ⟨[(0, .cv (.lit (.int .i64 p0))), (1, .cv (.lit (.int .i64 p1))), (2, .cv (.lit (.int .i64 p2)))], []⟩) (by kernel_rfl) trivial ?_
  refine awp_seq ?_
  rcases ite_some h with ⟨c1, h⟩ | ⟨c1, h⟩
  · refine awp_region L 2 [(3, true)] [] [6] [] (cs := [(decide (p0 ≥ p1)) = true]) (S' := ⟨[(6, .cv (.lit (.bool ((decide (p0 ≤ p2))))))], []⟩) (by kernel_rfl) (decide_eq_true c1) ?_
    refine awp_ret ?_
    have hr := Option.some.inj h
    subst hr
    exact ⟨.inr rfl, .cv (.lit (.bool ((decide (p0 ≤ p2))))), by kernel_rfl, by kernel_rfl, trivial, by kernel_rfl⟩
  · refine awp_region L 2 [(3, false)] [] [6] [] (cs := [(decide (p0 ≥ p1)) = false]) (S' := ⟨[(6, .cv (.lit (.bool false)))], []⟩) (by kernel_rfl) (decide_eq_false c1) ?_
    refine awp_ret ?_
    have hr := Option.some.inj h
    subst hr
    exact ⟨.inr rfl, .cv (.lit (.bool false)), by kernel_rfl, by kernel_rfl, trivial, by kernel_rfl⟩

theorem replog_in.ok {K : Nat} {p0 : Int} {p1 : Int} {p2 : Int} {r : Bool} (h : replog_in K p0 p1 p2 = some r) : PCall V P 46 [.cv (.lit (.int .i64 p0)), .cv (.lit (.int .i64 p1)), .cv (.lit (.int .i64 p2))] (.cv (.lit (.bool r))) :=
  pcall_of (fn := Try.f46) (n := 15) (by kernel_rfl) (by kernel_rfl) (by kernel_rfl) rfl (by kernel_rfl) (by kernel_rfl) fun Γ => replog_in.body h

def replog_rising.l7 (K : Nat) (p0 : List api_Entry) : Nat → Int → Int → Option (Out Bool Int)
  | 0, _, _ => none
  | k + 1, xt1_7h, xt11_7h => (if xt11_7h < (p0.length : Int) then (if (0 : Int) ≤ xt11_7h ∧ (xt11_7h : Int) < (p0.length : Int) then (if ((p0.getD (Int.toNat xt11_7h) (⟨(0 : Int), ([] : List UInt8)⟩ : api_Entry))).Epoch < (if (1 : Int) > xt1_7h then 1 else xt1_7h) then some (Out.done false) else (if ((((p0.getD (Int.toNat xt11_7h) (⟨(0 : Int), ([] : List UInt8)⟩ : api_Entry))).Data).length : Int) > 65536 then some (Out.done false) else replog_rising.l7 K p0 k (((p0.getD (Int.toNat xt11_7h) (⟨(0 : Int), ([] : List UInt8)⟩ : api_Entry))).Epoch) ((IntKind.i64.wrap (xt11_7h + 1))))) else none) else some (Out.go xt1_7h))

def replog_rising (K : Nat) (p0 : List api_Entry) (p1 : Int) (p2 : Int) : Option Bool := (obind (replog_rising.l7 K p0 K p1 0 : Option (Out Bool Int)) (fun r => r) (fun xt1_7 => some ((decide (xt1_7 ≤ p2)))))

theorem replog_rising.body {Γ : Ent} {K : Nat} {p0 : List api_Entry} {p1 : Int} {p2 : Int} {r : Bool} (h : replog_rising K p0 p1 p2 = some r) : AWp V P 32 0 Γ (Try.f47.body.getD .skip) (Eng.Ends P V Try.f47 (.cv (.lit (.bool r)))) ⟨args0 0 [.cv (.ro Tag.t_api_Entry p0), .cv (.lit (.int .i64 p1)), .cv (.lit (.int .i64 p2))], []⟩ := by
  unfold replog_rising at h
  refine awp_seq ?_
  refine awp_region L 0 [] [] [0, 1, 2] [] (cs := []) (S' := ⟨[(0, .cv (.ro Tag.t_api_Entry p0)), (1, .cv (.lit (.int .i64 p1))), (2, .cv (.lit (.int .i64 p2)))], []⟩) (by kernel_rfl) trivial ?_
  refine awp_seq ?_
  refine awp_seq ?_
  refine awp_region L 2 [] [] [1, 2, 9, 10, 11] [] (cs := []) (S' := ⟨[(1, .cv (.lit (.int .i64 p1))), (2, .cv (.lit (.int .i64 p2))), (9, .cv (.ro Tag.t_api_Entry p0)), (10, .cv (.lit (.int .i64 (p0.length : Int)))), (11, .cv (.lit (.int .i64 0)))], []⟩) (by kernel_rfl) trivial ?_
  refine awp_block ?_
  refine awp_keep (ts := [1, 2, 9, 10, 11]) (ids := []) (S' := ⟨[(1, .cv (.lit (.int .i64 p1))), (2, .cv (.lit (.int .i64 p2))), (9, .cv (.ro Tag.t_api_Entry p0)), (10, .cv (.lit (.int .i64 (p0.length : Int)))), (11, .cv (.lit (.int .i64 0)))], []⟩) (by kernel_rfl) ?_
  obtain ⟨o1, hp1, h⟩ := obind_some h
  refine awp_mono (Q' := fun e S => (e = .exit 0 ∧ ∃ xt1_7 : Int, S = ⟨[(1, .cv (.lit (.int .i64 xt1_7))), (2, .cv (.lit (.int .i64 p2)))], []⟩ ∧ Out.go xt1_7 = o1) ∨ (e = .ret ∧ ∃ a, Out.done a = o1 ∧ Eng.Ends P V Try.f47 (.cv (.lit (.bool a))) .ret S)) (awp_loop (fun k S => ∃ xt1_7h : Int, ∃ xt11_7h : Int, S = ⟨[(1, .cv (.lit (.int .i64 xt1_7h))), (2, .cv (.lit (.int .i64 p2))), (9, .cv (.ro Tag.t_api_Entry p0)), (10, .cv (.lit (.int .i64 (p0.length : Int)))), (11, .cv (.lit (.int .i64 xt11_7h)))], []⟩ ∧ replog_rising.l7 K p0 k xt1_7h xt11_7h = some o1) ?_ ⟨_, _, rfl, hp1⟩) ?_
  · clear h hp1
    intro k S hS
    obtain ⟨xt1_7h, xt11_7h, rfl, h⟩ := hS
    cases k with
    | zero => cases h
    | succ k =>
    unfold replog_rising.l7 at h
    refine awp_seq ?_
    refine awp_region L 6 [] [] [1, 2, 9, 10, 11, 12] [] (cs := []) (S' := ⟨[(1, .cv (.lit (.int .i64 xt1_7h))), (2, .cv (.lit (.int .i64 p2))), (9, .cv (.ro Tag.t_api_Entry p0)), (10, .cv (.lit (.int .i64 (p0.length : Int)))), (11, .cv (.lit (.int .i64 xt11_7h))), (12, .cv (.lit (.bool ((decide (xt11_7h < (p0.length : Int)))))))], []⟩) (by kernel_rfl) trivial ?_
    refine awp_seq ?_
    rcases ite_some h with ⟨c1, h⟩ | ⟨c1, h⟩
    · refine awp_true (b := (decide (xt11_7h < (p0.length : Int)))) (by kernel_rfl) (decide_eq_true c1) ?_
      refine awp_skip [1, 2, 9, 10, 11] [] (S' := ⟨[(1, .cv (.lit (.int .i64 xt1_7h))), (2, .cv (.lit (.int .i64 p2))), (9, .cv (.ro Tag.t_api_Entry p0)), (10, .cv (.lit (.int .i64 (p0.length : Int)))), (11, .cv (.lit (.int .i64 xt11_7h)))], []⟩) (by kernel_rfl) ?_
      refine awp_seq ?_
      refine awp_block ?_
      refine awp_seq ?_
      obtain ⟨g1, h⟩ := guard_some h
      refine awp_region L 8 [] [] [1, 2, 8, 9, 10, 11] [10] (cs := [(0 : Int) ≤ xt11_7h, (xt11_7h : Int) < (p0.length : Int)]) (S' := ⟨[(1, .cv (.lit (.int .i64 xt1_7h))), (2, .cv (.lit (.int .i64 p2))), (8, .cv (.ptr 10 0)), (9, .cv (.ro Tag.t_api_Entry p0)), (10, .cv (.lit (.int .i64 (p0.length : Int)))), (11, .cv (.lit (.int .i64 xt11_7h)))], [(10, .raw [.lit (.int .i64 (((p0.getD (Int.toNat xt11_7h) (⟨(0 : Int), ([] : List UInt8)⟩ : api_Entry))).Epoch)), .ro Tag.t_uint8 (((p0.getD (Int.toNat xt11_7h) (⟨(0 : Int), ([] : List UInt8)⟩ : api_Entry))).Data)])]⟩) (by kernel_rfl) (And.intro g1.1 g1.2) ?_
      refine awp_seq ?_
      refine awp_seq ?_
      rcases ite_some h with ⟨c2, h⟩ | ⟨c2, h⟩
      · refine awp_region L 13 [(5, true)] [] [2, 8, 9, 10, 11, 25] [10] (cs := [(decide (((p0.getD (Int.toNat xt11_7h) (⟨(0 : Int), ([] : List UInt8)⟩ : api_Entry))).Epoch < (if (1 : Int) > xt1_7h then 1 else xt1_7h))) = true]) (S' := ⟨[(2, .cv (.lit (.int .i64 p2))), (8, .cv (.ptr 10 0)), (9, .cv (.ro Tag.t_api_Entry p0)), (10, .cv (.lit (.int .i64 (p0.length : Int)))), (11, .cv (.lit (.int .i64 xt11_7h))), (25, .cv (.lit (.bool true)))], [(10, .raw [.lit (.int .i64 (((p0.getD (Int.toNat xt11_7h) (⟨(0 : Int), ([] : List UInt8)⟩ : api_Entry))).Epoch)), .ro Tag.t_uint8 (((p0.getD (Int.toNat xt11_7h) (⟨(0 : Int), ([] : List UInt8)⟩ : api_Entry))).Data)])]⟩) (by kernel_rfl) (decide_eq_true c2) ?_
        refine awp_true (b := true) (by kernel_rfl) (rfl) ?_
        refine awp_seq ?_
        refine awp_region L 25 [] [] [6] [] (cs := []) (S' := ⟨[(6, .cv (.lit (.bool false)))], []⟩) (by kernel_rfl) trivial ?_
        refine awp_ret ?_
        have hr := Option.some.inj h
        subst hr
        exact .inr ⟨rfl, _, rfl, ⟨.inr rfl, .cv (.lit (.bool false)), by kernel_rfl, by kernel_rfl, trivial, by kernel_rfl⟩⟩
      · refine awp_region L 13 [(5, false)] [] [2, 8, 9, 10, 11, 25] [10] (cs := [(decide (((p0.getD (Int.toNat xt11_7h) (⟨(0 : Int), ([] : List UInt8)⟩ : api_Entry))).Epoch < (if (1 : Int) > xt1_7h then 1 else xt1_7h))) = false]) (S' := ⟨[(2, .cv (.lit (.int .i64 p2))), (8, .cv (.ptr 10 0)), (9, .cv (.ro Tag.t_api_Entry p0)), (10, .cv (.lit (.int .i64 (p0.length : Int)))), (11, .cv (.lit (.int .i64 xt11_7h))), (25, .cv (.lit (.bool ((decide (((((p0.getD (Int.toNat xt11_7h) (⟨(0 : Int), ([] : List UInt8)⟩ : api_Entry))).Data).length : Int) > 65536))))))], [(10, .raw [.lit (.int .i64 (((p0.getD (Int.toNat xt11_7h) (⟨(0 : Int), ([] : List UInt8)⟩ : api_Entry))).Epoch)), .ro Tag.t_uint8 (((p0.getD (Int.toNat xt11_7h) (⟨(0 : Int), ([] : List UInt8)⟩ : api_Entry))).Data)])]⟩) (by kernel_rfl) (decide_eq_false c2) ?_
        rcases ite_some h with ⟨c3, h⟩ | ⟨c3, h⟩
        · refine awp_true (b := (decide (((((p0.getD (Int.toNat xt11_7h) (⟨(0 : Int), ([] : List UInt8)⟩ : api_Entry))).Data).length : Int) > 65536))) (by kernel_rfl) (decide_eq_true c3) ?_
          refine awp_seq ?_
          refine awp_region L 25 [] [] [6] [] (cs := []) (S' := ⟨[(6, .cv (.lit (.bool false)))], []⟩) (by kernel_rfl) trivial ?_
          refine awp_ret ?_
          have hr := Option.some.inj h
          subst hr
          exact .inr ⟨rfl, _, rfl, ⟨.inr rfl, .cv (.lit (.bool false)), by kernel_rfl, by kernel_rfl, trivial, by kernel_rfl⟩⟩
        · refine awp_false (b := (decide (((((p0.getD (Int.toNat xt11_7h) (⟨(0 : Int), ([] : List UInt8)⟩ : api_Entry))).Data).length : Int) > 65536))) (by kernel_rfl) (decide_eq_false c3) ?_
          refine awp_skip [2, 8, 9, 10, 11] [10] (S' := ⟨[(2, .cv (.lit (.int .i64 p2))), (8, .cv (.ptr 10 0)), (9, .cv (.ro Tag.t_api_Entry p0)), (10, .cv (.lit (.int .i64 (p0.length : Int)))), (11, .cv (.lit (.int .i64 xt11_7h)))], [(10, .raw [.lit (.int .i64 (((p0.getD (Int.toNat xt11_7h) (⟨(0 : Int), ([] : List UInt8)⟩ : api_Entry))).Epoch)), .ro Tag.t_uint8 (((p0.getD (Int.toNat xt11_7h) (⟨(0 : Int), ([] : List UInt8)⟩ : api_Entry))).Data)])]⟩) (by kernel_rfl) ?_
          refine awp_region L 27 [] [] [1, 2, 9, 10, 11] [] (cs := []) (S' := ⟨[(1, .cv (.lit (.int .i64 (((p0.getD (Int.toNat xt11_7h) (⟨(0 : Int), ([] : List UInt8)⟩ : api_Entry))).Epoch)))), (2, .cv (.lit (.int .i64 p2))), (9, .cv (.ro Tag.t_api_Entry p0)), (10, .cv (.lit (.int .i64 (p0.length : Int)))), (11, .cv (.lit (.int .i64 xt11_7h)))], []⟩) (by kernel_rfl) trivial ?_
          refine awp_region L 31 [] [] [1, 2, 9, 10, 11] [] (cs := []) (S' := ⟨[(1, .cv (.lit (.int .i64 (((p0.getD (Int.toNat xt11_7h) (⟨(0 : Int), ([] : List UInt8)⟩ : api_Entry))).Epoch)))), (2, .cv (.lit (.int .i64 p2))), (9, .cv (.ro Tag.t_api_Entry p0)), (10, .cv (.lit (.int .i64 (p0.length : Int)))), (11, .cv (.lit (.int .i64 ((IntKind.i64.wrap (xt11_7h + 1))))))], []⟩) (by kernel_rfl) trivial ?_
          exact ⟨k, Nat.lt_succ_self k, _, _, rfl, h⟩
    · refine awp_false (b := (decide (xt11_7h < (p0.length : Int)))) (by kernel_rfl) (decide_eq_false c1) ?_
      refine awp_exit [1, 2] [] (S' := ⟨[(1, .cv (.lit (.int .i64 xt1_7h))), (2, .cv (.lit (.int .i64 p2)))], []⟩) (by kernel_rfl) ?_
      have hr := Option.some.inj h
      subst hr
      exact .inl ⟨rfl, _, rfl, rfl⟩
  · rintro e S (⟨rfl, xt1_7, rfl, rfl⟩ | ⟨rfl, a, rfl, hr⟩)
    · rcases h with ⟨_, e1, h⟩ | ⟨_, e1, h⟩
      · cases e1
      · have e2 := Out.go.inj e1
        subst e2
        refine awp_seq ?_
        refine awp_region L 34 [] [] [6] [] (cs := []) (S' := ⟨[(6, .cv (.lit (.bool ((decide (xt1_7 ≤ p2))))))], []⟩) (by kernel_rfl) trivial ?_
        refine awp_ret ?_
        have hr := Option.some.inj h
        subst hr
        exact ⟨.inr rfl, .cv (.lit (.bool ((decide (xt1_7 ≤ p2))))), by kernel_rfl, by kernel_rfl, trivial, by kernel_rfl⟩
    · rcases h with ⟨_, e1, h⟩ | ⟨_, e1, h⟩
      · have e2 := Out.done.inj e1
        subst e2
        subst h
        exact hr
      · cases e1

theorem replog_rising.ok {K : Nat} {p0 : List api_Entry} {p1 : Int} {p2 : Int} {r : Bool} (h : replog_rising K p0 p1 p2 = some r) : PCall V P 47 [.cv (.ro Tag.t_api_Entry p0), .cv (.lit (.int .i64 p1)), .cv (.lit (.int .i64 p2))] (.cv (.lit (.bool r))) :=
  pcall_of (fn := Try.f47) (n := 32) (by kernel_rfl) (by kernel_rfl) (by kernel_rfl) rfl (by kernel_rfl) (by kernel_rfl) fun Γ => replog_rising.body h

def replog_Right (K : Nat) (p0 : api_Replica) : Option Bool := (Option.bind (replog_in K p0.Epoch 0 1099511627776) (fun a1 => (if a1 = true then (Option.bind (replog_in K p0.Vote (-1) 8) (fun a2 => (if a2 = true then (if (p0.Log.length : Int) ≤ 5000 then (Option.bind (replog_in K p0.Commit 0 (p0.Log.length : Int)) (fun a3 => (if a3 = true then (Option.bind (replog_rising K p0.Log 0 p0.Epoch) (fun a4 => some a4)) else some false))) else some false) else some false))) else some false)))

theorem replog_Right.body {Γ : Ent} {K : Nat} {p0 : api_Replica} {r : Bool} (h : replog_Right K p0 = some r) : AWp V P 32 0 Γ (Try.f28.body.getD .skip) (Eng.Ends P V Try.f28 (.cv (.lit (.bool r)))) ⟨args0 0 [.agg [.lit (.int .i64 p0.Epoch), .lit (.int .i64 p0.Vote), .lit (.int .i64 p0.Commit), .ro Tag.t_api_Entry p0.Log]], []⟩ := by
  unfold replog_Right at h
  refine awp_seq ?_
  refine awp_region L 0 [] [] [1] [0] (cs := []) (S' := ⟨[(1, .cv (.ptr 0 0))], [(0, .raw [.lit (.int .i64 p0.Epoch), .lit (.int .i64 p0.Vote), .lit (.int .i64 p0.Commit), .ro Tag.t_api_Entry p0.Log])]⟩) (by kernel_rfl) trivial ?_
  refine awp_seq ?_
  obtain ⟨a1, h1, h⟩ := bind_some h
  rcases ite_some h with ⟨c1, h⟩ | ⟨c1, h⟩
  · obtain ⟨a2, h2, h⟩ := bind_some h
    rcases ite_some h with ⟨c2, h⟩ | ⟨c2, h⟩
    · rcases ite_some h with ⟨c3, h⟩ | ⟨c3, h⟩
      · obtain ⟨a3, h3, h⟩ := bind_some h
        rcases ite_some h with ⟨c4, h⟩ | ⟨c4, h⟩
        · obtain ⟨a4, h4, h⟩ := bind_some h
          refine awp_region L 3 [(3, true), (8, true), (14, true), (22, true)] [(2, .cv (.lit (.bool a1))), (6, .cv (.lit (.bool a2))), (20, .cv (.lit (.bool a3))), (27, .cv (.lit (.bool a4)))] [2] [] (cs := [PCall V P 46 [.cv (.lit (.int .i64 p0.Epoch)), .cv (.lit (.int .i64 0)), .cv (.lit (.int .i64 1099511627776))] (.cv (.lit (.bool a1))), True, a1 = true, PCall V P 46 [.cv (.lit (.int .i64 p0.Vote)), .cv (.lit (.int .i64 (-1))), .cv (.lit (.int .i64 8))] (.cv (.lit (.bool a2))), True, a2 = true, (decide ((p0.Log.length : Int) ≤ 5000)) = true, PCall V P 46 [.cv (.lit (.int .i64 p0.Commit)), .cv (.lit (.int .i64 0)), .cv (.lit (.int .i64 (p0.Log.length : Int)))] (.cv (.lit (.bool a3))), True, a3 = true, PCall V P 47 [.cv (.ro Tag.t_api_Entry p0.Log), .cv (.lit (.int .i64 0)), .cv (.lit (.int .i64 p0.Epoch))] (.cv (.lit (.bool a4))), True]) (S' := ⟨[(2, .cv (.lit (.bool a4)))], []⟩) (by kernel_rfl) (And.intro (replog_in.ok h1) (And.intro trivial (And.intro c1 (And.intro (replog_in.ok h2) (And.intro trivial (And.intro c2 (And.intro (decide_eq_true c3) (And.intro (replog_in.ok h3) (And.intro trivial (And.intro c4 (And.intro (replog_rising.ok h4) trivial))))))))))) ?_
          refine awp_ret ?_
          have hr := Option.some.inj h
          subst hr
          exact ⟨.inr rfl, .cv (.lit (.bool a4)), by kernel_rfl, by kernel_rfl, trivial, by kernel_rfl⟩
        · refine awp_region L 3 [(3, true), (8, true), (14, true), (22, false)] [(2, .cv (.lit (.bool a1))), (6, .cv (.lit (.bool a2))), (20, .cv (.lit (.bool a3)))] [2] [] (cs := [PCall V P 46 [.cv (.lit (.int .i64 p0.Epoch)), .cv (.lit (.int .i64 0)), .cv (.lit (.int .i64 1099511627776))] (.cv (.lit (.bool a1))), True, a1 = true, PCall V P 46 [.cv (.lit (.int .i64 p0.Vote)), .cv (.lit (.int .i64 (-1))), .cv (.lit (.int .i64 8))] (.cv (.lit (.bool a2))), True, a2 = true, (decide ((p0.Log.length : Int) ≤ 5000)) = true, PCall V P 46 [.cv (.lit (.int .i64 p0.Commit)), .cv (.lit (.int .i64 0)), .cv (.lit (.int .i64 (p0.Log.length : Int)))] (.cv (.lit (.bool a3))), True, a3 = false]) (S' := ⟨[(2, .cv (.lit (.bool false)))], []⟩) (by kernel_rfl) (And.intro (replog_in.ok h1) (And.intro trivial (And.intro c1 (And.intro (replog_in.ok h2) (And.intro trivial (And.intro c2 (And.intro (decide_eq_true c3) (And.intro (replog_in.ok h3) (And.intro trivial (eq_false_of_ne_true c4)))))))))) ?_
          refine awp_ret ?_
          have hr := Option.some.inj h
          subst hr
          exact ⟨.inr rfl, .cv (.lit (.bool false)), by kernel_rfl, by kernel_rfl, trivial, by kernel_rfl⟩
      · refine awp_region L 3 [(3, true), (8, true), (14, false)] [(2, .cv (.lit (.bool a1))), (6, .cv (.lit (.bool a2)))] [2] [] (cs := [PCall V P 46 [.cv (.lit (.int .i64 p0.Epoch)), .cv (.lit (.int .i64 0)), .cv (.lit (.int .i64 1099511627776))] (.cv (.lit (.bool a1))), True, a1 = true, PCall V P 46 [.cv (.lit (.int .i64 p0.Vote)), .cv (.lit (.int .i64 (-1))), .cv (.lit (.int .i64 8))] (.cv (.lit (.bool a2))), True, a2 = true, (decide ((p0.Log.length : Int) ≤ 5000)) = false]) (S' := ⟨[(2, .cv (.lit (.bool false)))], []⟩) (by kernel_rfl) (And.intro (replog_in.ok h1) (And.intro trivial (And.intro c1 (And.intro (replog_in.ok h2) (And.intro trivial (And.intro c2 (decide_eq_false c3))))))) ?_
        refine awp_ret ?_
        have hr := Option.some.inj h
        subst hr
        exact ⟨.inr rfl, .cv (.lit (.bool false)), by kernel_rfl, by kernel_rfl, trivial, by kernel_rfl⟩
    · refine awp_region L 3 [(3, true), (8, false)] [(2, .cv (.lit (.bool a1))), (6, .cv (.lit (.bool a2)))] [2] [] (cs := [PCall V P 46 [.cv (.lit (.int .i64 p0.Epoch)), .cv (.lit (.int .i64 0)), .cv (.lit (.int .i64 1099511627776))] (.cv (.lit (.bool a1))), True, a1 = true, PCall V P 46 [.cv (.lit (.int .i64 p0.Vote)), .cv (.lit (.int .i64 (-1))), .cv (.lit (.int .i64 8))] (.cv (.lit (.bool a2))), True, a2 = false]) (S' := ⟨[(2, .cv (.lit (.bool false)))], []⟩) (by kernel_rfl) (And.intro (replog_in.ok h1) (And.intro trivial (And.intro c1 (And.intro (replog_in.ok h2) (And.intro trivial (eq_false_of_ne_true c2)))))) ?_
      refine awp_ret ?_
      have hr := Option.some.inj h
      subst hr
      exact ⟨.inr rfl, .cv (.lit (.bool false)), by kernel_rfl, by kernel_rfl, trivial, by kernel_rfl⟩
  · refine awp_region L 3 [(3, false)] [(2, .cv (.lit (.bool a1)))] [2] [] (cs := [PCall V P 46 [.cv (.lit (.int .i64 p0.Epoch)), .cv (.lit (.int .i64 0)), .cv (.lit (.int .i64 1099511627776))] (.cv (.lit (.bool a1))), True, a1 = false]) (S' := ⟨[(2, .cv (.lit (.bool false)))], []⟩) (by kernel_rfl) (And.intro (replog_in.ok h1) (And.intro trivial (eq_false_of_ne_true c1))) ?_
    refine awp_ret ?_
    have hr := Option.some.inj h
    subst hr
    exact ⟨.inr rfl, .cv (.lit (.bool false)), by kernel_rfl, by kernel_rfl, trivial, by kernel_rfl⟩

theorem replog_Right.ok {K : Nat} {p0 : api_Replica} {r : Bool} (h : replog_Right K p0 = some r) : PCall V P 28 [.agg [.lit (.int .i64 p0.Epoch), .lit (.int .i64 p0.Vote), .lit (.int .i64 p0.Commit), .ro Tag.t_api_Entry p0.Log]] (.cv (.lit (.bool r))) :=
  pcall_of (fn := Try.f28) (n := 32) (by kernel_rfl) (by kernel_rfl) (by kernel_rfl) rfl (by kernel_rfl) (by kernel_rfl) fun Γ => replog_Right.body h

def ballot_candidate (K : Nat) (p0 : Int) : Option Bool := (if p0 ≥ 0 then some ((decide (p0 < 9))) else some false)

theorem ballot_candidate.body {Γ : Ent} {K : Nat} {p0 : Int} {r : Bool} (h : ballot_candidate K p0 = some r) : AWp V P 9 0 Γ (Try.f49.body.getD .skip) (Eng.Ends P V Try.f49 (.cv (.lit (.bool r)))) ⟨args0 0 [.cv (.lit (.int .i64 p0))], []⟩ := by
  unfold ballot_candidate at h
  refine awp_seq ?_
  refine awp_region L 0 [] [] [0] [] (cs := []) (S' := ⟨[(0, .cv (.lit (.int .i64 p0)))], []⟩) (by kernel_rfl) trivial ?_
  refine awp_seq ?_
  rcases ite_some h with ⟨c1, h⟩ | ⟨c1, h⟩
  · refine awp_region L 2 [(2, true)] [] [2] [] (cs := [(decide (p0 ≥ 0)) = true]) (S' := ⟨[(2, .cv (.lit (.bool ((decide (p0 < 9))))))], []⟩) (by kernel_rfl) (decide_eq_true c1) ?_
    refine awp_ret ?_
    have hr := Option.some.inj h
    subst hr
    exact ⟨.inr rfl, .cv (.lit (.bool ((decide (p0 < 9))))), by kernel_rfl, by kernel_rfl, trivial, by kernel_rfl⟩
  · refine awp_region L 2 [(2, false)] [] [2] [] (cs := [(decide (p0 ≥ 0)) = false]) (S' := ⟨[(2, .cv (.lit (.bool false)))], []⟩) (by kernel_rfl) (decide_eq_false c1) ?_
    refine awp_ret ?_
    have hr := Option.some.inj h
    subst hr
    exact ⟨.inr rfl, .cv (.lit (.bool false)), by kernel_rfl, by kernel_rfl, trivial, by kernel_rfl⟩

theorem ballot_candidate.ok {K : Nat} {p0 : Int} {r : Bool} (h : ballot_candidate K p0 = some r) : PCall V P 49 [.cv (.lit (.int .i64 p0))] (.cv (.lit (.bool r))) :=
  pcall_of (fn := Try.f49) (n := 9) (by kernel_rfl) (by kernel_rfl) (by kernel_rfl) rfl (by kernel_rfl) (by kernel_rfl) fun Γ => ballot_candidate.body h

def bytes_Clone (K : Nat) (p0 : List UInt8) : Option (List UInt8) := if p0.length * 1 ≤ 140737488355328 then some p0 else none

theorem bytes_Clone.body {Γ : Ent} {K : Nat} {p0 : List UInt8} {r : List UInt8} (h : bytes_Clone K p0 = some r) : AWp V P 8 0 Γ (Try.f45.body.getD .skip) (EndsF P V Try.f45 Tag.t_uint8 r) ⟨args0 0 [.cv (.ro Tag.t_uint8 p0)], []⟩ := by
  unfold bytes_Clone at h
  obtain ⟨g, h⟩ := guard_some h
  cases h
  refine awp_nilsplit 0 (tg := Tag.t_uint8) (xs := p0) (by kernel_rfl) (fun cap hx => ?_) ?_
  · subst hx
    refine awp_keep (ts := [0]) (ids := []) (S' := ⟨[(0, .cv (.lit (.slice none 0 cap)))], []⟩) (by kernel_rfl) ?_
    refine awp_seq ?_
    refine awp_region L 0 [] [] [0, 2] [] (cs := []) (S' := ⟨[(0, .cv (.lit (.slice none 0 cap))), (2, .cv (.lit (.slice none 0 0)))], []⟩) (by kernel_rfl) trivial ?_
    refine awp_seq ?_
    refine awp_seq ?_
    refine awp_region L 10 [] [] [4] [] (cs := []) (S' := ⟨[(4, .cv (.lit (.bool true)))], []⟩) (by kernel_rfl) trivial ?_
    refine awp_true (b := true) (by kernel_rfl) rfl ?_
    refine awp_seq ?_
    refine awp_region L 20 [] [] [2] [] (cs := []) (S' := ⟨[(2, .cv (.lit (.slice none 0 0)))], []⟩) (by kernel_rfl) trivial ?_
    refine awp_ret ?_
    exact ⟨.inr rfl, .inl ⟨by kernel_rfl, rfl⟩⟩
  · refine awp_keep (ts := [0]) (ids := []) (S' := ⟨[(0, .cv (.ron Tag.t_uint8 p0))], []⟩) (by kernel_rfl) ?_
    refine awp_seq ?_
    refine awp_region L 0 [] [] [0] [] (cs := []) (S' := ⟨[(0, .cv (.ron Tag.t_uint8 p0))], []⟩) (by kernel_rfl) trivial ?_
    refine awp_seq ?_
    refine awp_seq ?_
    refine awp_region L 10 [] [] [0, 4] [] (cs := []) (S' := ⟨[(0, .cv (.ron Tag.t_uint8 p0)), (4, .cv (.lit (.bool false)))], []⟩) (by kernel_rfl) trivial ?_
    refine awp_false (b := false) (by kernel_rfl) rfl ?_
    refine awp_skip [0] [] (S' := ⟨[(0, .cv (.ron Tag.t_uint8 p0))], []⟩) (by kernel_rfl) ?_
    refine awp_seq ?_
    refine awp_region L 30 [] [] [2] [30] (cs := [(([] : List UInt8).length + p0.length) * 1 ≤ 140737488355328, True]) (S' := ⟨[(2, .cv (.own Tag.t_uint8 30))], [(30, .lst Tag.t_uint8 p0)]⟩) (by kernel_rfl) (And.intro (by simpa using g) trivial) ?_
    refine awp_ret ?_
    exact ⟨.inr rfl, .inr ⟨30, by kernel_rfl, by kernel_rfl⟩⟩

theorem bytes_Clone.okF {K : Nat} {p0 : List UInt8} {r : List UInt8} (h : bytes_Clone K p0 = some r) : FCall V P 45 [.cv (.ro Tag.t_uint8 p0)] Tag.t_uint8 r :=
  fcall_of (fn := Try.f45) (n := 8) (by kernel_rfl) (by kernel_rfl) (by kernel_rfl) rfl (by kernel_rfl) (by kernel_rfl) fun Γ => bytes_Clone.body h

theorem bytes_Clone.ok {K : Nat} {p0 : List UInt8} {r : List UInt8} (h : bytes_Clone K p0 = some r) : PCall V P 45 [.cv (.ro Tag.t_uint8 p0)] (.cv (.ro Tag.t_uint8 r)) := (bytes_Clone.okF h).pcall

def ballot_replica.l9 (K : Nat) (p0 : api_Replica) : Nat → Int → (List api_Entry) → Option (List api_Entry)
  | 0, _, _ => none
  | k + 1, xt9_9h, xh228_9h => (if xt9_9h < (p0.Log.length : Int) then (if (0 : Int) ≤ xt9_9h ∧ (xt9_9h : Int) < (p0.Log.length : Int) then (Option.bind (bytes_Clone K (((p0.Log.getD (Int.toNat xt9_9h) (⟨(0 : Int), ([] : List UInt8)⟩ : api_Entry))).Data)) (fun a1 => (if (xh228_9h.length + (([(⟨((p0.Log.getD (Int.toNat xt9_9h) (⟨(0 : Int), ([] : List UInt8)⟩ : api_Entry))).Epoch, a1⟩ : api_Entry)] : List api_Entry)).length) * 32 ≤ 140737488355328 then ballot_replica.l9 K p0 k ((IntKind.i64.wrap (xt9_9h + 1))) ((xh228_9h ++ ([(⟨((p0.Log.getD (Int.toNat xt9_9h) (⟨(0 : Int), ([] : List UInt8)⟩ : api_Entry))).Epoch, a1⟩ : api_Entry)] : List api_Entry))) else none))) else none) else some xh228_9h)

def ballot_replica (K : Nat) (p0 : api_Replica) : Option api_Replica := (Option.bind (ballot_replica.l9 K p0 K 0 [] : Option (List api_Entry)) (fun xh228_9 => some (⟨p0.Epoch, p0.Vote, p0.Commit, xh228_9⟩ : api_Replica)))

theorem ballot_replica.body {Γ : Ent} {K : Nat} {p0 : api_Replica} {r : api_Replica} (h : ballot_replica K p0 = some r) : AWp V P 26 0 Γ (Try.f51.body.getD .skip) (Eng.Ends P V Try.f51 (.agg [.lit (.int .i64 r.Epoch), .lit (.int .i64 r.Vote), .lit (.int .i64 r.Commit), .ro Tag.t_api_Entry r.Log])) ⟨args0 0 [.agg [.lit (.int .i64 p0.Epoch), .lit (.int .i64 p0.Vote), .lit (.int .i64 p0.Commit), .ro Tag.t_api_Entry p0.Log]], []⟩ := by
  unfold ballot_replica at h
  refine awp_seq ?_
  refine awp_region L 0 [] [] [1, 2] [0, 1] (cs := []) (S' := ⟨[(1, .cv (.ptr 0 0)), (2, .cv (.ptr 1 0))], [(0, .raw [.lit (.int .i64 p0.Epoch), .lit (.int .i64 p0.Vote), .lit (.int .i64 p0.Commit), .ro Tag.t_api_Entry p0.Log]), (1, .raw [.lit (.int .i64 0), .lit (.int .i64 0), .lit (.int .i64 0), .lit (.slice none 0 0)])]⟩) (by kernel_rfl) trivial ?_
  refine awp_seq ?_
  refine awp_region L 3 [] [] [1, 2, 3] [0, 1] (cs := []) (S' := ⟨[(1, .cv (.ptr 0 0)), (2, .cv (.ptr 1 0)), (3, .cv (.lit (.slice none 0 0)))], [(0, .raw [.lit (.int .i64 p0.Epoch), .lit (.int .i64 p0.Vote), .lit (.int .i64 p0.Commit), .ro Tag.t_api_Entry p0.Log]), (1, .raw [.lit (.int .i64 0), .lit (.int .i64 0), .lit (.int .i64 0), .lit (.slice none 0 0)])]⟩) (by kernel_rfl) trivial ?_
  refine awp_seq ?_
  refine awp_seq ?_
  refine awp_region L 5 [] [] [1, 2, 3, 7, 8, 9] [0, 1] (cs := []) (S' := ⟨[(1, .cv (.ptr 0 0)), (2, .cv (.ptr 1 0)), (3, .cv (.lit (.slice none 0 0))), (7, .cv (.ro Tag.t_api_Entry p0.Log)), (8, .cv (.lit (.int .i64 (p0.Log.length : Int)))), (9, .cv (.lit (.int .i64 0)))], [(0, .raw [.lit (.int .i64 p0.Epoch), .lit (.int .i64 p0.Vote), .lit (.int .i64 p0.Commit), .ro Tag.t_api_Entry p0.Log]), (1, .raw [.lit (.int .i64 0), .lit (.int .i64 0), .lit (.int .i64 0), .lit (.slice none 0 0)])]⟩) (by kernel_rfl) trivial ?_
  refine awp_block ?_
  refine awp_nilown 3 228 Tag.t_api_Entry (by kernel_rfl) (by kernel_rfl) ?_
  refine awp_keep (ts := [1, 2, 3, 7, 8, 9]) (ids := [0, 1, 228]) (S' := ⟨[(1, .cv (.ptr 0 0)), (2, .cv (.ptr 1 0)), (3, .cv (.own Tag.t_api_Entry 228)), (7, .cv (.ro Tag.t_api_Entry p0.Log)), (8, .cv (.lit (.int .i64 (p0.Log.length : Int)))), (9, .cv (.lit (.int .i64 0)))], [(0, .raw [.lit (.int .i64 p0.Epoch), .lit (.int .i64 p0.Vote), .lit (.int .i64 p0.Commit), .ro Tag.t_api_Entry p0.Log]), (1, .raw [.lit (.int .i64 0), .lit (.int .i64 0), .lit (.int .i64 0), .lit (.slice none 0 0)]), (228, .lst Tag.t_api_Entry [])]⟩) (by kernel_rfl) ?_
  obtain ⟨o1, hp1, h⟩ := bind_some h
  refine awp_mono (Q' := fun e S => (e = .exit 0 ∧ ∃ xh228_9 : List api_Entry, S = ⟨[(1, .cv (.ptr 0 0)), (2, .cv (.ptr 1 0)), (3, .cv (.own Tag.t_api_Entry 228))], [(0, .raw [.lit (.int .i64 p0.Epoch), .lit (.int .i64 p0.Vote), .lit (.int .i64 p0.Commit), .ro Tag.t_api_Entry p0.Log]), (1, .raw [.lit (.int .i64 0), .lit (.int .i64 0), .lit (.int .i64 0), .lit (.slice none 0 0)]), (228, .lst Tag.t_api_Entry xh228_9)]⟩ ∧ xh228_9 = o1)) (awp_loop (fun k S => ∃ xt9_9h : Int, ∃ xh228_9h : List api_Entry, S = ⟨[(1, .cv (.ptr 0 0)), (2, .cv (.ptr 1 0)), (3, .cv (.own Tag.t_api_Entry 228)), (7, .cv (.ro Tag.t_api_Entry p0.Log)), (8, .cv (.lit (.int .i64 (p0.Log.length : Int)))), (9, .cv (.lit (.int .i64 xt9_9h)))], [(0, .raw [.lit (.int .i64 p0.Epoch), .lit (.int .i64 p0.Vote), .lit (.int .i64 p0.Commit), .ro Tag.t_api_Entry p0.Log]), (1, .raw [.lit (.int .i64 0), .lit (.int .i64 0), .lit (.int .i64 0), .lit (.slice none 0 0)]), (228, .lst Tag.t_api_Entry xh228_9h)]⟩ ∧ ballot_replica.l9 K p0 k xt9_9h xh228_9h = some o1) ?_ ⟨_, _, rfl, hp1⟩) ?_
  · clear h hp1
    intro k S hS
    obtain ⟨xt9_9h, xh228_9h, rfl, h⟩ := hS
    cases k with
    | zero => cases h
    | succ k =>
    unfold ballot_replica.l9 at h
    refine awp_seq ?_
    refine awp_region L 10 [] [] [1, 2, 3, 7, 8, 9, 10] [0, 1, 228] (cs := []) (S' := ⟨[(1, .cv (.ptr 0 0)), (2, .cv (.ptr 1 0)), (3, .cv (.own Tag.t_api_Entry 228)), (7, .cv (.ro Tag.t_api_Entry p0.Log)), (8, .cv (.lit (.int .i64 (p0.Log.length : Int)))), (9, .cv (.lit (.int .i64 xt9_9h))), (10, .cv (.lit (.bool ((decide (xt9_9h < (p0.Log.length : Int)))))))], [(0, .raw [.lit (.int .i64 p0.Epoch), .lit (.int .i64 p0.Vote), .lit (.int .i64 p0.Commit), .ro Tag.t_api_Entry p0.Log]), (1, .raw [.lit (.int .i64 0), .lit (.int .i64 0), .lit (.int .i64 0), .lit (.slice none 0 0)]), (228, .lst Tag.t_api_Entry xh228_9h)]⟩) (by kernel_rfl) trivial ?_
    refine awp_seq ?_
    rcases ite_some h with ⟨c1, h⟩ | ⟨c1, h⟩
    · refine awp_true (b := (decide (xt9_9h < (p0.Log.length : Int)))) (by kernel_rfl) (decide_eq_true c1) ?_
      refine awp_skip [1, 2, 3, 7, 8, 9] [0, 1, 228] (S' := ⟨[(1, .cv (.ptr 0 0)), (2, .cv (.ptr 1 0)), (3, .cv (.own Tag.t_api_Entry 228)), (7, .cv (.ro Tag.t_api_Entry p0.Log)), (8, .cv (.lit (.int .i64 (p0.Log.length : Int)))), (9, .cv (.lit (.int .i64 xt9_9h)))], [(0, .raw [.lit (.int .i64 p0.Epoch), .lit (.int .i64 p0.Vote), .lit (.int .i64 p0.Commit), .ro Tag.t_api_Entry p0.Log]), (1, .raw [.lit (.int .i64 0), .lit (.int .i64 0), .lit (.int .i64 0), .lit (.slice none 0 0)]), (228, .lst Tag.t_api_Entry xh228_9h)]⟩) (by kernel_rfl) ?_
      refine awp_seq ?_
      refine awp_block ?_
      refine awp_seq ?_
      obtain ⟨g1, h⟩ := guard_some h
      refine awp_region L 12 [] [] [1, 2, 3, 5, 7, 8, 9] [0, 1, 14, 228] (cs := [(0 : Int) ≤ xt9_9h, (xt9_9h : Int) < (p0.Log.length : Int)]) (S' := ⟨[(1, .cv (.ptr 0 0)), (2, .cv (.ptr 1 0)), (3, .cv (.own Tag.t_api_Entry 228)), (5, .cv (.ptr 14 0)), (7, .cv (.ro Tag.t_api_Entry p0.Log)), (8, .cv (.lit (.int .i64 (p0.Log.length : Int)))), (9, .cv (.lit (.int .i64 xt9_9h)))], [(0, .raw [.lit (.int .i64 p0.Epoch), .lit (.int .i64 p0.Vote), .lit (.int .i64 p0.Commit), .ro Tag.t_api_Entry p0.Log]), (1, .raw [.lit (.int .i64 0), .lit (.int .i64 0), .lit (.int .i64 0), .lit (.slice none 0 0)]), (14, .raw [.lit (.int .i64 (((p0.Log.getD (Int.toNat xt9_9h) (⟨(0 : Int), ([] : List UInt8)⟩ : api_Entry))).Epoch)), .ro Tag.t_uint8 (((p0.Log.getD (Int.toNat xt9_9h) (⟨(0 : Int), ([] : List UInt8)⟩ : api_Entry))).Data)]), (228, .lst Tag.t_api_Entry xh228_9h)]⟩) (by kernel_rfl) (And.intro g1.1 g1.2) ?_
      obtain ⟨a1, h1, h⟩ := bind_some h
      obtain ⟨g2, h⟩ := guard_some h
      refine awp_draw L mixed 17 [] [(5, .cv (.ro Tag.t_uint8 a1))] 8 [1, 2, 3, 7, 8, 9] [0, 1, 228] (cs := [PCall V P 45 [.cv (.ro Tag.t_uint8 (((p0.Log.getD (Int.toNat xt9_9h) (⟨(0 : Int), ([] : List UInt8)⟩ : api_Entry))).Data))] (.cv (.ro Tag.t_uint8 a1)), True, (xh228_9h.length + (([(⟨((p0.Log.getD (Int.toNat xt9_9h) (⟨(0 : Int), ([] : List UInt8)⟩ : api_Entry))).Epoch, a1⟩ : api_Entry)] : List api_Entry)).length) * 32 ≤ 140737488355328, True]) (S' := ⟨[(1, .cv (.ptr 0 0)), (2, .cv (.ptr 1 0)), (3, .cv (.own Tag.t_api_Entry 228)), (7, .cv (.ro Tag.t_api_Entry p0.Log)), (8, .cv (.lit (.int .i64 (p0.Log.length : Int)))), (9, .cv (.lit (.int .i64 xt9_9h)))], [(0, .raw [.lit (.int .i64 p0.Epoch), .lit (.int .i64 p0.Vote), .lit (.int .i64 p0.Commit), .ro Tag.t_api_Entry p0.Log]), (1, .raw [.lit (.int .i64 0), .lit (.int .i64 0), .lit (.int .i64 0), .lit (.slice none 0 0)]), (228, .lst Tag.t_api_Entry ((xh228_9h ++ ([(⟨((p0.Log.getD (Int.toNat xt9_9h) (⟨(0 : Int), ([] : List UInt8)⟩ : api_Entry))).Epoch, a1⟩ : api_Entry)] : List api_Entry))))]⟩) (by kernel_rfl) (And.intro (bytes_Clone.ok h1) (And.intro trivial (And.intro g2 trivial))) ?_
      refine awp_region L 28 [] [] [1, 2, 3, 7, 8, 9] [0, 1, 228] (cs := []) (S' := ⟨[(1, .cv (.ptr 0 0)), (2, .cv (.ptr 1 0)), (3, .cv (.own Tag.t_api_Entry 228)), (7, .cv (.ro Tag.t_api_Entry p0.Log)), (8, .cv (.lit (.int .i64 (p0.Log.length : Int)))), (9, .cv (.lit (.int .i64 ((IntKind.i64.wrap (xt9_9h + 1))))))], [(0, .raw [.lit (.int .i64 p0.Epoch), .lit (.int .i64 p0.Vote), .lit (.int .i64 p0.Commit), .ro Tag.t_api_Entry p0.Log]), (1, .raw [.lit (.int .i64 0), .lit (.int .i64 0), .lit (.int .i64 0), .lit (.slice none 0 0)]), (228, .lst Tag.t_api_Entry ((xh228_9h ++ ([(⟨((p0.Log.getD (Int.toNat xt9_9h) (⟨(0 : Int), ([] : List UInt8)⟩ : api_Entry))).Epoch, a1⟩ : api_Entry)] : List api_Entry))))]⟩) (by kernel_rfl) trivial ?_
      exact ⟨k, Nat.lt_succ_self k, _, _, rfl, h⟩
    · refine awp_false (b := (decide (xt9_9h < (p0.Log.length : Int)))) (by kernel_rfl) (decide_eq_false c1) ?_
      refine awp_exit [1, 2, 3] [0, 1, 228] (S' := ⟨[(1, .cv (.ptr 0 0)), (2, .cv (.ptr 1 0)), (3, .cv (.own Tag.t_api_Entry 228))], [(0, .raw [.lit (.int .i64 p0.Epoch), .lit (.int .i64 p0.Vote), .lit (.int .i64 p0.Commit), .ro Tag.t_api_Entry p0.Log]), (1, .raw [.lit (.int .i64 0), .lit (.int .i64 0), .lit (.int .i64 0), .lit (.slice none 0 0)]), (228, .lst Tag.t_api_Entry xh228_9h)]⟩) (by kernel_rfl) ?_
      have hr := Option.some.inj h
      subst hr
      exact ⟨rfl, _, rfl, rfl⟩
  · rintro e S ⟨rfl, xh228_9, rfl, rfl⟩
    refine awp_seq ?_
    refine awp_region L 31 [] [] [1, 2] [0, 1, 228] (cs := []) (S' := ⟨[(1, .cv (.ptr 0 0)), (2, .cv (.ptr 1 0))], [(0, .raw [.lit (.int .i64 p0.Epoch), .lit (.int .i64 p0.Vote), .lit (.int .i64 p0.Commit), .own Tag.t_api_Entry 228]), (1, .raw [.lit (.int .i64 0), .lit (.int .i64 0), .lit (.int .i64 0), .lit (.slice none 0 0)]), (228, .lst Tag.t_api_Entry xh228_9)]⟩) (by kernel_rfl) trivial ?_
    refine awp_seq ?_
    refine awp_region L 35 [] [] [2] [1, 228] (cs := []) (S' := ⟨[(2, .cv (.ptr 1 0))], [(1, .raw [.lit (.int .i64 p0.Epoch), .lit (.int .i64 p0.Vote), .lit (.int .i64 p0.Commit), .own Tag.t_api_Entry 228]), (228, .lst Tag.t_api_Entry xh228_9)]⟩) (by kernel_rfl) trivial ?_
    refine awp_ret ?_
    have hr := Option.some.inj h
    subst hr
    exact ⟨.inr rfl, .agg [.lit (.int .i64 p0.Epoch), .lit (.int .i64 p0.Vote), .lit (.int .i64 p0.Commit), .own Tag.t_api_Entry 228], by kernel_rfl, by kernel_rfl, trivial, by kernel_rfl⟩

theorem ballot_replica.ok {K : Nat} {p0 : api_Replica} {r : api_Replica} (h : ballot_replica K p0 = some r) : PCall V P 51 [.agg [.lit (.int .i64 p0.Epoch), .lit (.int .i64 p0.Vote), .lit (.int .i64 p0.Commit), .ro Tag.t_api_Entry p0.Log]] (.agg [.lit (.int .i64 r.Epoch), .lit (.int .i64 r.Vote), .lit (.int .i64 r.Commit), .ro Tag.t_api_Entry r.Log]) :=
  pcall_of (fn := Try.f51) (n := 26) (by kernel_rfl) (by kernel_rfl) (by kernel_rfl) rfl (by kernel_rfl) (by kernel_rfl) fun Γ => ballot_replica.body h

def ballot_Observe (K : Nat) (p0 : api_Replica) (p1 : Int) : Option api_Replica := (Option.bind (ballot_replica K p0) (fun a1 => (if p1 > a1.Epoch then some ((⟨p1, (-1), a1.Commit, a1.Log⟩ : api_Replica)) else some a1)))

theorem ballot_Observe.body {Γ : Ent} {K : Nat} {p0 : api_Replica} {p1 : Int} {r : api_Replica} (h : ballot_Observe K p0 p1 = some r) : AWp V P 15 0 Γ (Try.f36.body.getD .skip) (Eng.Ends P V Try.f36 (.agg [.lit (.int .i64 r.Epoch), .lit (.int .i64 r.Vote), .lit (.int .i64 r.Commit), .ro Tag.t_api_Entry r.Log])) ⟨args0 0 [.agg [.lit (.int .i64 p0.Epoch), .lit (.int .i64 p0.Vote), .lit (.int .i64 p0.Commit), .ro Tag.t_api_Entry p0.Log], .cv (.lit (.int .i64 p1))], []⟩ := by
  unfold ballot_Observe at h
  refine awp_seq ?_
  refine awp_region L 0 [] [] [1, 2, 4] [0, 1] (cs := []) (S' := ⟨[(1, .cv (.lit (.int .i64 p1))), (2, .cv (.ptr 0 0)), (4, .cv (.ptr 1 0))], [(0, .raw [.lit (.int .i64 p0.Epoch), .lit (.int .i64 p0.Vote), .lit (.int .i64 p0.Commit), .ro Tag.t_api_Entry p0.Log]), (1, .raw [.lit (.int .i64 0), .lit (.int .i64 0), .lit (.int .i64 0), .lit (.slice none 0 0)])]⟩) (by kernel_rfl) trivial ?_
  refine awp_seq ?_
  obtain ⟨a1, h1, h⟩ := bind_some h
  refine awp_region L 3 [] [(1, .agg [.lit (.int .i64 a1.Epoch), .lit (.int .i64 a1.Vote), .lit (.int .i64 a1.Commit), .ro Tag.t_api_Entry a1.Log])] [1, 2, 4] [0, 1] (cs := [PCall V P 51 [.agg [.lit (.int .i64 p0.Epoch), .lit (.int .i64 p0.Vote), .lit (.int .i64 p0.Commit), .ro Tag.t_api_Entry p0.Log]] (.agg [.lit (.int .i64 a1.Epoch), .lit (.int .i64 a1.Vote), .lit (.int .i64 a1.Commit), .ro Tag.t_api_Entry a1.Log]), True]) (S' := ⟨[(1, .cv (.lit (.int .i64 p1))), (2, .cv (.ptr 0 0)), (4, .cv (.ptr 1 0))], [(0, .raw [.lit (.int .i64 a1.Epoch), .lit (.int .i64 a1.Vote), .lit (.int .i64 a1.Commit), .ro Tag.t_api_Entry a1.Log]), (1, .raw [.lit (.int .i64 0), .lit (.int .i64 0), .lit (.int .i64 0), .lit (.slice none 0 0)])]⟩) (by kernel_rfl) (And.intro (ballot_replica.ok h1) trivial) ?_
  refine awp_seq ?_
  refine awp_seq ?_
  refine awp_region L 7 [] [] [1, 2, 4, 10] [0, 1] (cs := []) (S' := ⟨[(1, .cv (.lit (.int .i64 p1))), (2, .cv (.ptr 0 0)), (4, .cv (.ptr 1 0)), (10, .cv (.lit (.bool ((decide (p1 > a1.Epoch))))))], [(0, .raw [.lit (.int .i64 a1.Epoch), .lit (.int .i64 a1.Vote), .lit (.int .i64 a1.Commit), .ro Tag.t_api_Entry a1.Log]), (1, .raw [.lit (.int .i64 0), .lit (.int .i64 0), .lit (.int .i64 0), .lit (.slice none 0 0)])]⟩) (by kernel_rfl) trivial ?_
  rcases ite_some h with ⟨c1, h⟩ | ⟨c1, h⟩
  · refine awp_true (b := (decide (p1 > a1.Epoch))) (by kernel_rfl) (decide_eq_true c1) ?_
    refine awp_region L 12 [] [] [2, 4] [0, 1] (cs := []) (S' := ⟨[(2, .cv (.ptr 0 0)), (4, .cv (.ptr 1 0))], [(0, .raw [.lit (.int .i64 p1), .lit (.int .i64 (-1)), .lit (.int .i64 a1.Commit), .ro Tag.t_api_Entry a1.Log]), (1, .raw [.lit (.int .i64 0), .lit (.int .i64 0), .lit (.int .i64 0), .lit (.slice none 0 0)])]⟩) (by kernel_rfl) trivial ?_
    refine awp_seq ?_
    refine awp_region L 18 [] [] [4] [1] (cs := []) (S' := ⟨[(4, .cv (.ptr 1 0))], [(1, .raw [.lit (.int .i64 p1), .lit (.int .i64 (-1)), .lit (.int .i64 a1.Commit), .ro Tag.t_api_Entry a1.Log])]⟩) (by kernel_rfl) trivial ?_
    refine awp_ret ?_
    have hr := Option.some.inj h
    subst hr
    exact ⟨.inr rfl, .agg [.lit (.int .i64 p1), .lit (.int .i64 (-1)), .lit (.int .i64 a1.Commit), .ro Tag.t_api_Entry a1.Log], by kernel_rfl, by kernel_rfl, trivial, by kernel_rfl⟩
  · refine awp_false (b := (decide (p1 > a1.Epoch))) (by kernel_rfl) (decide_eq_false c1) ?_
    refine awp_skip [2, 4] [0, 1] (S' := ⟨[(2, .cv (.ptr 0 0)), (4, .cv (.ptr 1 0))], [(0, .raw [.lit (.int .i64 a1.Epoch), .lit (.int .i64 a1.Vote), .lit (.int .i64 a1.Commit), .ro Tag.t_api_Entry a1.Log]), (1, .raw [.lit (.int .i64 0), .lit (.int .i64 0), .lit (.int .i64 0), .lit (.slice none 0 0)])]⟩) (by kernel_rfl) ?_
    refine awp_seq ?_
    refine awp_region L 18 [] [] [4] [1] (cs := []) (S' := ⟨[(4, .cv (.ptr 1 0))], [(1, .raw [.lit (.int .i64 a1.Epoch), .lit (.int .i64 a1.Vote), .lit (.int .i64 a1.Commit), .ro Tag.t_api_Entry a1.Log])]⟩) (by kernel_rfl) trivial ?_
    refine awp_ret ?_
    have hr := Option.some.inj h
    subst hr
    exact ⟨.inr rfl, .agg [.lit (.int .i64 a1.Epoch), .lit (.int .i64 a1.Vote), .lit (.int .i64 a1.Commit), .ro Tag.t_api_Entry a1.Log], by kernel_rfl, by kernel_rfl, trivial, by kernel_rfl⟩

theorem ballot_Observe.ok {K : Nat} {p0 : api_Replica} {p1 : Int} {r : api_Replica} (h : ballot_Observe K p0 p1 = some r) : PCall V P 36 [.agg [.lit (.int .i64 p0.Epoch), .lit (.int .i64 p0.Vote), .lit (.int .i64 p0.Commit), .ro Tag.t_api_Entry p0.Log], .cv (.lit (.int .i64 p1))] (.agg [.lit (.int .i64 r.Epoch), .lit (.int .i64 r.Vote), .lit (.int .i64 r.Commit), .ro Tag.t_api_Entry r.Log]) :=
  pcall_of (fn := Try.f36) (n := 15) (by kernel_rfl) (by kernel_rfl) (by kernel_rfl) rfl (by kernel_rfl) (by kernel_rfl) fun Γ => ballot_Observe.body h

def replog_Last (K : Nat) (p0 : api_Replica) : Option (Int × Int) := (if (p0.Log.length : Int) = 0 then some (0, 0) else (if (0 : Int) ≤ (IntKind.i64.wrap ((p0.Log.length : Int) - 1)) ∧ ((IntKind.i64.wrap ((p0.Log.length : Int) - 1)) : Int) < (p0.Log.length : Int) then some (((p0.Log.length : Int), ((p0.Log.getD (Int.toNat ((IntKind.i64.wrap ((p0.Log.length : Int) - 1)))) (⟨(0 : Int), ([] : List UInt8)⟩ : api_Entry))).Epoch)) else none))

theorem replog_Last.body {Γ : Ent} {K : Nat} {p0 : api_Replica} {r : Int × Int} (h : replog_Last K p0 = some r) : AWp V P 18 0 Γ (Try.f22.body.getD .skip) (Eng.Ends P V Try.f22 (.tup [.cv (.lit (.int .i64 r.1)), .cv (.lit (.int .i64 r.2))])) ⟨args0 0 [.agg [.lit (.int .i64 p0.Epoch), .lit (.int .i64 p0.Vote), .lit (.int .i64 p0.Commit), .ro Tag.t_api_Entry p0.Log]], []⟩ := by
  unfold replog_Last at h
  refine awp_seq ?_
  refine awp_region L 0 [] [] [1] [0] (cs := []) (S' := ⟨[(1, .cv (.ptr 0 0))], [(0, .raw [.lit (.int .i64 p0.Epoch), .lit (.int .i64 p0.Vote), .lit (.int .i64 p0.Commit), .ro Tag.t_api_Entry p0.Log])]⟩) (by kernel_rfl) trivial ?_
  refine awp_seq ?_
  refine awp_region L 4 [] [] [1, 4] [0] (cs := []) (S' := ⟨[(1, .cv (.ptr 0 0)), (4, .cv (.lit (.int .i64 (p0.Log.length : Int))))], [(0, .raw [.lit (.int .i64 p0.Epoch), .lit (.int .i64 p0.Vote), .lit (.int .i64 p0.Commit), .ro Tag.t_api_Entry p0.Log])]⟩) (by kernel_rfl) trivial ?_
  refine awp_seq ?_
  refine awp_seq ?_
  refine awp_region L 9 [] [] [1, 4, 9] [0] (cs := []) (S' := ⟨[(1, .cv (.ptr 0 0)), (4, .cv (.lit (.int .i64 (p0.Log.length : Int)))), (9, .cv (.lit (.bool ((decide ((p0.Log.length : Int) = 0))))))], [(0, .raw [.lit (.int .i64 p0.Epoch), .lit (.int .i64 p0.Vote), .lit (.int .i64 p0.Commit), .ro Tag.t_api_Entry p0.Log])]⟩) (by kernel_rfl) trivial ?_
  rcases ite_some h with ⟨c1, h⟩ | ⟨c1, h⟩
  · refine awp_true (b := (decide ((p0.Log.length : Int) = 0))) (by kernel_rfl) (decide_eq_true c1) ?_
    refine awp_seq ?_
    refine awp_region L 12 [] [] [2, 3] [] (cs := []) (S' := ⟨[(2, .cv (.lit (.int .i64 0))), (3, .cv (.lit (.int .i64 0)))], []⟩) (by kernel_rfl) trivial ?_
    refine awp_ret ?_
    have hr := Option.some.inj h
    subst hr
    exact ⟨.inr rfl, .tup [.cv (.lit (.int .i64 0)), .cv (.lit (.int .i64 0))], by kernel_rfl, by kernel_rfl, trivial, by kernel_rfl⟩
  · refine awp_false (b := (decide ((p0.Log.length : Int) = 0))) (by kernel_rfl) (decide_eq_false c1) ?_
    refine awp_skip [1, 4] [0] (S' := ⟨[(1, .cv (.ptr 0 0)), (4, .cv (.lit (.int .i64 (p0.Log.length : Int))))], [(0, .raw [.lit (.int .i64 p0.Epoch), .lit (.int .i64 p0.Vote), .lit (.int .i64 p0.Commit), .ro Tag.t_api_Entry p0.Log])]⟩) (by kernel_rfl) ?_
    refine awp_seq ?_
    obtain ⟨g1, h⟩ := guard_some h
    refine awp_draw L mixed 15 [] [] 10 [2, 3] [] (cs := [(0 : Int) ≤ (IntKind.i64.wrap ((p0.Log.length : Int) - 1)), ((IntKind.i64.wrap ((p0.Log.length : Int) - 1)) : Int) < (p0.Log.length : Int)]) (S' := ⟨[(2, .cv (.lit (.int .i64 (p0.Log.length : Int)))), (3, .cv (.lit (.int .i64 (((p0.Log.getD (Int.toNat ((IntKind.i64.wrap ((p0.Log.length : Int) - 1)))) (⟨(0 : Int), ([] : List UInt8)⟩ : api_Entry))).Epoch))))], []⟩) (by kernel_rfl) (And.intro g1.1 g1.2) ?_
    refine awp_ret ?_
    have hr := Option.some.inj h
    subst hr
    exact ⟨.inr rfl, .tup [.cv (.lit (.int .i64 (p0.Log.length : Int))), .cv (.lit (.int .i64 (((p0.Log.getD (Int.toNat ((IntKind.i64.wrap ((p0.Log.length : Int) - 1)))) (⟨(0 : Int), ([] : List UInt8)⟩ : api_Entry))).Epoch)))], by kernel_rfl, by kernel_rfl, trivial, by kernel_rfl⟩

theorem replog_Last.ok {K : Nat} {p0 : api_Replica} {r : Int × Int} (h : replog_Last K p0 = some r) : PCall V P 22 [.agg [.lit (.int .i64 p0.Epoch), .lit (.int .i64 p0.Vote), .lit (.int .i64 p0.Commit), .ro Tag.t_api_Entry p0.Log]] (.tup [.cv (.lit (.int .i64 r.1)), .cv (.lit (.int .i64 r.2))]) :=
  pcall_of (fn := Try.f22) (n := 18) (by kernel_rfl) (by kernel_rfl) (by kernel_rfl) rfl (by kernel_rfl) (by kernel_rfl) fun Γ => replog_Last.body h

def ballot_Ask (K : Nat) (p0 : api_Replica) (p1 : Int) (p2 : Int) (p3 : Int) (p4 : Int) : Option (api_Replica × Bool × Int) := (Option.bind (replog_Right K p0) (fun a1 => (if a1 = true then (if p1 < 1 then some (((⟨0, 0, 0, ([] : List api_Entry)⟩ : api_Replica), false, 2)) else (if p1 > 1099511627776 then some (((⟨0, 0, 0, ([] : List api_Entry)⟩ : api_Replica), false, 2)) else (Option.bind (ballot_candidate K p2) (fun a2 => (if a2 = true then (if p3 < 0 then some (((⟨0, 0, 0, ([] : List api_Entry)⟩ : api_Replica), false, 2)) else (if p4 < 0 then some (((⟨0, 0, 0, ([] : List api_Entry)⟩ : api_Replica), false, 2)) else (if p1 < p0.Epoch then some (((⟨0, 0, 0, ([] : List api_Entry)⟩ : api_Replica), false, 25)) else (Option.bind (ballot_Observe K p0 p1) (fun a3 => (Option.bind (replog_Last K a3) (fun (a4_0, a4_1) => (if a3.Vote ≠ (-1) then (if a3.Vote ≠ p2 then some (a3, false, 0) else (Option.bind (ballot_Newer K p3 p4 a4_0 a4_1) (fun a5 => (if a5 = true then some (((⟨a3.Epoch, p2, a3.Commit, a3.Log⟩ : api_Replica), true, 0)) else some (a3, false, 0))))) else (Option.bind (ballot_Newer K p3 p4 a4_0 a4_1) (fun a6 => (if a6 = true then some (((⟨a3.Epoch, p2, a3.Commit, a3.Log⟩ : api_Replica), true, 0)) else some (a3, false, 0)))))))))))) else some (((⟨0, 0, 0, ([] : List api_Entry)⟩ : api_Replica), false, 2))))))) else some (((⟨0, 0, 0, ([] : List api_Entry)⟩ : api_Replica), false, 2)))))

theorem ballot_Ask.body {Γ : Ent} {K : Nat} {p0 : api_Replica} {p1 : Int} {p2 : Int} {p3 : Int} {p4 : Int} {r : api_Replica × Bool × Int} (h : ballot_Ask K p0 p1 p2 p3 p4 = some r) : AWp V P 75 0 Γ (Try.f34.body.getD .skip) (Eng.Ends P V Try.f34 (.tup [.agg [.lit (.int .i64 r.1.Epoch), .lit (.int .i64 r.1.Vote), .lit (.int .i64 r.1.Commit), .ro Tag.t_api_Entry r.1.Log], .cv (.lit (.bool r.2.1)), .cv (.lit (.int .i64 r.2.2))])) ⟨args0 0 [.agg [.lit (.int .i64 p0.Epoch), .lit (.int .i64 p0.Vote), .lit (.int .i64 p0.Commit), .ro Tag.t_api_Entry p0.Log], .cv (.lit (.int .i64 p1)), .cv (.lit (.int .i64 p2)), .cv (.lit (.int .i64 p3)), .cv (.lit (.int .i64 p4))], []⟩ := by
  unfold ballot_Ask at h
  refine awp_seq ?_
  refine awp_region L 0 [] [] [1, 2, 3, 4, 5, 10] [0, 1] (cs := []) (S' := ⟨[(1, .cv (.lit (.int .i64 p1))), (2, .cv (.lit (.int .i64 p2))), (3, .cv (.lit (.int .i64 p3))), (4, .cv (.lit (.int .i64 p4))), (5, .cv (.ptr 0 0)), (10, .cv (.ptr 1 0))], [(0, .raw [.lit (.int .i64 p0.Epoch), .lit (.int .i64 p0.Vote), .lit (.int .i64 p0.Commit), .ro Tag.t_api_Entry p0.Log]), (1, .raw [.lit (.int .i64 0), .lit (.int .i64 0), .lit (.int .i64 0), .lit (.slice none 0 0)])]⟩) (by kernel_rfl) trivial ?_
  refine awp_seq ?_
  refine awp_seq ?_
  obtain ⟨a1, h1, h⟩ := bind_some h
  rcases ite_some h with ⟨c1, h⟩ | ⟨c1, h⟩
  · rcases ite_some h with ⟨c2, h⟩ | ⟨c2, h⟩
    · refine awp_region L 5 [(3, false), (7, true)] [(1, .cv (.lit (.bool a1)))] [1, 2, 3, 4, 5, 10, 39] [0, 1] (cs := [PCall V P 28 [.agg [.lit (.int .i64 p0.Epoch), .lit (.int .i64 p0.Vote), .lit (.int .i64 p0.Commit), .ro Tag.t_api_Entry p0.Log]] (.cv (.lit (.bool a1))), True, (!a1) = false, (decide (p1 < 1)) = true]) (S' := ⟨[(1, .cv (.lit (.int .i64 p1))), (2, .cv (.lit (.int .i64 p2))), (3, .cv (.lit (.int .i64 p3))), (4, .cv (.lit (.int .i64 p4))), (5, .cv (.ptr 0 0)), (10, .cv (.ptr 1 0)), (39, .cv (.lit (.bool true)))], [(0, .raw [.lit (.int .i64 p0.Epoch), .lit (.int .i64 p0.Vote), .lit (.int .i64 p0.Commit), .ro Tag.t_api_Entry p0.Log]), (1, .raw [.lit (.int .i64 0), .lit (.int .i64 0), .lit (.int .i64 0), .lit (.slice none 0 0)])]⟩) (by kernel_rfl) (And.intro (replog_Right.ok h1) (And.intro trivial (And.intro (congrArg Bool.not (c1)) (decide_eq_true c2)))) ?_
      refine awp_true (b := true) (by kernel_rfl) (rfl) ?_
      refine awp_seq ?_
      refine awp_region L 30 [] [] [10, 11, 12] [1] (cs := []) (S' := ⟨[(10, .cv (.ptr 1 0)), (11, .cv (.lit (.bool false))), (12, .cv (.lit (.int .i64 2)))], [(1, .raw [.lit (.int .i64 0), .lit (.int .i64 0), .lit (.int .i64 0), .lit (.slice none 0 0)])]⟩) (by kernel_rfl) trivial ?_
      refine awp_ret ?_
      have hr := Option.some.inj h
      subst hr
      exact ⟨.inr rfl, .tup [.agg [.lit (.int .i64 0), .lit (.int .i64 0), .lit (.int .i64 0), .lit (.slice none 0 0)], .cv (.lit (.bool false)), .cv (.lit (.int .i64 2))], by kernel_rfl, by kernel_rfl, trivial, by kernel_rfl⟩
    · rcases ite_some h with ⟨c3, h⟩ | ⟨c3, h⟩
      · refine awp_region L 5 [(3, false), (7, false), (11, true)] [(1, .cv (.lit (.bool a1)))] [1, 2, 3, 4, 5, 10, 39] [0, 1] (cs := [PCall V P 28 [.agg [.lit (.int .i64 p0.Epoch), .lit (.int .i64 p0.Vote), .lit (.int .i64 p0.Commit), .ro Tag.t_api_Entry p0.Log]] (.cv (.lit (.bool a1))), True, (!a1) = false, (decide (p1 < 1)) = false, (decide (p1 > 1099511627776)) = true]) (S' := ⟨[(1, .cv (.lit (.int .i64 p1))), (2, .cv (.lit (.int .i64 p2))), (3, .cv (.lit (.int .i64 p3))), (4, .cv (.lit (.int .i64 p4))), (5, .cv (.ptr 0 0)), (10, .cv (.ptr 1 0)), (39, .cv (.lit (.bool true)))], [(0, .raw [.lit (.int .i64 p0.Epoch), .lit (.int .i64 p0.Vote), .lit (.int .i64 p0.Commit), .ro Tag.t_api_Entry p0.Log]), (1, .raw [.lit (.int .i64 0), .lit (.int .i64 0), .lit (.int .i64 0), .lit (.slice none 0 0)])]⟩) (by kernel_rfl) (And.intro (replog_Right.ok h1) (And.intro trivial (And.intro (congrArg Bool.not (c1)) (And.intro (decide_eq_false c2) (decide_eq_true c3))))) ?_
        refine awp_true (b := true) (by kernel_rfl) (rfl) ?_
        refine awp_seq ?_
        refine awp_region L 30 [] [] [10, 11, 12] [1] (cs := []) (S' := ⟨[(10, .cv (.ptr 1 0)), (11, .cv (.lit (.bool false))), (12, .cv (.lit (.int .i64 2)))], [(1, .raw [.lit (.int .i64 0), .lit (.int .i64 0), .lit (.int .i64 0), .lit (.slice none 0 0)])]⟩) (by kernel_rfl) trivial ?_
        refine awp_ret ?_
        have hr := Option.some.inj h
        subst hr
        exact ⟨.inr rfl, .tup [.agg [.lit (.int .i64 0), .lit (.int .i64 0), .lit (.int .i64 0), .lit (.slice none 0 0)], .cv (.lit (.bool false)), .cv (.lit (.int .i64 2))], by kernel_rfl, by kernel_rfl, trivial, by kernel_rfl⟩
      · obtain ⟨a2, h2, h⟩ := bind_some h
        rcases ite_some h with ⟨c4, h⟩ | ⟨c4, h⟩
        · rcases ite_some h with ⟨c5, h⟩ | ⟨c5, h⟩
          · refine awp_region L 5 [(3, false), (7, false), (11, false), (16, false), (20, true)] [(1, .cv (.lit (.bool a1))), (13, .cv (.lit (.bool a2)))] [1, 2, 3, 4, 5, 10, 39] [0, 1] (cs := [PCall V P 28 [.agg [.lit (.int .i64 p0.Epoch), .lit (.int .i64 p0.Vote), .lit (.int .i64 p0.Commit), .ro Tag.t_api_Entry p0.Log]] (.cv (.lit (.bool a1))), True, (!a1) = false, (decide (p1 < 1)) = false, (decide (p1 > 1099511627776)) = false, PCall V P 49 [.cv (.lit (.int .i64 p2))] (.cv (.lit (.bool a2))), True, (!a2) = false, (decide (p3 < 0)) = true]) (S' := ⟨[(1, .cv (.lit (.int .i64 p1))), (2, .cv (.lit (.int .i64 p2))), (3, .cv (.lit (.int .i64 p3))), (4, .cv (.lit (.int .i64 p4))), (5, .cv (.ptr 0 0)), (10, .cv (.ptr 1 0)), (39, .cv (.lit (.bool true)))], [(0, .raw [.lit (.int .i64 p0.Epoch), .lit (.int .i64 p0.Vote), .lit (.int .i64 p0.Commit), .ro Tag.t_api_Entry p0.Log]), (1, .raw [.lit (.int .i64 0), .lit (.int .i64 0), .lit (.int .i64 0), .lit (.slice none 0 0)])]⟩) (by kernel_rfl) (And.intro (replog_Right.ok h1) (And.intro trivial (And.intro (congrArg Bool.not (c1)) (And.intro (decide_eq_false c2) (And.intro (decide_eq_false c3) (And.intro (ballot_candidate.ok h2) (And.intro trivial (And.intro (congrArg Bool.not (c4)) (decide_eq_true c5))))))))) ?_
            refine awp_true (b := true) (by kernel_rfl) (rfl) ?_
            refine awp_seq ?_
            refine awp_region L 30 [] [] [10, 11, 12] [1] (cs := []) (S' := ⟨[(10, .cv (.ptr 1 0)), (11, .cv (.lit (.bool false))), (12, .cv (.lit (.int .i64 2)))], [(1, .raw [.lit (.int .i64 0), .lit (.int .i64 0), .lit (.int .i64 0), .lit (.slice none 0 0)])]⟩) (by kernel_rfl) trivial ?_
            refine awp_ret ?_
            have hr := Option.some.inj h
            subst hr
            exact ⟨.inr rfl, .tup [.agg [.lit (.int .i64 0), .lit (.int .i64 0), .lit (.int .i64 0), .lit (.slice none 0 0)], .cv (.lit (.bool false)), .cv (.lit (.int .i64 2))], by kernel_rfl, by kernel_rfl, trivial, by kernel_rfl⟩
          · refine awp_region L 5 [(3, false), (7, false), (11, false), (16, false), (20, false)] [(1, .cv (.lit (.bool a1))), (13, .cv (.lit (.bool a2)))] [1, 2, 3, 4, 5, 10, 39] [0, 1] (cs := [PCall V P 28 [.agg [.lit (.int .i64 p0.Epoch), .lit (.int .i64 p0.Vote), .lit (.int .i64 p0.Commit), .ro Tag.t_api_Entry p0.Log]] (.cv (.lit (.bool a1))), True, (!a1) = false, (decide (p1 < 1)) = false, (decide (p1 > 1099511627776)) = false, PCall V P 49 [.cv (.lit (.int .i64 p2))] (.cv (.lit (.bool a2))), True, (!a2) = false, (decide (p3 < 0)) = false]) (S' := ⟨[(1, .cv (.lit (.int .i64 p1))), (2, .cv (.lit (.int .i64 p2))), (3, .cv (.lit (.int .i64 p3))), (4, .cv (.lit (.int .i64 p4))), (5, .cv (.ptr 0 0)), (10, .cv (.ptr 1 0)), (39, .cv (.lit (.bool ((decide (p4 < 0))))))], [(0, .raw [.lit (.int .i64 p0.Epoch), .lit (.int .i64 p0.Vote), .lit (.int .i64 p0.Commit), .ro Tag.t_api_Entry p0.Log]), (1, .raw [.lit (.int .i64 0), .lit (.int .i64 0), .lit (.int .i64 0), .lit (.slice none 0 0)])]⟩) (by kernel_rfl) (And.intro (replog_Right.ok h1) (And.intro trivial (And.intro (congrArg Bool.not (c1)) (And.intro (decide_eq_false c2) (And.intro (decide_eq_false c3) (And.intro (ballot_candidate.ok h2) (And.intro trivial (And.intro (congrArg Bool.not (c4)) (decide_eq_false c5))))))))) ?_
            rcases ite_some h with ⟨c6, h⟩ | ⟨c6, h⟩
            · refine awp_true (b := (decide (p4 < 0))) (by kernel_rfl) (decide_eq_true c6) ?_
              refine awp_seq ?_
              refine awp_region L 30 [] [] [10, 11, 12] [1] (cs := []) (S' := ⟨[(10, .cv (.ptr 1 0)), (11, .cv (.lit (.bool false))), (12, .cv (.lit (.int .i64 2)))], [(1, .raw [.lit (.int .i64 0), .lit (.int .i64 0), .lit (.int .i64 0), .lit (.slice none 0 0)])]⟩) (by kernel_rfl) trivial ?_
              refine awp_ret ?_
              have hr := Option.some.inj h
              subst hr
              exact ⟨.inr rfl, .tup [.agg [.lit (.int .i64 0), .lit (.int .i64 0), .lit (.int .i64 0), .lit (.slice none 0 0)], .cv (.lit (.bool false)), .cv (.lit (.int .i64 2))], by kernel_rfl, by kernel_rfl, trivial, by kernel_rfl⟩
            · refine awp_false (b := (decide (p4 < 0))) (by kernel_rfl) (decide_eq_false c6) ?_
              refine awp_skip [1, 2, 3, 4, 5, 10] [0, 1] (S' := ⟨[(1, .cv (.lit (.int .i64 p1))), (2, .cv (.lit (.int .i64 p2))), (3, .cv (.lit (.int .i64 p3))), (4, .cv (.lit (.int .i64 p4))), (5, .cv (.ptr 0 0)), (10, .cv (.ptr 1 0))], [(0, .raw [.lit (.int .i64 p0.Epoch), .lit (.int .i64 p0.Vote), .lit (.int .i64 p0.Commit), .ro Tag.t_api_Entry p0.Log]), (1, .raw [.lit (.int .i64 0), .lit (.int .i64 0), .lit (.int .i64 0), .lit (.slice none 0 0)])]⟩) (by kernel_rfl) ?_
              refine awp_seq ?_
              refine awp_seq ?_
              refine awp_region L 35 [] [] [1, 2, 3, 4, 5, 10, 44] [0, 1] (cs := []) (S' := ⟨[(1, .cv (.lit (.int .i64 p1))), (2, .cv (.lit (.int .i64 p2))), (3, .cv (.lit (.int .i64 p3))), (4, .cv (.lit (.int .i64 p4))), (5, .cv (.ptr 0 0)), (10, .cv (.ptr 1 0)), (44, .cv (.lit (.bool ((decide (p1 < p0.Epoch))))))], [(0, .raw [.lit (.int .i64 p0.Epoch), .lit (.int .i64 p0.Vote), .lit (.int .i64 p0.Commit), .ro Tag.t_api_Entry p0.Log]), (1, .raw [.lit (.int .i64 0), .lit (.int .i64 0), .lit (.int .i64 0), .lit (.slice none 0 0)])]⟩) (by kernel_rfl) trivial ?_
              rcases ite_some h with ⟨c7, h⟩ | ⟨c7, h⟩
              · refine awp_true (b := (decide (p1 < p0.Epoch))) (by kernel_rfl) (decide_eq_true c7) ?_
                refine awp_seq ?_
                refine awp_region L 40 [] [] [10, 11, 12] [1] (cs := []) (S' := ⟨[(10, .cv (.ptr 1 0)), (11, .cv (.lit (.bool false))), (12, .cv (.lit (.int .i64 25)))], [(1, .raw [.lit (.int .i64 0), .lit (.int .i64 0), .lit (.int .i64 0), .lit (.slice none 0 0)])]⟩) (by kernel_rfl) trivial ?_
                refine awp_ret ?_
                have hr := Option.some.inj h
                subst hr
                exact ⟨.inr rfl, .tup [.agg [.lit (.int .i64 0), .lit (.int .i64 0), .lit (.int .i64 0), .lit (.slice none 0 0)], .cv (.lit (.bool false)), .cv (.lit (.int .i64 25))], by kernel_rfl, by kernel_rfl, trivial, by kernel_rfl⟩
              · refine awp_false (b := (decide (p1 < p0.Epoch))) (by kernel_rfl) (decide_eq_false c7) ?_
                refine awp_skip [1, 2, 3, 4, 5, 10] [0, 1] (S' := ⟨[(1, .cv (.lit (.int .i64 p1))), (2, .cv (.lit (.int .i64 p2))), (3, .cv (.lit (.int .i64 p3))), (4, .cv (.lit (.int .i64 p4))), (5, .cv (.ptr 0 0)), (10, .cv (.ptr 1 0))], [(0, .raw [.lit (.int .i64 p0.Epoch), .lit (.int .i64 p0.Vote), .lit (.int .i64 p0.Commit), .ro Tag.t_api_Entry p0.Log]), (1, .raw [.lit (.int .i64 0), .lit (.int .i64 0), .lit (.int .i64 0), .lit (.slice none 0 0)])]⟩) (by kernel_rfl) ?_
                refine awp_seq ?_
                obtain ⟨a3, h3, h⟩ := bind_some h
                refine awp_region L 45 [] [(2, .agg [.lit (.int .i64 a3.Epoch), .lit (.int .i64 a3.Vote), .lit (.int .i64 a3.Commit), .ro Tag.t_api_Entry a3.Log])] [2, 3, 4, 10, 13] [1, 48] (cs := [PCall V P 36 [.agg [.lit (.int .i64 p0.Epoch), .lit (.int .i64 p0.Vote), .lit (.int .i64 p0.Commit), .ro Tag.t_api_Entry p0.Log], .cv (.lit (.int .i64 p1))] (.agg [.lit (.int .i64 a3.Epoch), .lit (.int .i64 a3.Vote), .lit (.int .i64 a3.Commit), .ro Tag.t_api_Entry a3.Log]), True]) (S' := ⟨[(2, .cv (.lit (.int .i64 p2))), (3, .cv (.lit (.int .i64 p3))), (4, .cv (.lit (.int .i64 p4))), (10, .cv (.ptr 1 0)), (13, .cv (.ptr 48 0))], [(1, .raw [.lit (.int .i64 0), .lit (.int .i64 0), .lit (.int .i64 0), .lit (.slice none 0 0)]), (48, .raw [.lit (.int .i64 a3.Epoch), .lit (.int .i64 a3.Vote), .lit (.int .i64 a3.Commit), .ro Tag.t_api_Entry a3.Log])]⟩) (by kernel_rfl) (And.intro (ballot_Observe.ok h3) trivial) ?_
                refine awp_seq ?_
                obtain ⟨⟨a4_0, a4_1⟩, h4, h⟩ := bind_some h
                dsimp only at h
                refine awp_region L 51 [] [(1, .tup [.cv (.lit (.int .i64 a4_0)), .cv (.lit (.int .i64 a4_1))])] [2, 3, 4, 10, 13, 14, 15] [1, 48] (cs := [PCall V P 22 [.agg [.lit (.int .i64 a3.Epoch), .lit (.int .i64 a3.Vote), .lit (.int .i64 a3.Commit), .ro Tag.t_api_Entry a3.Log]] (.tup [.cv (.lit (.int .i64 a4_0)), .cv (.lit (.int .i64 a4_1))]), True]) (S' := ⟨[(2, .cv (.lit (.int .i64 p2))), (3, .cv (.lit (.int .i64 p3))), (4, .cv (.lit (.int .i64 p4))), (10, .cv (.ptr 1 0)), (13, .cv (.ptr 48 0)), (14, .cv (.lit (.int .i64 a4_0))), (15, .cv (.lit (.int .i64 a4_1)))], [(1, .raw [.lit (.int .i64 0), .lit (.int .i64 0), .lit (.int .i64 0), .lit (.slice none 0 0)]), (48, .raw [.lit (.int .i64 a3.Epoch), .lit (.int .i64 a3.Vote), .lit (.int .i64 a3.Commit), .ro Tag.t_api_Entry a3.Log])]⟩) (by kernel_rfl) (And.intro (replog_Last.ok h4) trivial) ?_
                refine awp_seq ?_
                refine awp_seq ?_
                rcases ite_some h with ⟨c8, h⟩ | ⟨c8, h⟩
                · rcases ite_some h with ⟨c9, h⟩ | ⟨c9, h⟩
                  · refine awp_region L 59 [(3, true), (9, true)] [] [2, 10, 13, 70] [1, 48] (cs := [(decide (a3.Vote ≠ (-1))) = true, (decide (a3.Vote ≠ p2)) = true]) (S' := ⟨[(2, .cv (.lit (.int .i64 p2))), (10, .cv (.ptr 1 0)), (13, .cv (.ptr 48 0)), (70, .cv (.lit (.bool true)))], [(1, .raw [.lit (.int .i64 0), .lit (.int .i64 0), .lit (.int .i64 0), .lit (.slice none 0 0)]), (48, .raw [.lit (.int .i64 a3.Epoch), .lit (.int .i64 a3.Vote), .lit (.int .i64 a3.Commit), .ro Tag.t_api_Entry a3.Log])]⟩) (by kernel_rfl) (And.intro (decide_eq_true c8) (decide_eq_true c9)) ?_
                    refine awp_true (b := true) (by kernel_rfl) (rfl) ?_
                    refine awp_seq ?_
                    refine awp_region L 77 [] [] [10, 11, 12] [1] (cs := []) (S' := ⟨[(10, .cv (.ptr 1 0)), (11, .cv (.lit (.bool false))), (12, .cv (.lit (.int .i64 0)))], [(1, .raw [.lit (.int .i64 a3.Epoch), .lit (.int .i64 a3.Vote), .lit (.int .i64 a3.Commit), .ro Tag.t_api_Entry a3.Log])]⟩) (by kernel_rfl) trivial ?_
                    refine awp_ret ?_
                    have hr := Option.some.inj h
                    subst hr
                    exact ⟨.inr rfl, .tup [.agg [.lit (.int .i64 a3.Epoch), .lit (.int .i64 a3.Vote), .lit (.int .i64 a3.Commit), .ro Tag.t_api_Entry a3.Log], .cv (.lit (.bool false)), .cv (.lit (.int .i64 0))], by kernel_rfl, by kernel_rfl, trivial, by kernel_rfl⟩
                  · obtain ⟨a5, h5, h⟩ := bind_some h
                    refine awp_region L 59 [(3, true), (9, false)] [(14, .cv (.lit (.bool a5)))] [2, 10, 13, 70] [1, 48] (cs := [(decide (a3.Vote ≠ (-1))) = true, (decide (a3.Vote ≠ p2)) = false, PCall V P 30 [.cv (.lit (.int .i64 p3)), .cv (.lit (.int .i64 p4)), .cv (.lit (.int .i64 a4_0)), .cv (.lit (.int .i64 a4_1))] (.cv (.lit (.bool a5))), True]) (S' := ⟨[(2, .cv (.lit (.int .i64 p2))), (10, .cv (.ptr 1 0)), (13, .cv (.ptr 48 0)), (70, .cv (.lit (.bool (!a5))))], [(1, .raw [.lit (.int .i64 0), .lit (.int .i64 0), .lit (.int .i64 0), .lit (.slice none 0 0)]), (48, .raw [.lit (.int .i64 a3.Epoch), .lit (.int .i64 a3.Vote), .lit (.int .i64 a3.Commit), .ro Tag.t_api_Entry a3.Log])]⟩) (by kernel_rfl) (And.intro (decide_eq_true c8) (And.intro (decide_eq_false c9) (And.intro (ballot_Newer.ok h5) trivial))) ?_
                    rcases ite_some h with ⟨c10, h⟩ | ⟨c10, h⟩
                    · refine awp_false (b := (!a5)) (by kernel_rfl) (congrArg Bool.not (c10)) ?_
                      refine awp_skip [2, 10, 13] [1, 48] (S' := ⟨[(2, .cv (.lit (.int .i64 p2))), (10, .cv (.ptr 1 0)), (13, .cv (.ptr 48 0))], [(1, .raw [.lit (.int .i64 0), .lit (.int .i64 0), .lit (.int .i64 0), .lit (.slice none 0 0)]), (48, .raw [.lit (.int .i64 a3.Epoch), .lit (.int .i64 a3.Vote), .lit (.int .i64 a3.Commit), .ro Tag.t_api_Entry a3.Log])]⟩) (by kernel_rfl) ?_
                      refine awp_seq ?_
                      refine awp_region L 82 [] [] [10, 13] [1, 48] (cs := []) (S' := ⟨[(10, .cv (.ptr 1 0)), (13, .cv (.ptr 48 0))], [(1, .raw [.lit (.int .i64 0), .lit (.int .i64 0), .lit (.int .i64 0), .lit (.slice none 0 0)]), (48, .raw [.lit (.int .i64 a3.Epoch), .lit (.int .i64 p2), .lit (.int .i64 a3.Commit), .ro Tag.t_api_Entry a3.Log])]⟩) (by kernel_rfl) trivial ?_
                      refine awp_seq ?_
                      refine awp_region L 86 [] [] [10, 11, 12] [1] (cs := []) (S' := ⟨[(10, .cv (.ptr 1 0)), (11, .cv (.lit (.bool true))), (12, .cv (.lit (.int .i64 0)))], [(1, .raw [.lit (.int .i64 a3.Epoch), .lit (.int .i64 p2), .lit (.int .i64 a3.Commit), .ro Tag.t_api_Entry a3.Log])]⟩) (by kernel_rfl) trivial ?_
                      refine awp_ret ?_
                      have hr := Option.some.inj h
                      subst hr
                      exact ⟨.inr rfl, .tup [.agg [.lit (.int .i64 a3.Epoch), .lit (.int .i64 p2), .lit (.int .i64 a3.Commit), .ro Tag.t_api_Entry a3.Log], .cv (.lit (.bool true)), .cv (.lit (.int .i64 0))], by kernel_rfl, by kernel_rfl, trivial, by kernel_rfl⟩
                    · refine awp_true (b := (!a5)) (by kernel_rfl) (congrArg Bool.not (eq_false_of_ne_true c10)) ?_
                      refine awp_seq ?_
                      refine awp_region L 77 [] [] [10, 11, 12] [1] (cs := []) (S' := ⟨[(10, .cv (.ptr 1 0)), (11, .cv (.lit (.bool false))), (12, .cv (.lit (.int .i64 0)))], [(1, .raw [.lit (.int .i64 a3.Epoch), .lit (.int .i64 a3.Vote), .lit (.int .i64 a3.Commit), .ro Tag.t_api_Entry a3.Log])]⟩) (by kernel_rfl) trivial ?_
                      refine awp_ret ?_
                      have hr := Option.some.inj h
                      subst hr
                      exact ⟨.inr rfl, .tup [.agg [.lit (.int .i64 a3.Epoch), .lit (.int .i64 a3.Vote), .lit (.int .i64 a3.Commit), .ro Tag.t_api_Entry a3.Log], .cv (.lit (.bool false)), .cv (.lit (.int .i64 0))], by kernel_rfl, by kernel_rfl, trivial, by kernel_rfl⟩
                · obtain ⟨a6, h6, h⟩ := bind_some h
                  refine awp_region L 59 [(3, false)] [(14, .cv (.lit (.bool a6)))] [2, 10, 13, 70] [1, 48] (cs := [(decide (a3.Vote ≠ (-1))) = false, PCall V P 30 [.cv (.lit (.int .i64 p3)), .cv (.lit (.int .i64 p4)), .cv (.lit (.int .i64 a4_0)), .cv (.lit (.int .i64 a4_1))] (.cv (.lit (.bool a6))), True]) (S' := ⟨[(2, .cv (.lit (.int .i64 p2))), (10, .cv (.ptr 1 0)), (13, .cv (.ptr 48 0)), (70, .cv (.lit (.bool (!a6))))], [(1, .raw [.lit (.int .i64 0), .lit (.int .i64 0), .lit (.int .i64 0), .lit (.slice none 0 0)]), (48, .raw [.lit (.int .i64 a3.Epoch), .lit (.int .i64 a3.Vote), .lit (.int .i64 a3.Commit), .ro Tag.t_api_Entry a3.Log])]⟩) (by kernel_rfl) (And.intro (decide_eq_false c8) (And.intro (ballot_Newer.ok h6) trivial)) ?_
                  rcases ite_some h with ⟨c11, h⟩ | ⟨c11, h⟩
                  · refine awp_false (b := (!a6)) (by kernel_rfl) (congrArg Bool.not (c11)) ?_
                    refine awp_skip [2, 10, 13] [1, 48] (S' := ⟨[(2, .cv (.lit (.int .i64 p2))), (10, .cv (.ptr 1 0)), (13, .cv (.ptr 48 0))], [(1, .raw [.lit (.int .i64 0), .lit (.int .i64 0), .lit (.int .i64 0), .lit (.slice none 0 0)]), (48, .raw [.lit (.int .i64 a3.Epoch), .lit (.int .i64 a3.Vote), .lit (.int .i64 a3.Commit), .ro Tag.t_api_Entry a3.Log])]⟩) (by kernel_rfl) ?_
                    refine awp_seq ?_
                    refine awp_region L 82 [] [] [10, 13] [1, 48] (cs := []) (S' := ⟨[(10, .cv (.ptr 1 0)), (13, .cv (.ptr 48 0))], [(1, .raw [.lit (.int .i64 0), .lit (.int .i64 0), .lit (.int .i64 0), .lit (.slice none 0 0)]), (48, .raw [.lit (.int .i64 a3.Epoch), .lit (.int .i64 p2), .lit (.int .i64 a3.Commit), .ro Tag.t_api_Entry a3.Log])]⟩) (by kernel_rfl) trivial ?_
                    refine awp_seq ?_
                    refine awp_region L 86 [] [] [10, 11, 12] [1] (cs := []) (S' := ⟨[(10, .cv (.ptr 1 0)), (11, .cv (.lit (.bool true))), (12, .cv (.lit (.int .i64 0)))], [(1, .raw [.lit (.int .i64 a3.Epoch), .lit (.int .i64 p2), .lit (.int .i64 a3.Commit), .ro Tag.t_api_Entry a3.Log])]⟩) (by kernel_rfl) trivial ?_
                    refine awp_ret ?_
                    have hr := Option.some.inj h
                    subst hr
                    exact ⟨.inr rfl, .tup [.agg [.lit (.int .i64 a3.Epoch), .lit (.int .i64 p2), .lit (.int .i64 a3.Commit), .ro Tag.t_api_Entry a3.Log], .cv (.lit (.bool true)), .cv (.lit (.int .i64 0))], by kernel_rfl, by kernel_rfl, trivial, by kernel_rfl⟩
                  · refine awp_true (b := (!a6)) (by kernel_rfl) (congrArg Bool.not (eq_false_of_ne_true c11)) ?_
                    refine awp_seq ?_
                    refine awp_region L 77 [] [] [10, 11, 12] [1] (cs := []) (S' := ⟨[(10, .cv (.ptr 1 0)), (11, .cv (.lit (.bool false))), (12, .cv (.lit (.int .i64 0)))], [(1, .raw [.lit (.int .i64 a3.Epoch), .lit (.int .i64 a3.Vote), .lit (.int .i64 a3.Commit), .ro Tag.t_api_Entry a3.Log])]⟩) (by kernel_rfl) trivial ?_
                    refine awp_ret ?_
                    have hr := Option.some.inj h
                    subst hr
                    exact ⟨.inr rfl, .tup [.agg [.lit (.int .i64 a3.Epoch), .lit (.int .i64 a3.Vote), .lit (.int .i64 a3.Commit), .ro Tag.t_api_Entry a3.Log], .cv (.lit (.bool false)), .cv (.lit (.int .i64 0))], by kernel_rfl, by kernel_rfl, trivial, by kernel_rfl⟩
        · refine awp_region L 5 [(3, false), (7, false), (11, false), (16, true)] [(1, .cv (.lit (.bool a1))), (13, .cv (.lit (.bool a2)))] [1, 2, 3, 4, 5, 10, 39] [0, 1] (cs := [PCall V P 28 [.agg [.lit (.int .i64 p0.Epoch), .lit (.int .i64 p0.Vote), .lit (.int .i64 p0.Commit), .ro Tag.t_api_Entry p0.Log]] (.cv (.lit (.bool a1))), True, (!a1) = false, (decide (p1 < 1)) = false, (decide (p1 > 1099511627776)) = false, PCall V P 49 [.cv (.lit (.int .i64 p2))] (.cv (.lit (.bool a2))), True, (!a2) = true]) (S' := ⟨[(1, .cv (.lit (.int .i64 p1))), (2, .cv (.lit (.int .i64 p2))), (3, .cv (.lit (.int .i64 p3))), (4, .cv (.lit (.int .i64 p4))), (5, .cv (.ptr 0 0)), (10, .cv (.ptr 1 0)), (39, .cv (.lit (.bool true)))], [(0, .raw [.lit (.int .i64 p0.Epoch), .lit (.int .i64 p0.Vote), .lit (.int .i64 p0.Commit), .ro Tag.t_api_Entry p0.Log]), (1, .raw [.lit (.int .i64 0), .lit (.int .i64 0), .lit (.int .i64 0), .lit (.slice none 0 0)])]⟩) (by kernel_rfl) (And.intro (replog_Right.ok h1) (And.intro trivial (And.intro (congrArg Bool.not (c1)) (And.intro (decide_eq_false c2) (And.intro (decide_eq_false c3) (And.intro (ballot_candidate.ok h2) (And.intro trivial (congrArg Bool.not (eq_false_of_ne_true c4))))))))) ?_
          refine awp_true (b := true) (by kernel_rfl) (rfl) ?_
          refine awp_seq ?_
          refine awp_region L 30 [] [] [10, 11, 12] [1] (cs := []) (S' := ⟨[(10, .cv (.ptr 1 0)), (11, .cv (.lit (.bool false))), (12, .cv (.lit (.int .i64 2)))], [(1, .raw [.lit (.int .i64 0), .lit (.int .i64 0), .lit (.int .i64 0), .lit (.slice none 0 0)])]⟩) (by kernel_rfl) trivial ?_
          refine awp_ret ?_
          have hr := Option.some.inj h
          subst hr
          exact ⟨.inr rfl, .tup [.agg [.lit (.int .i64 0), .lit (.int .i64 0), .lit (.int .i64 0), .lit (.slice none 0 0)], .cv (.lit (.bool false)), .cv (.lit (.int .i64 2))], by kernel_rfl, by kernel_rfl, trivial, by kernel_rfl⟩
  · refine awp_region L 5 [(3, true)] [(1, .cv (.lit (.bool a1)))] [1, 2, 3, 4, 5, 10, 39] [0, 1] (cs := [PCall V P 28 [.agg [.lit (.int .i64 p0.Epoch), .lit (.int .i64 p0.Vote), .lit (.int .i64 p0.Commit), .ro Tag.t_api_Entry p0.Log]] (.cv (.lit (.bool a1))), True, (!a1) = true]) (S' := ⟨[(1, .cv (.lit (.int .i64 p1))), (2, .cv (.lit (.int .i64 p2))), (3, .cv (.lit (.int .i64 p3))), (4, .cv (.lit (.int .i64 p4))), (5, .cv (.ptr 0 0)), (10, .cv (.ptr 1 0)), (39, .cv (.lit (.bool true)))], [(0, .raw [.lit (.int .i64 p0.Epoch), .lit (.int .i64 p0.Vote), .lit (.int .i64 p0.Commit), .ro Tag.t_api_Entry p0.Log]), (1, .raw [.lit (.int .i64 0), .lit (.int .i64 0), .lit (.int .i64 0), .lit (.slice none 0 0)])]⟩) (by kernel_rfl) (And.intro (replog_Right.ok h1) (And.intro trivial (congrArg Bool.not (eq_false_of_ne_true c1)))) ?_
    refine awp_true (b := true) (by kernel_rfl) (rfl) ?_
    refine awp_seq ?_
    refine awp_region L 30 [] [] [10, 11, 12] [1] (cs := []) (S' := ⟨[(10, .cv (.ptr 1 0)), (11, .cv (.lit (.bool false))), (12, .cv (.lit (.int .i64 2)))], [(1, .raw [.lit (.int .i64 0), .lit (.int .i64 0), .lit (.int .i64 0), .lit (.slice none 0 0)])]⟩) (by kernel_rfl) trivial ?_
    refine awp_ret ?_
    have hr := Option.some.inj h
    subst hr
    exact ⟨.inr rfl, .tup [.agg [.lit (.int .i64 0), .lit (.int .i64 0), .lit (.int .i64 0), .lit (.slice none 0 0)], .cv (.lit (.bool false)), .cv (.lit (.int .i64 2))], by kernel_rfl, by kernel_rfl, trivial, by kernel_rfl⟩

theorem ballot_Ask.ok {K : Nat} {p0 : api_Replica} {p1 : Int} {p2 : Int} {p3 : Int} {p4 : Int} {r : api_Replica × Bool × Int} (h : ballot_Ask K p0 p1 p2 p3 p4 = some r) : PCall V P 34 [.agg [.lit (.int .i64 p0.Epoch), .lit (.int .i64 p0.Vote), .lit (.int .i64 p0.Commit), .ro Tag.t_api_Entry p0.Log], .cv (.lit (.int .i64 p1)), .cv (.lit (.int .i64 p2)), .cv (.lit (.int .i64 p3)), .cv (.lit (.int .i64 p4))] (.tup [.agg [.lit (.int .i64 r.1.Epoch), .lit (.int .i64 r.1.Vote), .lit (.int .i64 r.1.Commit), .ro Tag.t_api_Entry r.1.Log], .cv (.lit (.bool r.2.1)), .cv (.lit (.int .i64 r.2.2))]) :=
  pcall_of (fn := Try.f34) (n := 75) (by kernel_rfl) (by kernel_rfl) (by kernel_rfl) rfl (by kernel_rfl) (by kernel_rfl) fun Γ => ballot_Ask.body h

def ballot_Stand (K : Nat) (p0 : api_Replica) (p1 : Int) : Option (api_Replica × Int) := (Option.bind (replog_Right K p0) (fun a1 => (if a1 = true then (Option.bind (ballot_candidate K p1) (fun a2 => (if a2 = true then (if p0.Epoch ≥ 1099511627776 then some (((⟨0, 0, 0, ([] : List api_Entry)⟩ : api_Replica), 19)) else (Option.bind (ballot_replica K p0) (fun a3 => some (((⟨(IntKind.i64.wrap (a3.Epoch + 1)), p1, a3.Commit, a3.Log⟩ : api_Replica), 0))))) else some (((⟨0, 0, 0, ([] : List api_Entry)⟩ : api_Replica), 2))))) else some (((⟨0, 0, 0, ([] : List api_Entry)⟩ : api_Replica), 2)))))

theorem ballot_Stand.body {Γ : Ent} {K : Nat} {p0 : api_Replica} {p1 : Int} {r : api_Replica × Int} (h : ballot_Stand K p0 p1 = some r) : AWp V P 28 0 Γ (Try.f38.body.getD .skip) (Eng.Ends P V Try.f38 (.tup [.agg [.lit (.int .i64 r.1.Epoch), .lit (.int .i64 r.1.Vote), .lit (.int .i64 r.1.Commit), .ro Tag.t_api_Entry r.1.Log], .cv (.lit (.int .i64 r.2))])) ⟨args0 0 [.agg [.lit (.int .i64 p0.Epoch), .lit (.int .i64 p0.Vote), .lit (.int .i64 p0.Commit), .ro Tag.t_api_Entry p0.Log], .cv (.lit (.int .i64 p1))], []⟩ := by
  unfold ballot_Stand at h
  refine awp_seq ?_
  refine awp_region L 0 [] [] [1, 2, 4] [0, 1] (cs := []) (S' := ⟨[(1, .cv (.lit (.int .i64 p1))), (2, .cv (.ptr 0 0)), (4, .cv (.ptr 1 0))], [(0, .raw [.lit (.int .i64 p0.Epoch), .lit (.int .i64 p0.Vote), .lit (.int .i64 p0.Commit), .ro Tag.t_api_Entry p0.Log]), (1, .raw [.lit (.int .i64 0), .lit (.int .i64 0), .lit (.int .i64 0), .lit (.slice none 0 0)])]⟩) (by kernel_rfl) trivial ?_
  refine awp_seq ?_
  refine awp_seq ?_
  obtain ⟨a1, h1, h⟩ := bind_some h
  rcases ite_some h with ⟨c1, h⟩ | ⟨c1, h⟩
  · obtain ⟨a2, h2, h⟩ := bind_some h
    refine awp_region L 4 [(3, false)] [(1, .cv (.lit (.bool a1))), (5, .cv (.lit (.bool a2)))] [1, 2, 4, 13] [0, 1] (cs := [PCall V P 28 [.agg [.lit (.int .i64 p0.Epoch), .lit (.int .i64 p0.Vote), .lit (.int .i64 p0.Commit), .ro Tag.t_api_Entry p0.Log]] (.cv (.lit (.bool a1))), True, (!a1) = false, PCall V P 49 [.cv (.lit (.int .i64 p1))] (.cv (.lit (.bool a2))), True]) (S' := ⟨[(1, .cv (.lit (.int .i64 p1))), (2, .cv (.ptr 0 0)), (4, .cv (.ptr 1 0)), (13, .cv (.lit (.bool (!a2))))], [(0, .raw [.lit (.int .i64 p0.Epoch), .lit (.int .i64 p0.Vote), .lit (.int .i64 p0.Commit), .ro Tag.t_api_Entry p0.Log]), (1, .raw [.lit (.int .i64 0), .lit (.int .i64 0), .lit (.int .i64 0), .lit (.slice none 0 0)])]⟩) (by kernel_rfl) (And.intro (replog_Right.ok h1) (And.intro trivial (And.intro (congrArg Bool.not (c1)) (And.intro (ballot_candidate.ok h2) trivial)))) ?_
    rcases ite_some h with ⟨c2, h⟩ | ⟨c2, h⟩
    · refine awp_false (b := (!a2)) (by kernel_rfl) (congrArg Bool.not (c2)) ?_
      refine awp_skip [1, 2, 4] [0, 1] (S' := ⟨[(1, .cv (.lit (.int .i64 p1))), (2, .cv (.ptr 0 0)), (4, .cv (.ptr 1 0))], [(0, .raw [.lit (.int .i64 p0.Epoch), .lit (.int .i64 p0.Vote), .lit (.int .i64 p0.Commit), .ro Tag.t_api_Entry p0.Log]), (1, .raw [.lit (.int .i64 0), .lit (.int .i64 0), .lit (.int .i64 0), .lit (.slice none 0 0)])]⟩) (by kernel_rfl) ?_
      refine awp_seq ?_
      refine awp_seq ?_
      refine awp_region L 17 [] [] [1, 2, 4, 17] [0, 1] (cs := []) (S' := ⟨[(1, .cv (.lit (.int .i64 p1))), (2, .cv (.ptr 0 0)), (4, .cv (.ptr 1 0)), (17, .cv (.lit (.bool ((decide (p0.Epoch ≥ 1099511627776))))))], [(0, .raw [.lit (.int .i64 p0.Epoch), .lit (.int .i64 p0.Vote), .lit (.int .i64 p0.Commit), .ro Tag.t_api_Entry p0.Log]), (1, .raw [.lit (.int .i64 0), .lit (.int .i64 0), .lit (.int .i64 0), .lit (.slice none 0 0)])]⟩) (by kernel_rfl) trivial ?_
      rcases ite_some h with ⟨c3, h⟩ | ⟨c3, h⟩
      · refine awp_true (b := (decide (p0.Epoch ≥ 1099511627776))) (by kernel_rfl) (decide_eq_true c3) ?_
        refine awp_seq ?_
        refine awp_region L 21 [] [] [4, 5] [1] (cs := []) (S' := ⟨[(4, .cv (.ptr 1 0)), (5, .cv (.lit (.int .i64 19)))], [(1, .raw [.lit (.int .i64 0), .lit (.int .i64 0), .lit (.int .i64 0), .lit (.slice none 0 0)])]⟩) (by kernel_rfl) trivial ?_
        refine awp_ret ?_
        have hr := Option.some.inj h
        subst hr
        exact ⟨.inr rfl, .tup [.agg [.lit (.int .i64 0), .lit (.int .i64 0), .lit (.int .i64 0), .lit (.slice none 0 0)], .cv (.lit (.int .i64 19))], by kernel_rfl, by kernel_rfl, trivial, by kernel_rfl⟩
      · refine awp_false (b := (decide (p0.Epoch ≥ 1099511627776))) (by kernel_rfl) (decide_eq_false c3) ?_
        refine awp_skip [1, 2, 4] [0, 1] (S' := ⟨[(1, .cv (.lit (.int .i64 p1))), (2, .cv (.ptr 0 0)), (4, .cv (.ptr 1 0))], [(0, .raw [.lit (.int .i64 p0.Epoch), .lit (.int .i64 p0.Vote), .lit (.int .i64 p0.Commit), .ro Tag.t_api_Entry p0.Log]), (1, .raw [.lit (.int .i64 0), .lit (.int .i64 0), .lit (.int .i64 0), .lit (.slice none 0 0)])]⟩) (by kernel_rfl) ?_
        refine awp_seq ?_
        obtain ⟨a3, h3, h⟩ := bind_some h
        refine awp_region L 25 [] [(1, .agg [.lit (.int .i64 a3.Epoch), .lit (.int .i64 a3.Vote), .lit (.int .i64 a3.Commit), .ro Tag.t_api_Entry a3.Log])] [1, 2, 4] [0, 1] (cs := [PCall V P 51 [.agg [.lit (.int .i64 p0.Epoch), .lit (.int .i64 p0.Vote), .lit (.int .i64 p0.Commit), .ro Tag.t_api_Entry p0.Log]] (.agg [.lit (.int .i64 a3.Epoch), .lit (.int .i64 a3.Vote), .lit (.int .i64 a3.Commit), .ro Tag.t_api_Entry a3.Log]), True]) (S' := ⟨[(1, .cv (.lit (.int .i64 p1))), (2, .cv (.ptr 0 0)), (4, .cv (.ptr 1 0))], [(0, .raw [.lit (.int .i64 a3.Epoch), .lit (.int .i64 a3.Vote), .lit (.int .i64 a3.Commit), .ro Tag.t_api_Entry a3.Log]), (1, .raw [.lit (.int .i64 0), .lit (.int .i64 0), .lit (.int .i64 0), .lit (.slice none 0 0)])]⟩) (by kernel_rfl) (And.intro (ballot_replica.ok h3) trivial) ?_
        refine awp_seq ?_
        refine awp_region L 29 [] [] [2, 4] [0, 1] (cs := []) (S' := ⟨[(2, .cv (.ptr 0 0)), (4, .cv (.ptr 1 0))], [(0, .raw [.lit (.int .i64 ((IntKind.i64.wrap (a3.Epoch + 1)))), .lit (.int .i64 p1), .lit (.int .i64 a3.Commit), .ro Tag.t_api_Entry a3.Log]), (1, .raw [.lit (.int .i64 0), .lit (.int .i64 0), .lit (.int .i64 0), .lit (.slice none 0 0)])]⟩) (by kernel_rfl) trivial ?_
        refine awp_seq ?_
        refine awp_region L 38 [] [] [4, 5] [1] (cs := []) (S' := ⟨[(4, .cv (.ptr 1 0)), (5, .cv (.lit (.int .i64 0)))], [(1, .raw [.lit (.int .i64 ((IntKind.i64.wrap (a3.Epoch + 1)))), .lit (.int .i64 p1), .lit (.int .i64 a3.Commit), .ro Tag.t_api_Entry a3.Log])]⟩) (by kernel_rfl) trivial ?_
        refine awp_ret ?_
        have hr := Option.some.inj h
        subst hr
        exact ⟨.inr rfl, .tup [.agg [.lit (.int .i64 ((IntKind.i64.wrap (a3.Epoch + 1)))), .lit (.int .i64 p1), .lit (.int .i64 a3.Commit), .ro Tag.t_api_Entry a3.Log], .cv (.lit (.int .i64 0))], by kernel_rfl, by kernel_rfl, trivial, by kernel_rfl⟩
    · refine awp_true (b := (!a2)) (by kernel_rfl) (congrArg Bool.not (eq_false_of_ne_true c2)) ?_
      refine awp_seq ?_
      refine awp_region L 13 [] [] [4, 5] [1] (cs := []) (S' := ⟨[(4, .cv (.ptr 1 0)), (5, .cv (.lit (.int .i64 2)))], [(1, .raw [.lit (.int .i64 0), .lit (.int .i64 0), .lit (.int .i64 0), .lit (.slice none 0 0)])]⟩) (by kernel_rfl) trivial ?_
      refine awp_ret ?_
      have hr := Option.some.inj h
      subst hr
      exact ⟨.inr rfl, .tup [.agg [.lit (.int .i64 0), .lit (.int .i64 0), .lit (.int .i64 0), .lit (.slice none 0 0)], .cv (.lit (.int .i64 2))], by kernel_rfl, by kernel_rfl, trivial, by kernel_rfl⟩
  · refine awp_region L 4 [(3, true)] [(1, .cv (.lit (.bool a1)))] [1, 2, 4, 13] [0, 1] (cs := [PCall V P 28 [.agg [.lit (.int .i64 p0.Epoch), .lit (.int .i64 p0.Vote), .lit (.int .i64 p0.Commit), .ro Tag.t_api_Entry p0.Log]] (.cv (.lit (.bool a1))), True, (!a1) = true]) (S' := ⟨[(1, .cv (.lit (.int .i64 p1))), (2, .cv (.ptr 0 0)), (4, .cv (.ptr 1 0)), (13, .cv (.lit (.bool true)))], [(0, .raw [.lit (.int .i64 p0.Epoch), .lit (.int .i64 p0.Vote), .lit (.int .i64 p0.Commit), .ro Tag.t_api_Entry p0.Log]), (1, .raw [.lit (.int .i64 0), .lit (.int .i64 0), .lit (.int .i64 0), .lit (.slice none 0 0)])]⟩) (by kernel_rfl) (And.intro (replog_Right.ok h1) (And.intro trivial (congrArg Bool.not (eq_false_of_ne_true c1)))) ?_
    refine awp_true (b := true) (by kernel_rfl) (rfl) ?_
    refine awp_seq ?_
    refine awp_region L 13 [] [] [4, 5] [1] (cs := []) (S' := ⟨[(4, .cv (.ptr 1 0)), (5, .cv (.lit (.int .i64 2)))], [(1, .raw [.lit (.int .i64 0), .lit (.int .i64 0), .lit (.int .i64 0), .lit (.slice none 0 0)])]⟩) (by kernel_rfl) trivial ?_
    refine awp_ret ?_
    have hr := Option.some.inj h
    subst hr
    exact ⟨.inr rfl, .tup [.agg [.lit (.int .i64 0), .lit (.int .i64 0), .lit (.int .i64 0), .lit (.slice none 0 0)], .cv (.lit (.int .i64 2))], by kernel_rfl, by kernel_rfl, trivial, by kernel_rfl⟩

theorem ballot_Stand.ok {K : Nat} {p0 : api_Replica} {p1 : Int} {r : api_Replica × Int} (h : ballot_Stand K p0 p1 = some r) : PCall V P 38 [.agg [.lit (.int .i64 p0.Epoch), .lit (.int .i64 p0.Vote), .lit (.int .i64 p0.Commit), .ro Tag.t_api_Entry p0.Log], .cv (.lit (.int .i64 p1))] (.tup [.agg [.lit (.int .i64 r.1.Epoch), .lit (.int .i64 r.1.Vote), .lit (.int .i64 r.1.Commit), .ro Tag.t_api_Entry r.1.Log], .cv (.lit (.int .i64 r.2))]) :=
  pcall_of (fn := Try.f38) (n := 28) (by kernel_rfl) (by kernel_rfl) (by kernel_rfl) rfl (by kernel_rfl) (by kernel_rfl) fun Γ => ballot_Stand.body h

def workflowlaw54_works (K : Nat) : Option Bool := (Option.bind (ballot_Ask K ((⟨2, (-1), 0, ([] : List api_Entry)⟩ : api_Replica)) 3 1 0 0) (fun (a1_0, a1_1, a1_2) => (Option.bind (ballot_Ask K a1_0 3 2 0 0) (fun (a2_0, a2_1, a2_2) => (Option.bind (ballot_Ask K a1_0 2 2 0 0) (fun (a3_0, a3_1, a3_2) => (Option.bind (ballot_Stand K a1_0 4) (fun (a4_0, a4_1) => (Option.bind (ballot_Ask K ((⟨2, (-1), 0, ([(⟨2, ([] : List UInt8)⟩ : api_Entry)] : List api_Entry)⟩ : api_Replica)) 3 1 5 1) (fun (a5_0, a5_1, a5_2) => (if a1_1 = true then (if a2_1 = true then some false else (if (IntKind.i64.wrap ((IntKind.i64.wrap (a1_2 + a2_2)) + a4_1)) = 0 then (if a3_2 = 25 then (if a1_0.Epoch = 3 then (if a1_0.Vote = 1 then (if a4_0.Epoch = 4 then (if a4_0.Vote = 4 then (if a5_1 = true then some false else (if a5_0.Epoch = 3 then (Option.bind (ballot_Newer K 1 3 9 2) (fun a6 => some a6)) else some false)) else some false) else some false) else some false) else some false) else some false) else some false)) else some false)))))))))))

theorem workflowlaw54_works.body {Γ : Ent} {K : Nat} {r : Bool} (h : workflowlaw54_works K = some r) : AWp V P 99 0 Γ (Try.f32.body.getD .skip) (Eng.Ends P V Try.f32 (.cv (.lit (.bool r)))) ⟨args0 0 [], []⟩ := by
  unfold workflowlaw54_works at h
  refine awp_seq ?_
  refine awp_region L 0 [] [] [] [] (cs := []) (S' := ⟨[], []⟩) (by kernel_rfl) trivial ?_
  refine awp_seq ?_
  refine awp_region L 2 [] [] [1] [3] (cs := []) (S' := ⟨[(1, .cv (.ptr 3 0))], [(3, .raw [.lit (.int .i64 2), .lit (.int .i64 (-1)), .lit (.int .i64 0), .lit (.slice none 0 0)])]⟩) (by kernel_rfl) trivial ?_
  refine awp_seq ?_
  obtain ⟨⟨a1_0, a1_1, a1_2⟩, h1, h⟩ := bind_some h
  dsimp only at h
  refine awp_region L 6 [] [(1, .tup [.agg [.lit (.int .i64 a1_0.Epoch), .lit (.int .i64 a1_0.Vote), .lit (.int .i64 a1_0.Commit), .ro Tag.t_api_Entry a1_0.Log], .cv (.lit (.bool a1_1)), .cv (.lit (.int .i64 a1_2))])] [2, 3, 4] [12] (cs := [PCall V P 34 [.agg [.lit (.int .i64 2), .lit (.int .i64 (-1)), .lit (.int .i64 0), .lit (.slice none 0 0)], .cv (.lit (.int .i64 3)), .cv (.lit (.int .i64 1)), .cv (.lit (.int .i64 0)), .cv (.lit (.int .i64 0))] (.tup [.agg [.lit (.int .i64 a1_0.Epoch), .lit (.int .i64 a1_0.Vote), .lit (.int .i64 a1_0.Commit), .ro Tag.t_api_Entry a1_0.Log], .cv (.lit (.bool a1_1)), .cv (.lit (.int .i64 a1_2))]), True]) (S' := ⟨[(2, .cv (.ptr 12 0)), (3, .cv (.lit (.bool a1_1))), (4, .cv (.lit (.int .i64 a1_2)))], [(12, .raw [.lit (.int .i64 a1_0.Epoch), .lit (.int .i64 a1_0.Vote), .lit (.int .i64 a1_0.Commit), .ro Tag.t_api_Entry a1_0.Log])]⟩) (by kernel_rfl) (And.intro (PCall.co V (ballot_Ask.ok h1) (by kernel_rfl)) trivial) ?_
  refine awp_seq ?_
  obtain ⟨⟨a2_0, a2_1, a2_2⟩, h2, h⟩ := bind_some h
  dsimp only at h
  refine awp_region L 17 [] [(1, .tup [.agg [.lit (.int .i64 a2_0.Epoch), .lit (.int .i64 a2_0.Vote), .lit (.int .i64 a2_0.Commit), .ro Tag.t_api_Entry a2_0.Log], .cv (.lit (.bool a2_1)), .cv (.lit (.int .i64 a2_2))])] [2, 3, 4, 6, 7] [12] (cs := [PCall V P 34 [.agg [.lit (.int .i64 a1_0.Epoch), .lit (.int .i64 a1_0.Vote), .lit (.int .i64 a1_0.Commit), .ro Tag.t_api_Entry a1_0.Log], .cv (.lit (.int .i64 3)), .cv (.lit (.int .i64 2)), .cv (.lit (.int .i64 0)), .cv (.lit (.int .i64 0))] (.tup [.agg [.lit (.int .i64 a2_0.Epoch), .lit (.int .i64 a2_0.Vote), .lit (.int .i64 a2_0.Commit), .ro Tag.t_api_Entry a2_0.Log], .cv (.lit (.bool a2_1)), .cv (.lit (.int .i64 a2_2))]), True]) (S' := ⟨[(2, .cv (.ptr 12 0)), (3, .cv (.lit (.bool a1_1))), (4, .cv (.lit (.int .i64 a1_2))), (6, .cv (.lit (.bool a2_1))), (7, .cv (.lit (.int .i64 a2_2)))], [(12, .raw [.lit (.int .i64 a1_0.Epoch), .lit (.int .i64 a1_0.Vote), .lit (.int .i64 a1_0.Commit), .ro Tag.t_api_Entry a1_0.Log])]⟩) (by kernel_rfl) (And.intro (ballot_Ask.ok h2) trivial) ?_
  refine awp_seq ?_
  obtain ⟨⟨a3_0, a3_1, a3_2⟩, h3, h⟩ := bind_some h
  dsimp only at h
  refine awp_region L 28 [] [(1, .tup [.agg [.lit (.int .i64 a3_0.Epoch), .lit (.int .i64 a3_0.Vote), .lit (.int .i64 a3_0.Commit), .ro Tag.t_api_Entry a3_0.Log], .cv (.lit (.bool a3_1)), .cv (.lit (.int .i64 a3_2))])] [2, 3, 4, 6, 7, 10] [12] (cs := [PCall V P 34 [.agg [.lit (.int .i64 a1_0.Epoch), .lit (.int .i64 a1_0.Vote), .lit (.int .i64 a1_0.Commit), .ro Tag.t_api_Entry a1_0.Log], .cv (.lit (.int .i64 2)), .cv (.lit (.int .i64 2)), .cv (.lit (.int .i64 0)), .cv (.lit (.int .i64 0))] (.tup [.agg [.lit (.int .i64 a3_0.Epoch), .lit (.int .i64 a3_0.Vote), .lit (.int .i64 a3_0.Commit), .ro Tag.t_api_Entry a3_0.Log], .cv (.lit (.bool a3_1)), .cv (.lit (.int .i64 a3_2))]), True]) (S' := ⟨[(2, .cv (.ptr 12 0)), (3, .cv (.lit (.bool a1_1))), (4, .cv (.lit (.int .i64 a1_2))), (6, .cv (.lit (.bool a2_1))), (7, .cv (.lit (.int .i64 a2_2))), (10, .cv (.lit (.int .i64 a3_2)))], [(12, .raw [.lit (.int .i64 a1_0.Epoch), .lit (.int .i64 a1_0.Vote), .lit (.int .i64 a1_0.Commit), .ro Tag.t_api_Entry a1_0.Log])]⟩) (by kernel_rfl) (And.intro (ballot_Ask.ok h3) trivial) ?_
  refine awp_seq ?_
  obtain ⟨⟨a4_0, a4_1⟩, h4, h⟩ := bind_some h
  dsimp only at h
  refine awp_region L 39 [] [(1, .tup [.agg [.lit (.int .i64 a4_0.Epoch), .lit (.int .i64 a4_0.Vote), .lit (.int .i64 a4_0.Commit), .ro Tag.t_api_Entry a4_0.Log], .cv (.lit (.int .i64 a4_1))])] [2, 3, 4, 6, 7, 10, 11, 12] [12, 44] (cs := [PCall V P 38 [.agg [.lit (.int .i64 a1_0.Epoch), .lit (.int .i64 a1_0.Vote), .lit (.int .i64 a1_0.Commit), .ro Tag.t_api_Entry a1_0.Log], .cv (.lit (.int .i64 4))] (.tup [.agg [.lit (.int .i64 a4_0.Epoch), .lit (.int .i64 a4_0.Vote), .lit (.int .i64 a4_0.Commit), .ro Tag.t_api_Entry a4_0.Log], .cv (.lit (.int .i64 a4_1))]), True]) (S' := ⟨[(2, .cv (.ptr 12 0)), (3, .cv (.lit (.bool a1_1))), (4, .cv (.lit (.int .i64 a1_2))), (6, .cv (.lit (.bool a2_1))), (7, .cv (.lit (.int .i64 a2_2))), (10, .cv (.lit (.int .i64 a3_2))), (11, .cv (.ptr 44 0)), (12, .cv (.lit (.int .i64 a4_1)))], [(12, .raw [.lit (.int .i64 a1_0.Epoch), .lit (.int .i64 a1_0.Vote), .lit (.int .i64 a1_0.Commit), .ro Tag.t_api_Entry a1_0.Log]), (44, .raw [.lit (.int .i64 a4_0.Epoch), .lit (.int .i64 a4_0.Vote), .lit (.int .i64 a4_0.Commit), .ro Tag.t_api_Entry a4_0.Log])]⟩) (by kernel_rfl) (And.intro (ballot_Stand.ok h4) trivial) ?_
  refine awp_seq ?_
  refine awp_region L 48 [] [] [2, 3, 4, 6, 7, 10, 11, 12, 13] [12, 44, 51] (cs := []) (S' := ⟨[(2, .cv (.ptr 12 0)), (3, .cv (.lit (.bool a1_1))), (4, .cv (.lit (.int .i64 a1_2))), (6, .cv (.lit (.bool a2_1))), (7, .cv (.lit (.int .i64 a2_2))), (10, .cv (.lit (.int .i64 a3_2))), (11, .cv (.ptr 44 0)), (12, .cv (.lit (.int .i64 a4_1))), (13, .cv (.ptr 51 0))], [(12, .raw [.lit (.int .i64 a1_0.Epoch), .lit (.int .i64 a1_0.Vote), .lit (.int .i64 a1_0.Commit), .ro Tag.t_api_Entry a1_0.Log]), (44, .raw [.lit (.int .i64 a4_0.Epoch), .lit (.int .i64 a4_0.Vote), .lit (.int .i64 a4_0.Commit), .ro Tag.t_api_Entry a4_0.Log]), (51, .raw [.lit (.int .i64 2), .lit (.int .i64 (-1)), .lit (.int .i64 0), .ro Tag.t_api_Entry (([(⟨2, ([] : List UInt8)⟩ : api_Entry)] : List api_Entry))])]⟩) (by kernel_rfl) trivial ?_
  refine awp_seq ?_
  obtain ⟨⟨a5_0, a5_1, a5_2⟩, h5, h⟩ := bind_some h
  dsimp only at h
  refine awp_region L 54 [] [(1, .tup [.agg [.lit (.int .i64 a5_0.Epoch), .lit (.int .i64 a5_0.Vote), .lit (.int .i64 a5_0.Commit), .ro Tag.t_api_Entry a5_0.Log], .cv (.lit (.bool a5_1)), .cv (.lit (.int .i64 a5_2))])] [2, 3, 4, 6, 7, 10, 11, 12, 14, 15] [12, 44, 60] (cs := [PCall V P 34 [.agg [.lit (.int .i64 2), .lit (.int .i64 (-1)), .lit (.int .i64 0), .ro Tag.t_api_Entry (([(⟨2, ([] : List UInt8)⟩ : api_Entry)] : List api_Entry))], .cv (.lit (.int .i64 3)), .cv (.lit (.int .i64 1)), .cv (.lit (.int .i64 5)), .cv (.lit (.int .i64 1))] (.tup [.agg [.lit (.int .i64 a5_0.Epoch), .lit (.int .i64 a5_0.Vote), .lit (.int .i64 a5_0.Commit), .ro Tag.t_api_Entry a5_0.Log], .cv (.lit (.bool a5_1)), .cv (.lit (.int .i64 a5_2))]), True]) (S' := ⟨[(2, .cv (.ptr 12 0)), (3, .cv (.lit (.bool a1_1))), (4, .cv (.lit (.int .i64 a1_2))), (6, .cv (.lit (.bool a2_1))), (7, .cv (.lit (.int .i64 a2_2))), (10, .cv (.lit (.int .i64 a3_2))), (11, .cv (.ptr 44 0)), (12, .cv (.lit (.int .i64 a4_1))), (14, .cv (.ptr 60 0)), (15, .cv (.lit (.bool a5_1)))], [(12, .raw [.lit (.int .i64 a1_0.Epoch), .lit (.int .i64 a1_0.Vote), .lit (.int .i64 a1_0.Commit), .ro Tag.t_api_Entry a1_0.Log]), (44, .raw [.lit (.int .i64 a4_0.Epoch), .lit (.int .i64 a4_0.Vote), .lit (.int .i64 a4_0.Commit), .ro Tag.t_api_Entry a4_0.Log]), (60, .raw [.lit (.int .i64 a5_0.Epoch), .lit (.int .i64 a5_0.Vote), .lit (.int .i64 a5_0.Commit), .ro Tag.t_api_Entry a5_0.Log])]⟩) (by kernel_rfl) (And.intro (ballot_Ask.ok h5) trivial) ?_
  refine awp_seq ?_
  rcases ite_some h with ⟨c1, h⟩ | ⟨c1, h⟩
  · rcases ite_some h with ⟨c2, h⟩ | ⟨c2, h⟩
    · refine awp_region L 65 [(1, true), (5, false)] [] [0] [] (cs := [a1_1 = true, (!a2_1) = false]) (S' := ⟨[(0, .cv (.lit (.bool false)))], []⟩) (by kernel_rfl) (And.intro c1 (congrArg Bool.not (c2))) ?_
      refine awp_ret ?_
      have hr := Option.some.inj h
      subst hr
      exact ⟨.inr rfl, .cv (.lit (.bool false)), by kernel_rfl, by kernel_rfl, trivial, by kernel_rfl⟩
    · rcases ite_some h with ⟨c3, h⟩ | ⟨c3, h⟩
      · rcases ite_some h with ⟨c4, h⟩ | ⟨c4, h⟩
        · rcases ite_some h with ⟨c5, h⟩ | ⟨c5, h⟩
          · rcases ite_some h with ⟨c6, h⟩ | ⟨c6, h⟩
            · rcases ite_some h with ⟨c7, h⟩ | ⟨c7, h⟩
              · rcases ite_some h with ⟨c8, h⟩ | ⟨c8, h⟩
                · rcases ite_some h with ⟨c9, h⟩ | ⟨c9, h⟩
                  · refine awp_region L 65 [(1, true), (5, true), (13, true), (17, true), (22, true), (27, true), (32, true), (37, true), (41, false)] [] [0] [] (cs := [a1_1 = true, (!a2_1) = true, (decide ((IntKind.i64.wrap ((IntKind.i64.wrap (a1_2 + a2_2)) + a4_1)) = 0)) = true, (decide (a3_2 = 25)) = true, (decide (a1_0.Epoch = 3)) = true, (decide (a1_0.Vote = 1)) = true, (decide (a4_0.Epoch = 4)) = true, (decide (a4_0.Vote = 4)) = true, (!a5_1) = false]) (S' := ⟨[(0, .cv (.lit (.bool false)))], []⟩) (by kernel_rfl) (And.intro c1 (And.intro (congrArg Bool.not (eq_false_of_ne_true c2)) (And.intro (decide_eq_true c3) (And.intro (decide_eq_true c4) (And.intro (decide_eq_true c5) (And.intro (decide_eq_true c6) (And.intro (decide_eq_true c7) (And.intro (decide_eq_true c8) (congrArg Bool.not (c9)))))))))) ?_
                    refine awp_ret ?_
                    have hr := Option.some.inj h
                    subst hr
                    exact ⟨.inr rfl, .cv (.lit (.bool false)), by kernel_rfl, by kernel_rfl, trivial, by kernel_rfl⟩
                  · rcases ite_some h with ⟨c10, h⟩ | ⟨c10, h⟩
                    · obtain ⟨a6, h6, h⟩ := bind_some h
                      refine awp_region L 65 [(1, true), (5, true), (13, true), (17, true), (22, true), (27, true), (32, true), (37, true), (41, true), (46, true)] [(47, .cv (.lit (.bool a6)))] [0] [] (cs := [a1_1 = true, (!a2_1) = true, (decide ((IntKind.i64.wrap ((IntKind.i64.wrap (a1_2 + a2_2)) + a4_1)) = 0)) = true, (decide (a3_2 = 25)) = true, (decide (a1_0.Epoch = 3)) = true, (decide (a1_0.Vote = 1)) = true, (decide (a4_0.Epoch = 4)) = true, (decide (a4_0.Vote = 4)) = true, (!a5_1) = true, (decide (a5_0.Epoch = 3)) = true, PCall V P 30 [.cv (.lit (.int .i64 1)), .cv (.lit (.int .i64 3)), .cv (.lit (.int .i64 9)), .cv (.lit (.int .i64 2))] (.cv (.lit (.bool a6))), True]) (S' := ⟨[(0, .cv (.lit (.bool a6)))], []⟩) (by kernel_rfl) (And.intro c1 (And.intro (congrArg Bool.not (eq_false_of_ne_true c2)) (And.intro (decide_eq_true c3) (And.intro (decide_eq_true c4) (And.intro (decide_eq_true c5) (And.intro (decide_eq_true c6) (And.intro (decide_eq_true c7) (And.intro (decide_eq_true c8) (And.intro (congrArg Bool.not (eq_false_of_ne_true c9)) (And.intro (decide_eq_true c10) (And.intro (ballot_Newer.ok h6) trivial))))))))))) ?_
                      refine awp_ret ?_
                      have hr := Option.some.inj h
                      subst hr
                      exact ⟨.inr rfl, .cv (.lit (.bool a6)), by kernel_rfl, by kernel_rfl, trivial, by kernel_rfl⟩
                    · refine awp_region L 65 [(1, true), (5, true), (13, true), (17, true), (22, true), (27, true), (32, true), (37, true), (41, true), (46, false)] [] [0] [] (cs := [a1_1 = true, (!a2_1) = true, (decide ((IntKind.i64.wrap ((IntKind.i64.wrap (a1_2 + a2_2)) + a4_1)) = 0)) = true, (decide (a3_2 = 25)) = true, (decide (a1_0.Epoch = 3)) = true, (decide (a1_0.Vote = 1)) = true, (decide (a4_0.Epoch = 4)) = true, (decide (a4_0.Vote = 4)) = true, (!a5_1) = true, (decide (a5_0.Epoch = 3)) = false]) (S' := ⟨[(0, .cv (.lit (.bool false)))], []⟩) (by kernel_rfl) (And.intro c1 (And.intro (congrArg Bool.not (eq_false_of_ne_true c2)) (And.intro (decide_eq_true c3) (And.intro (decide_eq_true c4) (And.intro (decide_eq_true c5) (And.intro (decide_eq_true c6) (And.intro (decide_eq_true c7) (And.intro (decide_eq_true c8) (And.intro (congrArg Bool.not (eq_false_of_ne_true c9)) (decide_eq_false c10)))))))))) ?_
                      refine awp_ret ?_
                      have hr := Option.some.inj h
                      subst hr
                      exact ⟨.inr rfl, .cv (.lit (.bool false)), by kernel_rfl, by kernel_rfl, trivial, by kernel_rfl⟩
                · refine awp_region L 65 [(1, true), (5, true), (13, true), (17, true), (22, true), (27, true), (32, true), (37, false)] [] [0] [] (cs := [a1_1 = true, (!a2_1) = true, (decide ((IntKind.i64.wrap ((IntKind.i64.wrap (a1_2 + a2_2)) + a4_1)) = 0)) = true, (decide (a3_2 = 25)) = true, (decide (a1_0.Epoch = 3)) = true, (decide (a1_0.Vote = 1)) = true, (decide (a4_0.Epoch = 4)) = true, (decide (a4_0.Vote = 4)) = false]) (S' := ⟨[(0, .cv (.lit (.bool false)))], []⟩) (by kernel_rfl) (And.intro c1 (And.intro (congrArg Bool.not (eq_false_of_ne_true c2)) (And.intro (decide_eq_true c3) (And.intro (decide_eq_true c4) (And.intro (decide_eq_true c5) (And.intro (decide_eq_true c6) (And.intro (decide_eq_true c7) (decide_eq_false c8)))))))) ?_
                  refine awp_ret ?_
                  have hr := Option.some.inj h
                  subst hr
                  exact ⟨.inr rfl, .cv (.lit (.bool false)), by kernel_rfl, by kernel_rfl, trivial, by kernel_rfl⟩
              · refine awp_region L 65 [(1, true), (5, true), (13, true), (17, true), (22, true), (27, true), (32, false)] [] [0] [] (cs := [a1_1 = true, (!a2_1) = true, (decide ((IntKind.i64.wrap ((IntKind.i64.wrap (a1_2 + a2_2)) + a4_1)) = 0)) = true, (decide (a3_2 = 25)) = true, (decide (a1_0.Epoch = 3)) = true, (decide (a1_0.Vote = 1)) = true, (decide (a4_0.Epoch = 4)) = false]) (S' := ⟨[(0, .cv (.lit (.bool false)))], []⟩) (by kernel_rfl) (And.intro c1 (And.intro (congrArg Bool.not (eq_false_of_ne_true c2)) (And.intro (decide_eq_true c3) (And.intro (decide_eq_true c4) (And.intro (decide_eq_true c5) (And.intro (decide_eq_true c6) (decide_eq_false c7))))))) ?_
                refine awp_ret ?_
                have hr := Option.some.inj h
                subst hr
                exact ⟨.inr rfl, .cv (.lit (.bool false)), by kernel_rfl, by kernel_rfl, trivial, by kernel_rfl⟩
            · refine awp_region L 65 [(1, true), (5, true), (13, true), (17, true), (22, true), (27, false)] [] [0] [] (cs := [a1_1 = true, (!a2_1) = true, (decide ((IntKind.i64.wrap ((IntKind.i64.wrap (a1_2 + a2_2)) + a4_1)) = 0)) = true, (decide (a3_2 = 25)) = true, (decide (a1_0.Epoch = 3)) = true, (decide (a1_0.Vote = 1)) = false]) (S' := ⟨[(0, .cv (.lit (.bool false)))], []⟩) (by kernel_rfl) (And.intro c1 (And.intro (congrArg Bool.not (eq_false_of_ne_true c2)) (And.intro (decide_eq_true c3) (And.intro (decide_eq_true c4) (And.intro (decide_eq_true c5) (decide_eq_false c6)))))) ?_
              refine awp_ret ?_
              have hr := Option.some.inj h
              subst hr
              exact ⟨.inr rfl, .cv (.lit (.bool false)), by kernel_rfl, by kernel_rfl, trivial, by kernel_rfl⟩
          · refine awp_region L 65 [(1, true), (5, true), (13, true), (17, true), (22, false)] [] [0] [] (cs := [a1_1 = true, (!a2_1) = true, (decide ((IntKind.i64.wrap ((IntKind.i64.wrap (a1_2 + a2_2)) + a4_1)) = 0)) = true, (decide (a3_2 = 25)) = true, (decide (a1_0.Epoch = 3)) = false]) (S' := ⟨[(0, .cv (.lit (.bool false)))], []⟩) (by kernel_rfl) (And.intro c1 (And.intro (congrArg Bool.not (eq_false_of_ne_true c2)) (And.intro (decide_eq_true c3) (And.intro (decide_eq_true c4) (decide_eq_false c5))))) ?_
            refine awp_ret ?_
            have hr := Option.some.inj h
            subst hr
            exact ⟨.inr rfl, .cv (.lit (.bool false)), by kernel_rfl, by kernel_rfl, trivial, by kernel_rfl⟩
        · refine awp_region L 65 [(1, true), (5, true), (13, true), (17, false)] [] [0] [] (cs := [a1_1 = true, (!a2_1) = true, (decide ((IntKind.i64.wrap ((IntKind.i64.wrap (a1_2 + a2_2)) + a4_1)) = 0)) = true, (decide (a3_2 = 25)) = false]) (S' := ⟨[(0, .cv (.lit (.bool false)))], []⟩) (by kernel_rfl) (And.intro c1 (And.intro (congrArg Bool.not (eq_false_of_ne_true c2)) (And.intro (decide_eq_true c3) (decide_eq_false c4)))) ?_
          refine awp_ret ?_
          have hr := Option.some.inj h
          subst hr
          exact ⟨.inr rfl, .cv (.lit (.bool false)), by kernel_rfl, by kernel_rfl, trivial, by kernel_rfl⟩
      · refine awp_region L 65 [(1, true), (5, true), (13, false)] [] [0] [] (cs := [a1_1 = true, (!a2_1) = true, (decide ((IntKind.i64.wrap ((IntKind.i64.wrap (a1_2 + a2_2)) + a4_1)) = 0)) = false]) (S' := ⟨[(0, .cv (.lit (.bool false)))], []⟩) (by kernel_rfl) (And.intro c1 (And.intro (congrArg Bool.not (eq_false_of_ne_true c2)) (decide_eq_false c3))) ?_
        refine awp_ret ?_
        have hr := Option.some.inj h
        subst hr
        exact ⟨.inr rfl, .cv (.lit (.bool false)), by kernel_rfl, by kernel_rfl, trivial, by kernel_rfl⟩
  · refine awp_region L 65 [(1, false)] [] [0] [] (cs := [a1_1 = false]) (S' := ⟨[(0, .cv (.lit (.bool false)))], []⟩) (by kernel_rfl) (eq_false_of_ne_true c1) ?_
    refine awp_ret ?_
    have hr := Option.some.inj h
    subst hr
    exact ⟨.inr rfl, .cv (.lit (.bool false)), by kernel_rfl, by kernel_rfl, trivial, by kernel_rfl⟩

theorem workflowlaw54_works.ok {K : Nat} {r : Bool} (h : workflowlaw54_works K = some r) : PCall V P 32 [] (.cv (.lit (.bool r))) :=
  pcall_of (fn := Try.f32) (n := 99) (by kernel_rfl) (by kernel_rfl) (by kernel_rfl) rfl (by kernel_rfl) (by kernel_rfl) fun Γ => workflowlaw54_works.body h

def workflowlaw54_BallotNewer (K : Nat) (p0 : Int) (p1 : Int) (p2 : Int) (p3 : Int) : Option Bool := (Option.bind (ballot_Newer K p0 p1 p2 p3) (fun a1 => (Option.bind (ballot_Newer K p2 p3 p0 p1) (fun a2 => (Option.bind (workflowref54_Newer K p0 p1 p2 p3) (fun a3 => (if (a1 == a3) = true then (if a1 = true then (if p0 = p2 then (if ((a2 == (decide (p1 = p3)))) = true then (Option.bind (workflowlaw54_works K) (fun a4 => some a4)) else some false) else (if (a2 == false) = true then (Option.bind (workflowlaw54_works K) (fun a5 => some a5)) else some false)) else (if a2 = true then (if p0 = p2 then (if ((false == (decide (p1 = p3)))) = true then (Option.bind (workflowlaw54_works K) (fun a6 => some a6)) else some false) else (Option.bind (workflowlaw54_works K) (fun a7 => some a7))) else some false)) else some false)))))))

theorem workflowlaw54_BallotNewer.body {Γ : Ent} {K : Nat} {p0 : Int} {p1 : Int} {p2 : Int} {p3 : Int} {r : Bool} (h : workflowlaw54_BallotNewer K p0 p1 p2 p3 = some r) : AWp V P 52 0 Γ (Try.f7.body.getD .skip) (Eng.Ends P V Try.f7 (.cv (.lit (.bool r)))) ⟨args0 0 [.cv (.lit (.int .i64 p0)), .cv (.lit (.int .i64 p1)), .cv (.lit (.int .i64 p2)), .cv (.lit (.int .i64 p3))], []⟩ := by
  unfold workflowlaw54_BallotNewer at h
  refine awp_seq ?_
  refine awp_region L 0 [] [] [0, 1, 2, 3] [] (cs := []) (S' := ⟨[(0, .cv (.lit (.int .i64 p0))), (1, .cv (.lit (.int .i64 p1))), (2, .cv (.lit (.int .i64 p2))), (3, .cv (.lit (.int .i64 p3)))], []⟩) (by kernel_rfl) trivial ?_
  refine awp_seq ?_
  obtain ⟨a1, h1, h⟩ := bind_some h
  obtain ⟨a2, h2, h⟩ := bind_some h
  refine awp_region L 2 [] [(4, .cv (.lit (.bool a1))), (9, .cv (.lit (.bool a2)))] [0, 1, 2, 3, 9, 10] [] (cs := [PCall V P 30 [.cv (.lit (.int .i64 p0)), .cv (.lit (.int .i64 p1)), .cv (.lit (.int .i64 p2)), .cv (.lit (.int .i64 p3))] (.cv (.lit (.bool a1))), True, PCall V P 30 [.cv (.lit (.int .i64 p2)), .cv (.lit (.int .i64 p3)), .cv (.lit (.int .i64 p0)), .cv (.lit (.int .i64 p1))] (.cv (.lit (.bool a2))), True]) (S' := ⟨[(0, .cv (.lit (.int .i64 p0))), (1, .cv (.lit (.int .i64 p1))), (2, .cv (.lit (.int .i64 p2))), (3, .cv (.lit (.int .i64 p3))), (9, .cv (.lit (.bool a1))), (10, .cv (.lit (.bool a2)))], []⟩) (by kernel_rfl) (And.intro (ballot_Newer.ok h1) (And.intro trivial (And.intro (ballot_Newer.ok h2) trivial))) ?_
  refine awp_seq ?_
  obtain ⟨a3, h3, h⟩ := bind_some h
  rcases ite_some h with ⟨c1, h⟩ | ⟨c1, h⟩
  · rcases ite_some h with ⟨c2, h⟩ | ⟨c2, h⟩
    · rcases ite_some h with ⟨c3, h⟩ | ⟨c3, h⟩
      · rcases ite_some h with ⟨c4, h⟩ | ⟨c4, h⟩
        · obtain ⟨a4, h4, h⟩ := bind_some h
          refine awp_region L 15 [(7, true), (9, true), (15, true), (21, true), (28, true)] [(5, .cv (.lit (.bool a3))), (29, .cv (.lit (.bool a4)))] [8] [] (cs := [PCall V P 31 [.cv (.lit (.int .i64 p0)), .cv (.lit (.int .i64 p1)), .cv (.lit (.int .i64 p2)), .cv (.lit (.int .i64 p3))] (.cv (.lit (.bool a3))), True, (a1 == a3) = true, a1 = true, a1 = true, (decide (p0 = p2)) = true, (a2 == (decide (p1 = p3))) = true, PCall V P 32 [] (.cv (.lit (.bool a4))), True]) (S' := ⟨[(8, .cv (.lit (.bool a4)))], []⟩) (by kernel_rfl) (And.intro (workflowref54_Newer.ok h3) (And.intro trivial (And.intro c1 (And.intro c2 (And.intro c2 (And.intro (decide_eq_true c3) (And.intro c4 (And.intro (workflowlaw54_works.ok h4) trivial)))))))) ?_
          refine awp_ret ?_
          have hr := Option.some.inj h
          subst hr
          exact ⟨.inr rfl, .cv (.lit (.bool a4)), by kernel_rfl, by kernel_rfl, trivial, by kernel_rfl⟩
        · refine awp_region L 15 [(7, true), (9, true), (15, true), (21, true), (28, false)] [(5, .cv (.lit (.bool a3)))] [8] [] (cs := [PCall V P 31 [.cv (.lit (.int .i64 p0)), .cv (.lit (.int .i64 p1)), .cv (.lit (.int .i64 p2)), .cv (.lit (.int .i64 p3))] (.cv (.lit (.bool a3))), True, (a1 == a3) = true, a1 = true, a1 = true, (decide (p0 = p2)) = true, (a2 == (decide (p1 = p3))) = false]) (S' := ⟨[(8, .cv (.lit (.bool false)))], []⟩) (by kernel_rfl) (And.intro (workflowref54_Newer.ok h3) (And.intro trivial (And.intro c1 (And.intro c2 (And.intro c2 (And.intro (decide_eq_true c3) (eq_false_of_ne_true c4))))))) ?_
          refine awp_ret ?_
          have hr := Option.some.inj h
          subst hr
          exact ⟨.inr rfl, .cv (.lit (.bool false)), by kernel_rfl, by kernel_rfl, trivial, by kernel_rfl⟩
      · rcases ite_some h with ⟨c5, h⟩ | ⟨c5, h⟩
        · obtain ⟨a5, h5, h⟩ := bind_some h
          refine awp_region L 15 [(7, true), (9, true), (15, true), (21, false), (28, true)] [(5, .cv (.lit (.bool a3))), (29, .cv (.lit (.bool a5)))] [8] [] (cs := [PCall V P 31 [.cv (.lit (.int .i64 p0)), .cv (.lit (.int .i64 p1)), .cv (.lit (.int .i64 p2)), .cv (.lit (.int .i64 p3))] (.cv (.lit (.bool a3))), True, (a1 == a3) = true, a1 = true, a1 = true, (decide (p0 = p2)) = false, (a2 == false) = true, PCall V P 32 [] (.cv (.lit (.bool a5))), True]) (S' := ⟨[(8, .cv (.lit (.bool a5)))], []⟩) (by kernel_rfl) (And.intro (workflowref54_Newer.ok h3) (And.intro trivial (And.intro c1 (And.intro c2 (And.intro c2 (And.intro (decide_eq_false c3) (And.intro c5 (And.intro (workflowlaw54_works.ok h5) trivial)))))))) ?_
          refine awp_ret ?_
          have hr := Option.some.inj h
          subst hr
          exact ⟨.inr rfl, .cv (.lit (.bool a5)), by kernel_rfl, by kernel_rfl, trivial, by kernel_rfl⟩
        · refine awp_region L 15 [(7, true), (9, true), (15, true), (21, false), (28, false)] [(5, .cv (.lit (.bool a3)))] [8] [] (cs := [PCall V P 31 [.cv (.lit (.int .i64 p0)), .cv (.lit (.int .i64 p1)), .cv (.lit (.int .i64 p2)), .cv (.lit (.int .i64 p3))] (.cv (.lit (.bool a3))), True, (a1 == a3) = true, a1 = true, a1 = true, (decide (p0 = p2)) = false, (a2 == false) = false]) (S' := ⟨[(8, .cv (.lit (.bool false)))], []⟩) (by kernel_rfl) (And.intro (workflowref54_Newer.ok h3) (And.intro trivial (And.intro c1 (And.intro c2 (And.intro c2 (And.intro (decide_eq_false c3) (eq_false_of_ne_true c5))))))) ?_
          refine awp_ret ?_
          have hr := Option.some.inj h
          subst hr
          exact ⟨.inr rfl, .cv (.lit (.bool false)), by kernel_rfl, by kernel_rfl, trivial, by kernel_rfl⟩
    · rcases ite_some h with ⟨c6, h⟩ | ⟨c6, h⟩
      · rcases ite_some h with ⟨c7, h⟩ | ⟨c7, h⟩
        · rcases ite_some h with ⟨c8, h⟩ | ⟨c8, h⟩
          · obtain ⟨a6, h6, h⟩ := bind_some h
            refine awp_region L 15 [(7, true), (9, false), (13, true), (15, false), (21, true), (28, true)] [(5, .cv (.lit (.bool a3))), (29, .cv (.lit (.bool a6)))] [8] [] (cs := [PCall V P 31 [.cv (.lit (.int .i64 p0)), .cv (.lit (.int .i64 p1)), .cv (.lit (.int .i64 p2)), .cv (.lit (.int .i64 p3))] (.cv (.lit (.bool a3))), True, (a1 == a3) = true, a1 = false, a2 = true, a1 = false, (decide (p0 = p2)) = true, (false == (decide (p1 = p3))) = true, PCall V P 32 [] (.cv (.lit (.bool a6))), True]) (S' := ⟨[(8, .cv (.lit (.bool a6)))], []⟩) (by kernel_rfl) (And.intro (workflowref54_Newer.ok h3) (And.intro trivial (And.intro c1 (And.intro (eq_false_of_ne_true c2) (And.intro c6 (And.intro (eq_false_of_ne_true c2) (And.intro (decide_eq_true c7) (And.intro c8 (And.intro (workflowlaw54_works.ok h6) trivial))))))))) ?_
            refine awp_ret ?_
            have hr := Option.some.inj h
            subst hr
            exact ⟨.inr rfl, .cv (.lit (.bool a6)), by kernel_rfl, by kernel_rfl, trivial, by kernel_rfl⟩
          · refine awp_region L 15 [(7, true), (9, false), (13, true), (15, false), (21, true), (28, false)] [(5, .cv (.lit (.bool a3)))] [8] [] (cs := [PCall V P 31 [.cv (.lit (.int .i64 p0)), .cv (.lit (.int .i64 p1)), .cv (.lit (.int .i64 p2)), .cv (.lit (.int .i64 p3))] (.cv (.lit (.bool a3))), True, (a1 == a3) = true, a1 = false, a2 = true, a1 = false, (decide (p0 = p2)) = true, (false == (decide (p1 = p3))) = false]) (S' := ⟨[(8, .cv (.lit (.bool false)))], []⟩) (by kernel_rfl) (And.intro (workflowref54_Newer.ok h3) (And.intro trivial (And.intro c1 (And.intro (eq_false_of_ne_true c2) (And.intro c6 (And.intro (eq_false_of_ne_true c2) (And.intro (decide_eq_true c7) (eq_false_of_ne_true c8)))))))) ?_
            refine awp_ret ?_
            have hr := Option.some.inj h
            subst hr
            exact ⟨.inr rfl, .cv (.lit (.bool false)), by kernel_rfl, by kernel_rfl, trivial, by kernel_rfl⟩
        · obtain ⟨a7, h7, h⟩ := bind_some h
          refine awp_region L 15 [(7, true), (9, false), (13, true), (15, false), (21, false)] [(5, .cv (.lit (.bool a3))), (29, .cv (.lit (.bool a7)))] [8] [] (cs := [PCall V P 31 [.cv (.lit (.int .i64 p0)), .cv (.lit (.int .i64 p1)), .cv (.lit (.int .i64 p2)), .cv (.lit (.int .i64 p3))] (.cv (.lit (.bool a3))), True, (a1 == a3) = true, a1 = false, a2 = true, a1 = false, (decide (p0 = p2)) = false, PCall V P 32 [] (.cv (.lit (.bool a7))), True]) (S' := ⟨[(8, .cv (.lit (.bool a7)))], []⟩) (by kernel_rfl) (And.intro (workflowref54_Newer.ok h3) (And.intro trivial (And.intro c1 (And.intro (eq_false_of_ne_true c2) (And.intro c6 (And.intro (eq_false_of_ne_true c2) (And.intro (decide_eq_false c7) (And.intro (workflowlaw54_works.ok h7) trivial)))))))) ?_
          refine awp_ret ?_
          have hr := Option.some.inj h
          subst hr
          exact ⟨.inr rfl, .cv (.lit (.bool a7)), by kernel_rfl, by kernel_rfl, trivial, by kernel_rfl⟩
      · refine awp_region L 15 [(7, true), (9, false), (13, false)] [(5, .cv (.lit (.bool a3)))] [8] [] (cs := [PCall V P 31 [.cv (.lit (.int .i64 p0)), .cv (.lit (.int .i64 p1)), .cv (.lit (.int .i64 p2)), .cv (.lit (.int .i64 p3))] (.cv (.lit (.bool a3))), True, (a1 == a3) = true, a1 = false, a2 = false]) (S' := ⟨[(8, .cv (.lit (.bool false)))], []⟩) (by kernel_rfl) (And.intro (workflowref54_Newer.ok h3) (And.intro trivial (And.intro c1 (And.intro (eq_false_of_ne_true c2) (eq_false_of_ne_true c6))))) ?_
        refine awp_ret ?_
        have hr := Option.some.inj h
        subst hr
        exact ⟨.inr rfl, .cv (.lit (.bool false)), by kernel_rfl, by kernel_rfl, trivial, by kernel_rfl⟩
  · refine awp_region L 15 [(7, false)] [(5, .cv (.lit (.bool a3)))] [8] [] (cs := [PCall V P 31 [.cv (.lit (.int .i64 p0)), .cv (.lit (.int .i64 p1)), .cv (.lit (.int .i64 p2)), .cv (.lit (.int .i64 p3))] (.cv (.lit (.bool a3))), True, (a1 == a3) = false]) (S' := ⟨[(8, .cv (.lit (.bool false)))], []⟩) (by kernel_rfl) (And.intro (workflowref54_Newer.ok h3) (And.intro trivial (eq_false_of_ne_true c1))) ?_
    refine awp_ret ?_
    have hr := Option.some.inj h
    subst hr
    exact ⟨.inr rfl, .cv (.lit (.bool false)), by kernel_rfl, by kernel_rfl, trivial, by kernel_rfl⟩

theorem workflowlaw54_BallotNewer.ok {K : Nat} {p0 : Int} {p1 : Int} {p2 : Int} {p3 : Int} {r : Bool} (h : workflowlaw54_BallotNewer K p0 p1 p2 p3 = some r) : PCall V P 7 [.cv (.lit (.int .i64 p0)), .cv (.lit (.int .i64 p1)), .cv (.lit (.int .i64 p2)), .cv (.lit (.int .i64 p3))] (.cv (.lit (.bool r))) :=
  pcall_of (fn := Try.f7) (n := 52) (by kernel_rfl) (by kernel_rfl) (by kernel_rfl) rfl (by kernel_rfl) (by kernel_rfl) fun Γ => workflowlaw54_BallotNewer.body h

def workflowlaw54_large.l15 (K : Nat) (p0 : api_Replica) : Nat → Int → Option (Out Bool Unit)
  | 0, _ => none
  | k + 1, xt12_15h => (if xt12_15h < (p0.Log.length : Int) then (if (0 : Int) ≤ xt12_15h ∧ (xt12_15h : Int) < (p0.Log.length : Int) then (if ((((p0.Log.getD (Int.toNat xt12_15h) (⟨(0 : Int), ([] : List UInt8)⟩ : api_Entry))).Data).length : Int) > 200 then some (Out.done true) else workflowlaw54_large.l15 K p0 k ((IntKind.i64.wrap (xt12_15h + 1)))) else none) else some (Out.go ()))

def workflowlaw54_large (K : Nat) (p0 : api_Replica) : Option Bool := (if (p0.Log.length : Int) > 60 then some true else (obind (workflowlaw54_large.l15 K p0 K 0 : Option (Out Bool Unit)) (fun r => r) (fun _ => some false)))

theorem workflowlaw54_large.body {Γ : Ent} {K : Nat} {p0 : api_Replica} {r : Bool} (h : workflowlaw54_large K p0 = some r) : AWp V P 21 0 Γ (Try.f33.body.getD .skip) (Eng.Ends P V Try.f33 (.cv (.lit (.bool r)))) ⟨args0 0 [.agg [.lit (.int .i64 p0.Epoch), .lit (.int .i64 p0.Vote), .lit (.int .i64 p0.Commit), .ro Tag.t_api_Entry p0.Log]], []⟩ := by
  unfold workflowlaw54_large at h
  refine awp_seq ?_
  refine awp_region L 0 [] [] [1] [0] (cs := []) (S' := ⟨[(1, .cv (.ptr 0 0))], [(0, .raw [.lit (.int .i64 p0.Epoch), .lit (.int .i64 p0.Vote), .lit (.int .i64 p0.Commit), .ro Tag.t_api_Entry p0.Log])]⟩) (by kernel_rfl) trivial ?_
  refine awp_seq ?_
  refine awp_seq ?_
  refine awp_region L 3 [] [] [1, 8] [0] (cs := []) (S' := ⟨[(1, .cv (.ptr 0 0)), (8, .cv (.lit (.bool ((decide ((p0.Log.length : Int) > 60))))))], [(0, .raw [.lit (.int .i64 p0.Epoch), .lit (.int .i64 p0.Vote), .lit (.int .i64 p0.Commit), .ro Tag.t_api_Entry p0.Log])]⟩) (by kernel_rfl) trivial ?_
  rcases ite_some h with ⟨c1, h⟩ | ⟨c1, h⟩
  · refine awp_true (b := (decide ((p0.Log.length : Int) > 60))) (by kernel_rfl) (decide_eq_true c1) ?_
    refine awp_seq ?_
    refine awp_region L 8 [] [] [2] [] (cs := []) (S' := ⟨[(2, .cv (.lit (.bool true)))], []⟩) (by kernel_rfl) trivial ?_
    refine awp_ret ?_
    have hr := Option.some.inj h
    subst hr
    exact ⟨.inr rfl, .cv (.lit (.bool true)), by kernel_rfl, by kernel_rfl, trivial, by kernel_rfl⟩
  · refine awp_false (b := (decide ((p0.Log.length : Int) > 60))) (by kernel_rfl) (decide_eq_false c1) ?_
    refine awp_skip [1] [0] (S' := ⟨[(1, .cv (.ptr 0 0))], [(0, .raw [.lit (.int .i64 p0.Epoch), .lit (.int .i64 p0.Vote), .lit (.int .i64 p0.Commit), .ro Tag.t_api_Entry p0.Log])]⟩) (by kernel_rfl) ?_
    refine awp_seq ?_
    refine awp_seq ?_
    refine awp_region L 10 [] [] [10, 11, 12] [] (cs := []) (S' := ⟨[(10, .cv (.ro Tag.t_api_Entry p0.Log)), (11, .cv (.lit (.int .i64 (p0.Log.length : Int)))), (12, .cv (.lit (.int .i64 0)))], []⟩) (by kernel_rfl) trivial ?_
    refine awp_block ?_
    refine awp_keep (ts := [10, 11, 12]) (ids := []) (S' := ⟨[(10, .cv (.ro Tag.t_api_Entry p0.Log)), (11, .cv (.lit (.int .i64 (p0.Log.length : Int)))), (12, .cv (.lit (.int .i64 0)))], []⟩) (by kernel_rfl) ?_
    obtain ⟨o1, hp1, h⟩ := obind_some h
    refine awp_mono (Q' := fun e S => (e = .exit 0 ∧ S = ⟨[], []⟩ ∧ Out.go () = o1) ∨ (e = .ret ∧ ∃ a, Out.done a = o1 ∧ Eng.Ends P V Try.f33 (.cv (.lit (.bool a))) .ret S)) (awp_loop (fun k S => ∃ xt12_15h : Int, S = ⟨[(10, .cv (.ro Tag.t_api_Entry p0.Log)), (11, .cv (.lit (.int .i64 (p0.Log.length : Int)))), (12, .cv (.lit (.int .i64 xt12_15h)))], []⟩ ∧ workflowlaw54_large.l15 K p0 k xt12_15h = some o1) ?_ ⟨_, rfl, hp1⟩) ?_
    · clear h hp1
      intro k S hS
      obtain ⟨xt12_15h, rfl, h⟩ := hS
      cases k with
      | zero => cases h
      | succ k =>
      unfold workflowlaw54_large.l15 at h
      refine awp_seq ?_
      refine awp_region L 15 [] [] [10, 11, 12, 13] [] (cs := []) (S' := ⟨[(10, .cv (.ro Tag.t_api_Entry p0.Log)), (11, .cv (.lit (.int .i64 (p0.Log.length : Int)))), (12, .cv (.lit (.int .i64 xt12_15h))), (13, .cv (.lit (.bool ((decide (xt12_15h < (p0.Log.length : Int)))))))], []⟩) (by kernel_rfl) trivial ?_
      refine awp_seq ?_
      rcases ite_some h with ⟨c2, h⟩ | ⟨c2, h⟩
      · refine awp_true (b := (decide (xt12_15h < (p0.Log.length : Int)))) (by kernel_rfl) (decide_eq_true c2) ?_
        refine awp_skip [10, 11, 12] [] (S' := ⟨[(10, .cv (.ro Tag.t_api_Entry p0.Log)), (11, .cv (.lit (.int .i64 (p0.Log.length : Int)))), (12, .cv (.lit (.int .i64 xt12_15h)))], []⟩) (by kernel_rfl) ?_
        refine awp_seq ?_
        refine awp_block ?_
        refine awp_seq ?_
        obtain ⟨g1, h⟩ := guard_some h
        refine awp_region L 17 [] [] [4, 10, 11, 12] [19] (cs := [(0 : Int) ≤ xt12_15h, (xt12_15h : Int) < (p0.Log.length : Int)]) (S' := ⟨[(4, .cv (.ptr 19 0)), (10, .cv (.ro Tag.t_api_Entry p0.Log)), (11, .cv (.lit (.int .i64 (p0.Log.length : Int)))), (12, .cv (.lit (.int .i64 xt12_15h)))], [(19, .raw [.lit (.int .i64 (((p0.Log.getD (Int.toNat xt12_15h) (⟨(0 : Int), ([] : List UInt8)⟩ : api_Entry))).Epoch)), .ro Tag.t_uint8 (((p0.Log.getD (Int.toNat xt12_15h) (⟨(0 : Int), ([] : List UInt8)⟩ : api_Entry))).Data)])]⟩) (by kernel_rfl) (And.intro g1.1 g1.2) ?_
        refine awp_seq ?_
        refine awp_region L 22 [] [] [10, 11, 12, 19] [] (cs := []) (S' := ⟨[(10, .cv (.ro Tag.t_api_Entry p0.Log)), (11, .cv (.lit (.int .i64 (p0.Log.length : Int)))), (12, .cv (.lit (.int .i64 xt12_15h))), (19, .cv (.lit (.bool ((decide (((((p0.Log.getD (Int.toNat xt12_15h) (⟨(0 : Int), ([] : List UInt8)⟩ : api_Entry))).Data).length : Int) > 200))))))], []⟩) (by kernel_rfl) trivial ?_
        rcases ite_some h with ⟨c3, h⟩ | ⟨c3, h⟩
        · refine awp_true (b := (decide (((((p0.Log.getD (Int.toNat xt12_15h) (⟨(0 : Int), ([] : List UInt8)⟩ : api_Entry))).Data).length : Int) > 200))) (by kernel_rfl) (decide_eq_true c3) ?_
          refine awp_seq ?_
          refine awp_region L 27 [] [] [2] [] (cs := []) (S' := ⟨[(2, .cv (.lit (.bool true)))], []⟩) (by kernel_rfl) trivial ?_
          refine awp_ret ?_
          have hr := Option.some.inj h
          subst hr
          exact .inr ⟨rfl, _, rfl, ⟨.inr rfl, .cv (.lit (.bool true)), by kernel_rfl, by kernel_rfl, trivial, by kernel_rfl⟩⟩
        · refine awp_false (b := (decide (((((p0.Log.getD (Int.toNat xt12_15h) (⟨(0 : Int), ([] : List UInt8)⟩ : api_Entry))).Data).length : Int) > 200))) (by kernel_rfl) (decide_eq_false c3) ?_
          refine awp_skip [10, 11, 12] [] (S' := ⟨[(10, .cv (.ro Tag.t_api_Entry p0.Log)), (11, .cv (.lit (.int .i64 (p0.Log.length : Int)))), (12, .cv (.lit (.int .i64 xt12_15h)))], []⟩) (by kernel_rfl) ?_
          refine awp_region L 29 [] [] [10, 11, 12] [] (cs := []) (S' := ⟨[(10, .cv (.ro Tag.t_api_Entry p0.Log)), (11, .cv (.lit (.int .i64 (p0.Log.length : Int)))), (12, .cv (.lit (.int .i64 ((IntKind.i64.wrap (xt12_15h + 1))))))], []⟩) (by kernel_rfl) trivial ?_
          exact ⟨k, Nat.lt_succ_self k, _, rfl, h⟩
      · refine awp_false (b := (decide (xt12_15h < (p0.Log.length : Int)))) (by kernel_rfl) (decide_eq_false c2) ?_
        refine awp_exit [] [] (S' := ⟨[], []⟩) (by kernel_rfl) ?_
        have hr := Option.some.inj h
        subst hr
        exact .inl ⟨rfl, rfl, rfl⟩
    · rintro e S (⟨rfl, rfl, rfl⟩ | ⟨rfl, a, rfl, hr⟩)
      · rcases h with ⟨_, e1, h⟩ | ⟨_, e1, h⟩
        · cases e1
        · have e2 := Out.go.inj e1
          subst e2
          refine awp_seq ?_
          refine awp_region L 32 [] [] [2] [] (cs := []) (S' := ⟨[(2, .cv (.lit (.bool false)))], []⟩) (by kernel_rfl) trivial ?_
          refine awp_ret ?_
          have hr := Option.some.inj h
          subst hr
          exact ⟨.inr rfl, .cv (.lit (.bool false)), by kernel_rfl, by kernel_rfl, trivial, by kernel_rfl⟩
      · rcases h with ⟨_, e1, h⟩ | ⟨_, e1, h⟩
        · have e2 := Out.done.inj e1
          subst e2
          subst h
          exact hr
        · cases e1

theorem workflowlaw54_large.ok {K : Nat} {p0 : api_Replica} {r : Bool} (h : workflowlaw54_large K p0 = some r) : PCall V P 33 [.agg [.lit (.int .i64 p0.Epoch), .lit (.int .i64 p0.Vote), .lit (.int .i64 p0.Commit), .ro Tag.t_api_Entry p0.Log]] (.cv (.lit (.bool r))) :=
  pcall_of (fn := Try.f33) (n := 21) (by kernel_rfl) (by kernel_rfl) (by kernel_rfl) rfl (by kernel_rfl) (by kernel_rfl) fun Γ => workflowlaw54_large.body h

def workflowref52_in (K : Nat) (p0 : Int) (p1 : Int) (p2 : Int) : Option Bool := (if p0 ≥ p1 then some ((decide (p0 ≤ p2))) else some false)

theorem workflowref52_in.body {Γ : Ent} {K : Nat} {p0 : Int} {p1 : Int} {p2 : Int} {r : Bool} (h : workflowref52_in K p0 p1 p2 = some r) : AWp V P 15 0 Γ (Try.f43.body.getD .skip) (Eng.Ends P V Try.f43 (.cv (.lit (.bool r)))) ⟨args0 0 [.cv (.lit (.int .i64 p0)), .cv (.lit (.int .i64 p1)), .cv (.lit (.int .i64 p2))], []⟩ := by
  unfold workflowref52_in at h
  refine awp_seq ?_
  refine awp_region L 0 [] [] [0, 1, 2] [] (cs := []) (S' := ⟨[(0, .cv (.lit (.int .i64 p0))), (1, .cv (.lit (.int .i64 p1))), (2, .cv (.lit (.int .i64 p2)))], []⟩) (by kernel_rfl) trivial ?_
  refine awp_seq ?_
  rcases ite_some h with ⟨c1, h⟩ | ⟨c1, h⟩
  · refine awp_region L 2 [(3, true)] [] [6] [] (cs := [(decide (p0 ≥ p1)) = true]) (S' := ⟨[(6, .cv (.lit (.bool ((decide (p0 ≤ p2))))))], []⟩) (by kernel_rfl) (decide_eq_true c1) ?_
    refine awp_ret ?_
    have hr := Option.some.inj h
    subst hr
    exact ⟨.inr rfl, .cv (.lit (.bool ((decide (p0 ≤ p2))))), by kernel_rfl, by kernel_rfl, trivial, by kernel_rfl⟩
  · refine awp_region L 2 [(3, false)] [] [6] [] (cs := [(decide (p0 ≥ p1)) = false]) (S' := ⟨[(6, .cv (.lit (.bool false)))], []⟩) (by kernel_rfl) (decide_eq_false c1) ?_
    refine awp_ret ?_
    have hr := Option.some.inj h
    subst hr
    exact ⟨.inr rfl, .cv (.lit (.bool false)), by kernel_rfl, by kernel_rfl, trivial, by kernel_rfl⟩

theorem workflowref52_in.ok {K : Nat} {p0 : Int} {p1 : Int} {p2 : Int} {r : Bool} (h : workflowref52_in K p0 p1 p2 = some r) : PCall V P 43 [.cv (.lit (.int .i64 p0)), .cv (.lit (.int .i64 p1)), .cv (.lit (.int .i64 p2))] (.cv (.lit (.bool r))) :=
  pcall_of (fn := Try.f43) (n := 15) (by kernel_rfl) (by kernel_rfl) (by kernel_rfl) rfl (by kernel_rfl) (by kernel_rfl) fun Γ => workflowref52_in.body h

def workflowref52_Right.l17 (K : Nat) (p0 : api_Replica) : Nat → Int → Int → Option (Out Bool Unit)
  | 0, _, _ => none
  | k + 1, xt3_17h, xt4_17h => (if xt4_17h < (p0.Log.length : Int) then (if (0 : Int) ≤ xt4_17h ∧ (xt4_17h : Int) < (p0.Log.length : Int) then (Option.bind (workflowref52_in K (((p0.Log.getD (Int.toNat xt4_17h) (⟨(0 : Int), ([] : List UInt8)⟩ : api_Entry))).Epoch) xt3_17h p0.Epoch) (fun a4 => (if a4 = true then (if ((((p0.Log.getD (Int.toNat xt4_17h) (⟨(0 : Int), ([] : List UInt8)⟩ : api_Entry))).Data).length : Int) > 65536 then some (Out.done false) else workflowref52_Right.l17 K p0 k (((p0.Log.getD (Int.toNat xt4_17h) (⟨(0 : Int), ([] : List UInt8)⟩ : api_Entry))).Epoch) ((IntKind.i64.wrap (xt4_17h + 1)))) else some (Out.done false)))) else none) else some (Out.go ()))

def workflowref52_Right (K : Nat) (p0 : api_Replica) : Option Bool := (Option.bind (workflowref52_in K p0.Epoch 0 1099511627776) (fun a1 => (if a1 = true then (Option.bind (workflowref52_in K p0.Vote (-1) 8) (fun a2 => (if a2 = true then (if (p0.Log.length : Int) > 5000 then some false else (Option.bind (workflowref52_in K p0.Commit 0 (p0.Log.length : Int)) (fun a3 => (if a3 = true then (obind (workflowref52_Right.l17 K p0 K 1 0 : Option (Out Bool Unit)) (fun r => r) (fun _ => some true)) else some false)))) else some false))) else some false)))

theorem workflowref52_Right.body {Γ : Ent} {K : Nat} {p0 : api_Replica} {r : Bool} (h : workflowref52_Right K p0 = some r) : AWp V P 64 0 Γ (Try.f17.body.getD .skip) (Eng.Ends P V Try.f17 (.cv (.lit (.bool r)))) ⟨args0 0 [.agg [.lit (.int .i64 p0.Epoch), .lit (.int .i64 p0.Vote), .lit (.int .i64 p0.Commit), .ro Tag.t_api_Entry p0.Log]], []⟩ := by
  unfold workflowref52_Right at h
  refine awp_seq ?_
  refine awp_region L 0 [] [] [1] [0] (cs := []) (S' := ⟨[(1, .cv (.ptr 0 0))], [(0, .raw [.lit (.int .i64 p0.Epoch), .lit (.int .i64 p0.Vote), .lit (.int .i64 p0.Commit), .ro Tag.t_api_Entry p0.Log])]⟩) (by kernel_rfl) trivial ?_
  refine awp_seq ?_
  refine awp_seq ?_
  obtain ⟨a1, h1, h⟩ := bind_some h
  rcases ite_some h with ⟨c1, h⟩ | ⟨c1, h⟩
  · obtain ⟨a2, h2, h⟩ := bind_some h
    rcases ite_some h with ⟨c2, h⟩ | ⟨c2, h⟩
    · rcases ite_some h with ⟨c3, h⟩ | ⟨c3, h⟩
      · refine awp_region L 3 [(4, false), (10, false), (16, true)] [(2, .cv (.lit (.bool a1))), (7, .cv (.lit (.bool a2)))] [1, 29] [0] (cs := [PCall V P 43 [.cv (.lit (.int .i64 p0.Epoch)), .cv (.lit (.int .i64 0)), .cv (.lit (.int .i64 1099511627776))] (.cv (.lit (.bool a1))), True, (!a1) = false, PCall V P 43 [.cv (.lit (.int .i64 p0.Vote)), .cv (.lit (.int .i64 (-1))), .cv (.lit (.int .i64 8))] (.cv (.lit (.bool a2))), True, (!a2) = false, (decide ((p0.Log.length : Int) > 5000)) = true]) (S' := ⟨[(1, .cv (.ptr 0 0)), (29, .cv (.lit (.bool true)))], [(0, .raw [.lit (.int .i64 p0.Epoch), .lit (.int .i64 p0.Vote), .lit (.int .i64 p0.Commit), .ro Tag.t_api_Entry p0.Log])]⟩) (by kernel_rfl) (And.intro (workflowref52_in.ok h1) (And.intro trivial (And.intro (congrArg Bool.not (c1)) (And.intro (workflowref52_in.ok h2) (And.intro trivial (And.intro (congrArg Bool.not (c2)) (decide_eq_true c3))))))) ?_
        refine awp_true (b := true) (by kernel_rfl) (rfl) ?_
        refine awp_seq ?_
        refine awp_region L 29 [] [] [2] [] (cs := []) (S' := ⟨[(2, .cv (.lit (.bool false)))], []⟩) (by kernel_rfl) trivial ?_
        refine awp_ret ?_
        have hr := Option.some.inj h
        subst hr
        exact ⟨.inr rfl, .cv (.lit (.bool false)), by kernel_rfl, by kernel_rfl, trivial, by kernel_rfl⟩
      · obtain ⟨a3, h3, h⟩ := bind_some h
        refine awp_region L 3 [(4, false), (10, false), (16, false)] [(2, .cv (.lit (.bool a1))), (7, .cv (.lit (.bool a2))), (22, .cv (.lit (.bool a3)))] [1, 29] [0] (cs := [PCall V P 43 [.cv (.lit (.int .i64 p0.Epoch)), .cv (.lit (.int .i64 0)), .cv (.lit (.int .i64 1099511627776))] (.cv (.lit (.bool a1))), True, (!a1) = false, PCall V P 43 [.cv (.lit (.int .i64 p0.Vote)), .cv (.lit (.int .i64 (-1))), .cv (.lit (.int .i64 8))] (.cv (.lit (.bool a2))), True, (!a2) = false, (decide ((p0.Log.length : Int) > 5000)) = false, PCall V P 43 [.cv (.lit (.int .i64 p0.Commit)), .cv (.lit (.int .i64 0)), .cv (.lit (.int .i64 (p0.Log.length : Int)))] (.cv (.lit (.bool a3))), True]) (S' := ⟨[(1, .cv (.ptr 0 0)), (29, .cv (.lit (.bool (!a3))))], [(0, .raw [.lit (.int .i64 p0.Epoch), .lit (.int .i64 p0.Vote), .lit (.int .i64 p0.Commit), .ro Tag.t_api_Entry p0.Log])]⟩) (by kernel_rfl) (And.intro (workflowref52_in.ok h1) (And.intro trivial (And.intro (congrArg Bool.not (c1)) (And.intro (workflowref52_in.ok h2) (And.intro trivial (And.intro (congrArg Bool.not (c2)) (And.intro (decide_eq_false c3) (And.intro (workflowref52_in.ok h3) trivial)))))))) ?_
        rcases ite_some h with ⟨c4, h⟩ | ⟨c4, h⟩
        · refine awp_false (b := (!a3)) (by kernel_rfl) (congrArg Bool.not (c4)) ?_
          refine awp_skip [1] [0] (S' := ⟨[(1, .cv (.ptr 0 0))], [(0, .raw [.lit (.int .i64 p0.Epoch), .lit (.int .i64 p0.Vote), .lit (.int .i64 p0.Commit), .ro Tag.t_api_Entry p0.Log])]⟩) (by kernel_rfl) ?_
          refine awp_seq ?_
          refine awp_region L 31 [] [] [1, 3] [0] (cs := []) (S' := ⟨[(1, .cv (.ptr 0 0)), (3, .cv (.lit (.int .i64 1)))], [(0, .raw [.lit (.int .i64 p0.Epoch), .lit (.int .i64 p0.Vote), .lit (.int .i64 p0.Commit), .ro Tag.t_api_Entry p0.Log])]⟩) (by kernel_rfl) trivial ?_
          refine awp_seq ?_
          refine awp_seq ?_
          refine awp_region L 33 [] [] [1, 3, 4] [0] (cs := []) (S' := ⟨[(1, .cv (.ptr 0 0)), (3, .cv (.lit (.int .i64 1))), (4, .cv (.lit (.int .i64 0)))], [(0, .raw [.lit (.int .i64 p0.Epoch), .lit (.int .i64 p0.Vote), .lit (.int .i64 p0.Commit), .ro Tag.t_api_Entry p0.Log])]⟩) (by kernel_rfl) trivial ?_
          refine awp_block ?_
          refine awp_keep (ts := [1, 3, 4]) (ids := [0]) (S' := ⟨[(1, .cv (.ptr 0 0)), (3, .cv (.lit (.int .i64 1))), (4, .cv (.lit (.int .i64 0)))], [(0, .raw [.lit (.int .i64 p0.Epoch), .lit (.int .i64 p0.Vote), .lit (.int .i64 p0.Commit), .ro Tag.t_api_Entry p0.Log])]⟩) (by kernel_rfl) ?_
          obtain ⟨o1, hp1, h⟩ := obind_some h
          refine awp_mono (Q' := fun e S => (e = .exit 0 ∧ S = ⟨[], []⟩ ∧ Out.go () = o1) ∨ (e = .ret ∧ ∃ a, Out.done a = o1 ∧ Eng.Ends P V Try.f17 (.cv (.lit (.bool a))) .ret S)) (awp_loop (fun k S => ∃ xt3_17h : Int, ∃ xt4_17h : Int, S = ⟨[(1, .cv (.ptr 0 0)), (3, .cv (.lit (.int .i64 xt3_17h))), (4, .cv (.lit (.int .i64 xt4_17h)))], [(0, .raw [.lit (.int .i64 p0.Epoch), .lit (.int .i64 p0.Vote), .lit (.int .i64 p0.Commit), .ro Tag.t_api_Entry p0.Log])]⟩ ∧ workflowref52_Right.l17 K p0 k xt3_17h xt4_17h = some o1) ?_ ⟨_, _, rfl, hp1⟩) ?_
          · clear h hp1
            intro k S hS
            obtain ⟨xt3_17h, xt4_17h, rfl, h⟩ := hS
            cases k with
            | zero => cases h
            | succ k =>
            unfold workflowref52_Right.l17 at h
            refine awp_seq ?_
            refine awp_seq ?_
            refine awp_region L 35 [] [] [1, 3, 4, 34] [0] (cs := []) (S' := ⟨[(1, .cv (.ptr 0 0)), (3, .cv (.lit (.int .i64 xt3_17h))), (4, .cv (.lit (.int .i64 xt4_17h))), (34, .cv (.lit (.bool ((decide (xt4_17h < (p0.Log.length : Int)))))))], [(0, .raw [.lit (.int .i64 p0.Epoch), .lit (.int .i64 p0.Vote), .lit (.int .i64 p0.Commit), .ro Tag.t_api_Entry p0.Log])]⟩) (by kernel_rfl) trivial ?_
            rcases ite_some h with ⟨c5, h⟩ | ⟨c5, h⟩
            · refine awp_true (b := (decide (xt4_17h < (p0.Log.length : Int)))) (by kernel_rfl) (decide_eq_true c5) ?_
              refine awp_skip [1, 3, 4] [0] (S' := ⟨[(1, .cv (.ptr 0 0)), (3, .cv (.lit (.int .i64 xt3_17h))), (4, .cv (.lit (.int .i64 xt4_17h)))], [(0, .raw [.lit (.int .i64 p0.Epoch), .lit (.int .i64 p0.Vote), .lit (.int .i64 p0.Commit), .ro Tag.t_api_Entry p0.Log])]⟩) (by kernel_rfl) ?_
              refine awp_seq ?_
              refine awp_block ?_
              refine awp_seq ?_
              refine awp_seq ?_
              obtain ⟨g1, h⟩ := guard_some h
              obtain ⟨a4, h4, h⟩ := bind_some h
              rcases ite_some h with ⟨c6, h⟩ | ⟨c6, h⟩
              · refine awp_draw L mixed 41 [(11, false)] [(9, .cv (.lit (.bool a4)))] 21 [1, 4, 57] [0] (cs := [(0 : Int) ≤ xt4_17h, (xt4_17h : Int) < (p0.Log.length : Int), PCall V P 43 [.cv (.lit (.int .i64 (((p0.Log.getD (Int.toNat xt4_17h) (⟨(0 : Int), ([] : List UInt8)⟩ : api_Entry))).Epoch))), .cv (.lit (.int .i64 xt3_17h)), .cv (.lit (.int .i64 p0.Epoch))] (.cv (.lit (.bool a4))), True, (!a4) = false, (0 : Int) ≤ xt4_17h, (xt4_17h : Int) < (p0.Log.length : Int)]) (S' := ⟨[(1, .cv (.ptr 0 0)), (4, .cv (.lit (.int .i64 xt4_17h))), (57, .cv (.lit (.bool ((decide (((((p0.Log.getD (Int.toNat xt4_17h) (⟨(0 : Int), ([] : List UInt8)⟩ : api_Entry))).Data).length : Int) > 65536))))))], [(0, .raw [.lit (.int .i64 p0.Epoch), .lit (.int .i64 p0.Vote), .lit (.int .i64 p0.Commit), .ro Tag.t_api_Entry p0.Log])]⟩) (by kernel_rfl) (And.intro g1.1 (And.intro g1.2 (And.intro (workflowref52_in.ok h4) (And.intro trivial (And.intro (congrArg Bool.not (c6)) (And.intro g1.1 g1.2)))))) ?_
                rcases ite_some h with ⟨c7, h⟩ | ⟨c7, h⟩
                · refine awp_true (b := (decide (((((p0.Log.getD (Int.toNat xt4_17h) (⟨(0 : Int), ([] : List UInt8)⟩ : api_Entry))).Data).length : Int) > 65536))) (by kernel_rfl) (decide_eq_true c7) ?_
                  refine awp_seq ?_
                  refine awp_region L 63 [] [] [2] [] (cs := []) (S' := ⟨[(2, .cv (.lit (.bool false)))], []⟩) (by kernel_rfl) trivial ?_
                  refine awp_ret ?_
                  have hr := Option.some.inj h
                  subst hr
                  exact .inr ⟨rfl, _, rfl, ⟨.inr rfl, .cv (.lit (.bool false)), by kernel_rfl, by kernel_rfl, trivial, by kernel_rfl⟩⟩
                · refine awp_false (b := (decide (((((p0.Log.getD (Int.toNat xt4_17h) (⟨(0 : Int), ([] : List UInt8)⟩ : api_Entry))).Data).length : Int) > 65536))) (by kernel_rfl) (decide_eq_false c7) ?_
                  refine awp_skip [1, 4] [0] (S' := ⟨[(1, .cv (.ptr 0 0)), (4, .cv (.lit (.int .i64 xt4_17h)))], [(0, .raw [.lit (.int .i64 p0.Epoch), .lit (.int .i64 p0.Vote), .lit (.int .i64 p0.Commit), .ro Tag.t_api_Entry p0.Log])]⟩) (by kernel_rfl) ?_
                  refine awp_region L 65 [] [] [1, 3, 4] [0] (cs := [(0 : Int) ≤ xt4_17h, (xt4_17h : Int) < (p0.Log.length : Int)]) (S' := ⟨[(1, .cv (.ptr 0 0)), (3, .cv (.lit (.int .i64 (((p0.Log.getD (Int.toNat xt4_17h) (⟨(0 : Int), ([] : List UInt8)⟩ : api_Entry))).Epoch)))), (4, .cv (.lit (.int .i64 xt4_17h)))], [(0, .raw [.lit (.int .i64 p0.Epoch), .lit (.int .i64 p0.Vote), .lit (.int .i64 p0.Commit), .ro Tag.t_api_Entry p0.Log])]⟩) (by kernel_rfl) (And.intro g1.1 g1.2) ?_
                  refine awp_region L 73 [] [] [1, 3, 4] [0] (cs := []) (S' := ⟨[(1, .cv (.ptr 0 0)), (3, .cv (.lit (.int .i64 (((p0.Log.getD (Int.toNat xt4_17h) (⟨(0 : Int), ([] : List UInt8)⟩ : api_Entry))).Epoch)))), (4, .cv (.lit (.int .i64 ((IntKind.i64.wrap (xt4_17h + 1))))))], [(0, .raw [.lit (.int .i64 p0.Epoch), .lit (.int .i64 p0.Vote), .lit (.int .i64 p0.Commit), .ro Tag.t_api_Entry p0.Log])]⟩) (by kernel_rfl) trivial ?_
                  exact ⟨k, Nat.lt_succ_self k, _, _, rfl, h⟩
              · refine awp_draw L mixed 41 [(11, true)] [(9, .cv (.lit (.bool a4)))] 21 [1, 4, 57] [0] (cs := [(0 : Int) ≤ xt4_17h, (xt4_17h : Int) < (p0.Log.length : Int), PCall V P 43 [.cv (.lit (.int .i64 (((p0.Log.getD (Int.toNat xt4_17h) (⟨(0 : Int), ([] : List UInt8)⟩ : api_Entry))).Epoch))), .cv (.lit (.int .i64 xt3_17h)), .cv (.lit (.int .i64 p0.Epoch))] (.cv (.lit (.bool a4))), True, (!a4) = true]) (S' := ⟨[(1, .cv (.ptr 0 0)), (4, .cv (.lit (.int .i64 xt4_17h))), (57, .cv (.lit (.bool true)))], [(0, .raw [.lit (.int .i64 p0.Epoch), .lit (.int .i64 p0.Vote), .lit (.int .i64 p0.Commit), .ro Tag.t_api_Entry p0.Log])]⟩) (by kernel_rfl) (And.intro g1.1 (And.intro g1.2 (And.intro (workflowref52_in.ok h4) (And.intro trivial (congrArg Bool.not (eq_false_of_ne_true c6)))))) ?_
                refine awp_true (b := true) (by kernel_rfl) (rfl) ?_
                refine awp_seq ?_
                refine awp_region L 63 [] [] [2] [] (cs := []) (S' := ⟨[(2, .cv (.lit (.bool false)))], []⟩) (by kernel_rfl) trivial ?_
                refine awp_ret ?_
                have hr := Option.some.inj h
                subst hr
                exact .inr ⟨rfl, _, rfl, ⟨.inr rfl, .cv (.lit (.bool false)), by kernel_rfl, by kernel_rfl, trivial, by kernel_rfl⟩⟩
            · refine awp_false (b := (decide (xt4_17h < (p0.Log.length : Int)))) (by kernel_rfl) (decide_eq_false c5) ?_
              refine awp_exit [] [] (S' := ⟨[], []⟩) (by kernel_rfl) ?_
              have hr := Option.some.inj h
              subst hr
              exact .inl ⟨rfl, rfl, rfl⟩
          · rintro e S (⟨rfl, rfl, rfl⟩ | ⟨rfl, a, rfl, hr⟩)
            · rcases h with ⟨_, e1, h⟩ | ⟨_, e1, h⟩
              · cases e1
              · have e2 := Out.go.inj e1
                subst e2
                refine awp_seq ?_
                refine awp_region L 77 [] [] [2] [] (cs := []) (S' := ⟨[(2, .cv (.lit (.bool true)))], []⟩) (by kernel_rfl) trivial ?_
                refine awp_ret ?_
                have hr := Option.some.inj h
                subst hr
                exact ⟨.inr rfl, .cv (.lit (.bool true)), by kernel_rfl, by kernel_rfl, trivial, by kernel_rfl⟩
            · rcases h with ⟨_, e1, h⟩ | ⟨_, e1, h⟩
              · have e2 := Out.done.inj e1
                subst e2
                subst h
                exact hr
              · cases e1
        · refine awp_true (b := (!a3)) (by kernel_rfl) (congrArg Bool.not (eq_false_of_ne_true c4)) ?_
          refine awp_seq ?_
          refine awp_region L 29 [] [] [2] [] (cs := []) (S' := ⟨[(2, .cv (.lit (.bool false)))], []⟩) (by kernel_rfl) trivial ?_
          refine awp_ret ?_
          have hr := Option.some.inj h
          subst hr
          exact ⟨.inr rfl, .cv (.lit (.bool false)), by kernel_rfl, by kernel_rfl, trivial, by kernel_rfl⟩
    · refine awp_region L 3 [(4, false), (10, true)] [(2, .cv (.lit (.bool a1))), (7, .cv (.lit (.bool a2)))] [1, 29] [0] (cs := [PCall V P 43 [.cv (.lit (.int .i64 p0.Epoch)), .cv (.lit (.int .i64 0)), .cv (.lit (.int .i64 1099511627776))] (.cv (.lit (.bool a1))), True, (!a1) = false, PCall V P 43 [.cv (.lit (.int .i64 p0.Vote)), .cv (.lit (.int .i64 (-1))), .cv (.lit (.int .i64 8))] (.cv (.lit (.bool a2))), True, (!a2) = true]) (S' := ⟨[(1, .cv (.ptr 0 0)), (29, .cv (.lit (.bool true)))], [(0, .raw [.lit (.int .i64 p0.Epoch), .lit (.int .i64 p0.Vote), .lit (.int .i64 p0.Commit), .ro Tag.t_api_Entry p0.Log])]⟩) (by kernel_rfl) (And.intro (workflowref52_in.ok h1) (And.intro trivial (And.intro (congrArg Bool.not (c1)) (And.intro (workflowref52_in.ok h2) (And.intro trivial (congrArg Bool.not (eq_false_of_ne_true c2))))))) ?_
      refine awp_true (b := true) (by kernel_rfl) (rfl) ?_
      refine awp_seq ?_
      refine awp_region L 29 [] [] [2] [] (cs := []) (S' := ⟨[(2, .cv (.lit (.bool false)))], []⟩) (by kernel_rfl) trivial ?_
      refine awp_ret ?_
      have hr := Option.some.inj h
      subst hr
      exact ⟨.inr rfl, .cv (.lit (.bool false)), by kernel_rfl, by kernel_rfl, trivial, by kernel_rfl⟩
  · refine awp_region L 3 [(4, true)] [(2, .cv (.lit (.bool a1)))] [1, 29] [0] (cs := [PCall V P 43 [.cv (.lit (.int .i64 p0.Epoch)), .cv (.lit (.int .i64 0)), .cv (.lit (.int .i64 1099511627776))] (.cv (.lit (.bool a1))), True, (!a1) = true]) (S' := ⟨[(1, .cv (.ptr 0 0)), (29, .cv (.lit (.bool true)))], [(0, .raw [.lit (.int .i64 p0.Epoch), .lit (.int .i64 p0.Vote), .lit (.int .i64 p0.Commit), .ro Tag.t_api_Entry p0.Log])]⟩) (by kernel_rfl) (And.intro (workflowref52_in.ok h1) (And.intro trivial (congrArg Bool.not (eq_false_of_ne_true c1)))) ?_
    refine awp_true (b := true) (by kernel_rfl) (rfl) ?_
    refine awp_seq ?_
    refine awp_region L 29 [] [] [2] [] (cs := []) (S' := ⟨[(2, .cv (.lit (.bool false)))], []⟩) (by kernel_rfl) trivial ?_
    refine awp_ret ?_
    have hr := Option.some.inj h
    subst hr
    exact ⟨.inr rfl, .cv (.lit (.bool false)), by kernel_rfl, by kernel_rfl, trivial, by kernel_rfl⟩

theorem workflowref52_Right.ok {K : Nat} {p0 : api_Replica} {r : Bool} (h : workflowref52_Right K p0 = some r) : PCall V P 17 [.agg [.lit (.int .i64 p0.Epoch), .lit (.int .i64 p0.Vote), .lit (.int .i64 p0.Commit), .ro Tag.t_api_Entry p0.Log]] (.cv (.lit (.bool r))) :=
  pcall_of (fn := Try.f17) (n := 64) (by kernel_rfl) (by kernel_rfl) (by kernel_rfl) rfl (by kernel_rfl) (by kernel_rfl) fun Γ => workflowref52_Right.body h

def workflowref54_member (K : Nat) (p0 : Int) : Option Bool := (if p0 ≥ 0 then some ((decide (p0 < 9))) else some false)

theorem workflowref54_member.body {Γ : Ent} {K : Nat} {p0 : Int} {r : Bool} (h : workflowref54_member K p0 = some r) : AWp V P 9 0 Γ (Try.f50.body.getD .skip) (Eng.Ends P V Try.f50 (.cv (.lit (.bool r)))) ⟨args0 0 [.cv (.lit (.int .i64 p0))], []⟩ := by
  unfold workflowref54_member at h
  refine awp_seq ?_
  refine awp_region L 0 [] [] [0] [] (cs := []) (S' := ⟨[(0, .cv (.lit (.int .i64 p0)))], []⟩) (by kernel_rfl) trivial ?_
  refine awp_seq ?_
  rcases ite_some h with ⟨c1, h⟩ | ⟨c1, h⟩
  · refine awp_region L 2 [(2, true)] [] [2] [] (cs := [(decide (p0 ≥ 0)) = true]) (S' := ⟨[(2, .cv (.lit (.bool ((decide (p0 < 9))))))], []⟩) (by kernel_rfl) (decide_eq_true c1) ?_
    refine awp_ret ?_
    have hr := Option.some.inj h
    subst hr
    exact ⟨.inr rfl, .cv (.lit (.bool ((decide (p0 < 9))))), by kernel_rfl, by kernel_rfl, trivial, by kernel_rfl⟩
  · refine awp_region L 2 [(2, false)] [] [2] [] (cs := [(decide (p0 ≥ 0)) = false]) (S' := ⟨[(2, .cv (.lit (.bool false)))], []⟩) (by kernel_rfl) (decide_eq_false c1) ?_
    refine awp_ret ?_
    have hr := Option.some.inj h
    subst hr
    exact ⟨.inr rfl, .cv (.lit (.bool false)), by kernel_rfl, by kernel_rfl, trivial, by kernel_rfl⟩

theorem workflowref54_member.ok {K : Nat} {p0 : Int} {r : Bool} (h : workflowref54_member K p0 = some r) : PCall V P 50 [.cv (.lit (.int .i64 p0))] (.cv (.lit (.bool r))) :=
  pcall_of (fn := Try.f50) (n := 9) (by kernel_rfl) (by kernel_rfl) (by kernel_rfl) rfl (by kernel_rfl) (by kernel_rfl) fun Γ => workflowref54_member.body h

def workflowref54_Observe (K : Nat) (p0 : api_Replica) (p1 : Int) : Option api_Replica := (if p1 > p0.Epoch then some ((⟨p1, (-1), p0.Commit, p0.Log⟩ : api_Replica)) else some p0)

theorem workflowref54_Observe.body {Γ : Ent} {K : Nat} {p0 : api_Replica} {p1 : Int} {r : api_Replica} (h : workflowref54_Observe K p0 p1 = some r) : AWp V P 13 0 Γ (Try.f37.body.getD .skip) (Eng.Ends P V Try.f37 (.agg [.lit (.int .i64 r.Epoch), .lit (.int .i64 r.Vote), .lit (.int .i64 r.Commit), .ro Tag.t_api_Entry r.Log])) ⟨args0 0 [.agg [.lit (.int .i64 p0.Epoch), .lit (.int .i64 p0.Vote), .lit (.int .i64 p0.Commit), .ro Tag.t_api_Entry p0.Log], .cv (.lit (.int .i64 p1))], []⟩ := by
  unfold workflowref54_Observe at h
  refine awp_seq ?_
  refine awp_region L 0 [] [] [1, 2, 4] [0, 1] (cs := []) (S' := ⟨[(1, .cv (.lit (.int .i64 p1))), (2, .cv (.ptr 0 0)), (4, .cv (.ptr 1 0))], [(0, .raw [.lit (.int .i64 p0.Epoch), .lit (.int .i64 p0.Vote), .lit (.int .i64 p0.Commit), .ro Tag.t_api_Entry p0.Log]), (1, .raw [.lit (.int .i64 0), .lit (.int .i64 0), .lit (.int .i64 0), .lit (.slice none 0 0)])]⟩) (by kernel_rfl) trivial ?_
  refine awp_seq ?_
  refine awp_seq ?_
  refine awp_region L 3 [] [] [1, 2, 4, 8] [0, 1] (cs := []) (S' := ⟨[(1, .cv (.lit (.int .i64 p1))), (2, .cv (.ptr 0 0)), (4, .cv (.ptr 1 0)), (8, .cv (.lit (.bool ((decide (p1 > p0.Epoch))))))], [(0, .raw [.lit (.int .i64 p0.Epoch), .lit (.int .i64 p0.Vote), .lit (.int .i64 p0.Commit), .ro Tag.t_api_Entry p0.Log]), (1, .raw [.lit (.int .i64 0), .lit (.int .i64 0), .lit (.int .i64 0), .lit (.slice none 0 0)])]⟩) (by kernel_rfl) trivial ?_
  rcases ite_some h with ⟨c1, h⟩ | ⟨c1, h⟩
  · refine awp_true (b := (decide (p1 > p0.Epoch))) (by kernel_rfl) (decide_eq_true c1) ?_
    refine awp_seq ?_
    refine awp_region L 8 [] [] [2, 4] [0, 1] (cs := []) (S' := ⟨[(2, .cv (.ptr 0 0)), (4, .cv (.ptr 1 0))], [(0, .raw [.lit (.int .i64 p1), .lit (.int .i64 p0.Vote), .lit (.int .i64 p0.Commit), .ro Tag.t_api_Entry p0.Log]), (1, .raw [.lit (.int .i64 0), .lit (.int .i64 0), .lit (.int .i64 0), .lit (.slice none 0 0)])]⟩) (by kernel_rfl) trivial ?_
    refine awp_region L 12 [] [] [2, 4] [0, 1] (cs := []) (S' := ⟨[(2, .cv (.ptr 0 0)), (4, .cv (.ptr 1 0))], [(0, .raw [.lit (.int .i64 p1), .lit (.int .i64 (-1)), .lit (.int .i64 p0.Commit), .ro Tag.t_api_Entry p0.Log]), (1, .raw [.lit (.int .i64 0), .lit (.int .i64 0), .lit (.int .i64 0), .lit (.slice none 0 0)])]⟩) (by kernel_rfl) trivial ?_
    refine awp_seq ?_
    refine awp_region L 15 [] [] [4] [1] (cs := []) (S' := ⟨[(4, .cv (.ptr 1 0))], [(1, .raw [.lit (.int .i64 p1), .lit (.int .i64 (-1)), .lit (.int .i64 p0.Commit), .ro Tag.t_api_Entry p0.Log])]⟩) (by kernel_rfl) trivial ?_
    refine awp_ret ?_
    have hr := Option.some.inj h
    subst hr
    exact ⟨.inr rfl, .agg [.lit (.int .i64 p1), .lit (.int .i64 (-1)), .lit (.int .i64 p0.Commit), .ro Tag.t_api_Entry p0.Log], by kernel_rfl, by kernel_rfl, trivial, by kernel_rfl⟩
  · refine awp_false (b := (decide (p1 > p0.Epoch))) (by kernel_rfl) (decide_eq_false c1) ?_
    refine awp_skip [2, 4] [0, 1] (S' := ⟨[(2, .cv (.ptr 0 0)), (4, .cv (.ptr 1 0))], [(0, .raw [.lit (.int .i64 p0.Epoch), .lit (.int .i64 p0.Vote), .lit (.int .i64 p0.Commit), .ro Tag.t_api_Entry p0.Log]), (1, .raw [.lit (.int .i64 0), .lit (.int .i64 0), .lit (.int .i64 0), .lit (.slice none 0 0)])]⟩) (by kernel_rfl) ?_
    refine awp_seq ?_
    refine awp_region L 15 [] [] [4] [1] (cs := []) (S' := ⟨[(4, .cv (.ptr 1 0))], [(1, .raw [.lit (.int .i64 p0.Epoch), .lit (.int .i64 p0.Vote), .lit (.int .i64 p0.Commit), .ro Tag.t_api_Entry p0.Log])]⟩) (by kernel_rfl) trivial ?_
    refine awp_ret ?_
    have hr := Option.some.inj h
    subst hr
    exact ⟨.inr rfl, .agg [.lit (.int .i64 p0.Epoch), .lit (.int .i64 p0.Vote), .lit (.int .i64 p0.Commit), .ro Tag.t_api_Entry p0.Log], by kernel_rfl, by kernel_rfl, trivial, by kernel_rfl⟩

theorem workflowref54_Observe.ok {K : Nat} {p0 : api_Replica} {p1 : Int} {r : api_Replica} (h : workflowref54_Observe K p0 p1 = some r) : PCall V P 37 [.agg [.lit (.int .i64 p0.Epoch), .lit (.int .i64 p0.Vote), .lit (.int .i64 p0.Commit), .ro Tag.t_api_Entry p0.Log], .cv (.lit (.int .i64 p1))] (.agg [.lit (.int .i64 r.Epoch), .lit (.int .i64 r.Vote), .lit (.int .i64 r.Commit), .ro Tag.t_api_Entry r.Log]) :=
  pcall_of (fn := Try.f37) (n := 13) (by kernel_rfl) (by kernel_rfl) (by kernel_rfl) rfl (by kernel_rfl) (by kernel_rfl) fun Γ => workflowref54_Observe.body h

def workflowref52_Last (K : Nat) (p0 : api_Replica) : Option (Int × Int) := (if (p0.Log.length : Int) = 0 then some (0, 0) else (if (0 : Int) ≤ (IntKind.i64.wrap ((p0.Log.length : Int) - 1)) ∧ ((IntKind.i64.wrap ((p0.Log.length : Int) - 1)) : Int) < (p0.Log.length : Int) then some (((p0.Log.length : Int), ((p0.Log.getD (Int.toNat ((IntKind.i64.wrap ((p0.Log.length : Int) - 1)))) (⟨(0 : Int), ([] : List UInt8)⟩ : api_Entry))).Epoch)) else none))

theorem workflowref52_Last.body {Γ : Ent} {K : Nat} {p0 : api_Replica} {r : Int × Int} (h : workflowref52_Last K p0 = some r) : AWp V P 18 0 Γ (Try.f23.body.getD .skip) (Eng.Ends P V Try.f23 (.tup [.cv (.lit (.int .i64 r.1)), .cv (.lit (.int .i64 r.2))])) ⟨args0 0 [.agg [.lit (.int .i64 p0.Epoch), .lit (.int .i64 p0.Vote), .lit (.int .i64 p0.Commit), .ro Tag.t_api_Entry p0.Log]], []⟩ := by
  unfold workflowref52_Last at h
  refine awp_seq ?_
  refine awp_region L 0 [] [] [1] [0] (cs := []) (S' := ⟨[(1, .cv (.ptr 0 0))], [(0, .raw [.lit (.int .i64 p0.Epoch), .lit (.int .i64 p0.Vote), .lit (.int .i64 p0.Commit), .ro Tag.t_api_Entry p0.Log])]⟩) (by kernel_rfl) trivial ?_
  refine awp_seq ?_
  refine awp_region L 4 [] [] [1, 4] [0] (cs := []) (S' := ⟨[(1, .cv (.ptr 0 0)), (4, .cv (.lit (.int .i64 (p0.Log.length : Int))))], [(0, .raw [.lit (.int .i64 p0.Epoch), .lit (.int .i64 p0.Vote), .lit (.int .i64 p0.Commit), .ro Tag.t_api_Entry p0.Log])]⟩) (by kernel_rfl) trivial ?_
  refine awp_seq ?_
  refine awp_seq ?_
  refine awp_region L 9 [] [] [1, 4, 9] [0] (cs := []) (S' := ⟨[(1, .cv (.ptr 0 0)), (4, .cv (.lit (.int .i64 (p0.Log.length : Int)))), (9, .cv (.lit (.bool ((decide ((p0.Log.length : Int) = 0))))))], [(0, .raw [.lit (.int .i64 p0.Epoch), .lit (.int .i64 p0.Vote), .lit (.int .i64 p0.Commit), .ro Tag.t_api_Entry p0.Log])]⟩) (by kernel_rfl) trivial ?_
  rcases ite_some h with ⟨c1, h⟩ | ⟨c1, h⟩
  · refine awp_true (b := (decide ((p0.Log.length : Int) = 0))) (by kernel_rfl) (decide_eq_true c1) ?_
    refine awp_seq ?_
    refine awp_region L 12 [] [] [2, 3] [] (cs := []) (S' := ⟨[(2, .cv (.lit (.int .i64 0))), (3, .cv (.lit (.int .i64 0)))], []⟩) (by kernel_rfl) trivial ?_
    refine awp_ret ?_
    have hr := Option.some.inj h
    subst hr
    exact ⟨.inr rfl, .tup [.cv (.lit (.int .i64 0)), .cv (.lit (.int .i64 0))], by kernel_rfl, by kernel_rfl, trivial, by kernel_rfl⟩
  · refine awp_false (b := (decide ((p0.Log.length : Int) = 0))) (by kernel_rfl) (decide_eq_false c1) ?_
    refine awp_skip [1, 4] [0] (S' := ⟨[(1, .cv (.ptr 0 0)), (4, .cv (.lit (.int .i64 (p0.Log.length : Int))))], [(0, .raw [.lit (.int .i64 p0.Epoch), .lit (.int .i64 p0.Vote), .lit (.int .i64 p0.Commit), .ro Tag.t_api_Entry p0.Log])]⟩) (by kernel_rfl) ?_
    refine awp_seq ?_
    obtain ⟨g1, h⟩ := guard_some h
    refine awp_draw L mixed 15 [] [] 10 [2, 3] [] (cs := [(0 : Int) ≤ (IntKind.i64.wrap ((p0.Log.length : Int) - 1)), ((IntKind.i64.wrap ((p0.Log.length : Int) - 1)) : Int) < (p0.Log.length : Int)]) (S' := ⟨[(2, .cv (.lit (.int .i64 (p0.Log.length : Int)))), (3, .cv (.lit (.int .i64 (((p0.Log.getD (Int.toNat ((IntKind.i64.wrap ((p0.Log.length : Int) - 1)))) (⟨(0 : Int), ([] : List UInt8)⟩ : api_Entry))).Epoch))))], []⟩) (by kernel_rfl) (And.intro g1.1 g1.2) ?_
    refine awp_ret ?_
    have hr := Option.some.inj h
    subst hr
    exact ⟨.inr rfl, .tup [.cv (.lit (.int .i64 (p0.Log.length : Int))), .cv (.lit (.int .i64 (((p0.Log.getD (Int.toNat ((IntKind.i64.wrap ((p0.Log.length : Int) - 1)))) (⟨(0 : Int), ([] : List UInt8)⟩ : api_Entry))).Epoch)))], by kernel_rfl, by kernel_rfl, trivial, by kernel_rfl⟩

theorem workflowref52_Last.ok {K : Nat} {p0 : api_Replica} {r : Int × Int} (h : workflowref52_Last K p0 = some r) : PCall V P 23 [.agg [.lit (.int .i64 p0.Epoch), .lit (.int .i64 p0.Vote), .lit (.int .i64 p0.Commit), .ro Tag.t_api_Entry p0.Log]] (.tup [.cv (.lit (.int .i64 r.1)), .cv (.lit (.int .i64 r.2))]) :=
  pcall_of (fn := Try.f23) (n := 18) (by kernel_rfl) (by kernel_rfl) (by kernel_rfl) rfl (by kernel_rfl) (by kernel_rfl) fun Γ => workflowref52_Last.body h

def workflowref54_Ask (K : Nat) (p0 : api_Replica) (p1 : Int) (p2 : Int) (p3 : Int) (p4 : Int) : Option (api_Replica × Bool × Int) := (Option.bind (workflowref52_Right K p0) (fun a1 => (if a1 = true then (if p1 < 1 then some (((⟨0, 0, 0, ([] : List api_Entry)⟩ : api_Replica), false, 2)) else (if p1 > 1099511627776 then some (((⟨0, 0, 0, ([] : List api_Entry)⟩ : api_Replica), false, 2)) else (Option.bind (workflowref54_member K p2) (fun a2 => (if a2 = true then (if p3 < 0 then some (((⟨0, 0, 0, ([] : List api_Entry)⟩ : api_Replica), false, 2)) else (if p4 < 0 then some (((⟨0, 0, 0, ([] : List api_Entry)⟩ : api_Replica), false, 2)) else (if p1 < p0.Epoch then some (((⟨0, 0, 0, ([] : List api_Entry)⟩ : api_Replica), false, 25)) else (Option.bind (workflowref54_Observe K p0 p1) (fun a3 => (Option.bind (workflowref52_Last K a3) (fun (a4_0, a4_1) => (if a3.Vote ≠ (-1) then (if a3.Vote ≠ p2 then some (a3, false, 0) else (Option.bind (workflowref54_Newer K p3 p4 a4_0 a4_1) (fun a5 => (if a5 = true then some (((⟨a3.Epoch, p2, a3.Commit, a3.Log⟩ : api_Replica), true, 0)) else some (a3, false, 0))))) else (Option.bind (workflowref54_Newer K p3 p4 a4_0 a4_1) (fun a6 => (if a6 = true then some (((⟨a3.Epoch, p2, a3.Commit, a3.Log⟩ : api_Replica), true, 0)) else some (a3, false, 0)))))))))))) else some (((⟨0, 0, 0, ([] : List api_Entry)⟩ : api_Replica), false, 2))))))) else some (((⟨0, 0, 0, ([] : List api_Entry)⟩ : api_Replica), false, 2)))))

theorem workflowref54_Ask.body {Γ : Ent} {K : Nat} {p0 : api_Replica} {p1 : Int} {p2 : Int} {p3 : Int} {p4 : Int} {r : api_Replica × Bool × Int} (h : workflowref54_Ask K p0 p1 p2 p3 p4 = some r) : AWp V P 75 0 Γ (Try.f35.body.getD .skip) (Eng.Ends P V Try.f35 (.tup [.agg [.lit (.int .i64 r.1.Epoch), .lit (.int .i64 r.1.Vote), .lit (.int .i64 r.1.Commit), .ro Tag.t_api_Entry r.1.Log], .cv (.lit (.bool r.2.1)), .cv (.lit (.int .i64 r.2.2))])) ⟨args0 0 [.agg [.lit (.int .i64 p0.Epoch), .lit (.int .i64 p0.Vote), .lit (.int .i64 p0.Commit), .ro Tag.t_api_Entry p0.Log], .cv (.lit (.int .i64 p1)), .cv (.lit (.int .i64 p2)), .cv (.lit (.int .i64 p3)), .cv (.lit (.int .i64 p4))], []⟩ := by
  unfold workflowref54_Ask at h
  refine awp_seq ?_
  refine awp_region L 0 [] [] [1, 2, 3, 4, 5, 10] [0, 1] (cs := []) (S' := ⟨[(1, .cv (.lit (.int .i64 p1))), (2, .cv (.lit (.int .i64 p2))), (3, .cv (.lit (.int .i64 p3))), (4, .cv (.lit (.int .i64 p4))), (5, .cv (.ptr 0 0)), (10, .cv (.ptr 1 0))], [(0, .raw [.lit (.int .i64 p0.Epoch), .lit (.int .i64 p0.Vote), .lit (.int .i64 p0.Commit), .ro Tag.t_api_Entry p0.Log]), (1, .raw [.lit (.int .i64 0), .lit (.int .i64 0), .lit (.int .i64 0), .lit (.slice none 0 0)])]⟩) (by kernel_rfl) trivial ?_
  refine awp_seq ?_
  refine awp_seq ?_
  obtain ⟨a1, h1, h⟩ := bind_some h
  rcases ite_some h with ⟨c1, h⟩ | ⟨c1, h⟩
  · rcases ite_some h with ⟨c2, h⟩ | ⟨c2, h⟩
    · refine awp_region L 5 [(3, false), (7, true)] [(1, .cv (.lit (.bool a1)))] [1, 2, 3, 4, 5, 10, 39] [0, 1] (cs := [PCall V P 17 [.agg [.lit (.int .i64 p0.Epoch), .lit (.int .i64 p0.Vote), .lit (.int .i64 p0.Commit), .ro Tag.t_api_Entry p0.Log]] (.cv (.lit (.bool a1))), True, (!a1) = false, (decide (p1 < 1)) = true]) (S' := ⟨[(1, .cv (.lit (.int .i64 p1))), (2, .cv (.lit (.int .i64 p2))), (3, .cv (.lit (.int .i64 p3))), (4, .cv (.lit (.int .i64 p4))), (5, .cv (.ptr 0 0)), (10, .cv (.ptr 1 0)), (39, .cv (.lit (.bool true)))], [(0, .raw [.lit (.int .i64 p0.Epoch), .lit (.int .i64 p0.Vote), .lit (.int .i64 p0.Commit), .ro Tag.t_api_Entry p0.Log]), (1, .raw [.lit (.int .i64 0), .lit (.int .i64 0), .lit (.int .i64 0), .lit (.slice none 0 0)])]⟩) (by kernel_rfl) (And.intro (workflowref52_Right.ok h1) (And.intro trivial (And.intro (congrArg Bool.not (c1)) (decide_eq_true c2)))) ?_
      refine awp_true (b := true) (by kernel_rfl) (rfl) ?_
      refine awp_seq ?_
      refine awp_region L 30 [] [] [10, 11, 12] [1] (cs := []) (S' := ⟨[(10, .cv (.ptr 1 0)), (11, .cv (.lit (.bool false))), (12, .cv (.lit (.int .i64 2)))], [(1, .raw [.lit (.int .i64 0), .lit (.int .i64 0), .lit (.int .i64 0), .lit (.slice none 0 0)])]⟩) (by kernel_rfl) trivial ?_
      refine awp_ret ?_
      have hr := Option.some.inj h
      subst hr
      exact ⟨.inr rfl, .tup [.agg [.lit (.int .i64 0), .lit (.int .i64 0), .lit (.int .i64 0), .lit (.slice none 0 0)], .cv (.lit (.bool false)), .cv (.lit (.int .i64 2))], by kernel_rfl, by kernel_rfl, trivial, by kernel_rfl⟩
    · rcases ite_some h with ⟨c3, h⟩ | ⟨c3, h⟩
      · refine awp_region L 5 [(3, false), (7, false), (11, true)] [(1, .cv (.lit (.bool a1)))] [1, 2, 3, 4, 5, 10, 39] [0, 1] (cs := [PCall V P 17 [.agg [.lit (.int .i64 p0.Epoch), .lit (.int .i64 p0.Vote), .lit (.int .i64 p0.Commit), .ro Tag.t_api_Entry p0.Log]] (.cv (.lit (.bool a1))), True, (!a1) = false, (decide (p1 < 1)) = false, (decide (p1 > 1099511627776)) = true]) (S' := ⟨[(1, .cv (.lit (.int .i64 p1))), (2, .cv (.lit (.int .i64 p2))), (3, .cv (.lit (.int .i64 p3))), (4, .cv (.lit (.int .i64 p4))), (5, .cv (.ptr 0 0)), (10, .cv (.ptr 1 0)), (39, .cv (.lit (.bool true)))], [(0, .raw [.lit (.int .i64 p0.Epoch), .lit (.int .i64 p0.Vote), .lit (.int .i64 p0.Commit), .ro Tag.t_api_Entry p0.Log]), (1, .raw [.lit (.int .i64 0), .lit (.int .i64 0), .lit (.int .i64 0), .lit (.slice none 0 0)])]⟩) (by kernel_rfl) (And.intro (workflowref52_Right.ok h1) (And.intro trivial (And.intro (congrArg Bool.not (c1)) (And.intro (decide_eq_false c2) (decide_eq_true c3))))) ?_
        refine awp_true (b := true) (by kernel_rfl) (rfl) ?_
        refine awp_seq ?_
        refine awp_region L 30 [] [] [10, 11, 12] [1] (cs := []) (S' := ⟨[(10, .cv (.ptr 1 0)), (11, .cv (.lit (.bool false))), (12, .cv (.lit (.int .i64 2)))], [(1, .raw [.lit (.int .i64 0), .lit (.int .i64 0), .lit (.int .i64 0), .lit (.slice none 0 0)])]⟩) (by kernel_rfl) trivial ?_
        refine awp_ret ?_
        have hr := Option.some.inj h
        subst hr
        exact ⟨.inr rfl, .tup [.agg [.lit (.int .i64 0), .lit (.int .i64 0), .lit (.int .i64 0), .lit (.slice none 0 0)], .cv (.lit (.bool false)), .cv (.lit (.int .i64 2))], by kernel_rfl, by kernel_rfl, trivial, by kernel_rfl⟩
      · obtain ⟨a2, h2, h⟩ := bind_some h
        rcases ite_some h with ⟨c4, h⟩ | ⟨c4, h⟩
        · rcases ite_some h with ⟨c5, h⟩ | ⟨c5, h⟩
          · refine awp_region L 5 [(3, false), (7, false), (11, false), (16, false), (20, true)] [(1, .cv (.lit (.bool a1))), (13, .cv (.lit (.bool a2)))] [1, 2, 3, 4, 5, 10, 39] [0, 1] (cs := [PCall V P 17 [.agg [.lit (.int .i64 p0.Epoch), .lit (.int .i64 p0.Vote), .lit (.int .i64 p0.Commit), .ro Tag.t_api_Entry p0.Log]] (.cv (.lit (.bool a1))), True, (!a1) = false, (decide (p1 < 1)) = false, (decide (p1 > 1099511627776)) = false, PCall V P 50 [.cv (.lit (.int .i64 p2))] (.cv (.lit (.bool a2))), True, (!a2) = false, (decide (p3 < 0)) = true]) (S' := ⟨[(1, .cv (.lit (.int .i64 p1))), (2, .cv (.lit (.int .i64 p2))), (3, .cv (.lit (.int .i64 p3))), (4, .cv (.lit (.int .i64 p4))), (5, .cv (.ptr 0 0)), (10, .cv (.ptr 1 0)), (39, .cv (.lit (.bool true)))], [(0, .raw [.lit (.int .i64 p0.Epoch), .lit (.int .i64 p0.Vote), .lit (.int .i64 p0.Commit), .ro Tag.t_api_Entry p0.Log]), (1, .raw [.lit (.int .i64 0), .lit (.int .i64 0), .lit (.int .i64 0), .lit (.slice none 0 0)])]⟩) (by kernel_rfl) (And.intro (workflowref52_Right.ok h1) (And.intro trivial (And.intro (congrArg Bool.not (c1)) (And.intro (decide_eq_false c2) (And.intro (decide_eq_false c3) (And.intro (workflowref54_member.ok h2) (And.intro trivial (And.intro (congrArg Bool.not (c4)) (decide_eq_true c5))))))))) ?_
            refine awp_true (b := true) (by kernel_rfl) (rfl) ?_
            refine awp_seq ?_
            refine awp_region L 30 [] [] [10, 11, 12] [1] (cs := []) (S' := ⟨[(10, .cv (.ptr 1 0)), (11, .cv (.lit (.bool false))), (12, .cv (.lit (.int .i64 2)))], [(1, .raw [.lit (.int .i64 0), .lit (.int .i64 0), .lit (.int .i64 0), .lit (.slice none 0 0)])]⟩) (by kernel_rfl) trivial ?_
            refine awp_ret ?_
            have hr := Option.some.inj h
            subst hr
            exact ⟨.inr rfl, .tup [.agg [.lit (.int .i64 0), .lit (.int .i64 0), .lit (.int .i64 0), .lit (.slice none 0 0)], .cv (.lit (.bool false)), .cv (.lit (.int .i64 2))], by kernel_rfl, by kernel_rfl, trivial, by kernel_rfl⟩
          · refine awp_region L 5 [(3, false), (7, false), (11, false), (16, false), (20, false)] [(1, .cv (.lit (.bool a1))), (13, .cv (.lit (.bool a2)))] [1, 2, 3, 4, 5, 10, 39] [0, 1] (cs := [PCall V P 17 [.agg [.lit (.int .i64 p0.Epoch), .lit (.int .i64 p0.Vote), .lit (.int .i64 p0.Commit), .ro Tag.t_api_Entry p0.Log]] (.cv (.lit (.bool a1))), True, (!a1) = false, (decide (p1 < 1)) = false, (decide (p1 > 1099511627776)) = false, PCall V P 50 [.cv (.lit (.int .i64 p2))] (.cv (.lit (.bool a2))), True, (!a2) = false, (decide (p3 < 0)) = false]) (S' := ⟨[(1, .cv (.lit (.int .i64 p1))), (2, .cv (.lit (.int .i64 p2))), (3, .cv (.lit (.int .i64 p3))), (4, .cv (.lit (.int .i64 p4))), (5, .cv (.ptr 0 0)), (10, .cv (.ptr 1 0)), (39, .cv (.lit (.bool ((decide (p4 < 0))))))], [(0, .raw [.lit (.int .i64 p0.Epoch), .lit (.int .i64 p0.Vote), .lit (.int .i64 p0.Commit), .ro Tag.t_api_Entry p0.Log]), (1, .raw [.lit (.int .i64 0), .lit (.int .i64 0), .lit (.int .i64 0), .lit (.slice none 0 0)])]⟩) (by kernel_rfl) (And.intro (workflowref52_Right.ok h1) (And.intro trivial (And.intro (congrArg Bool.not (c1)) (And.intro (decide_eq_false c2) (And.intro (decide_eq_false c3) (And.intro (workflowref54_member.ok h2) (And.intro trivial (And.intro (congrArg Bool.not (c4)) (decide_eq_false c5))))))))) ?_
            rcases ite_some h with ⟨c6, h⟩ | ⟨c6, h⟩
            · refine awp_true (b := (decide (p4 < 0))) (by kernel_rfl) (decide_eq_true c6) ?_
              refine awp_seq ?_
              refine awp_region L 30 [] [] [10, 11, 12] [1] (cs := []) (S' := ⟨[(10, .cv (.ptr 1 0)), (11, .cv (.lit (.bool false))), (12, .cv (.lit (.int .i64 2)))], [(1, .raw [.lit (.int .i64 0), .lit (.int .i64 0), .lit (.int .i64 0), .lit (.slice none 0 0)])]⟩) (by kernel_rfl) trivial ?_
              refine awp_ret ?_
              have hr := Option.some.inj h
              subst hr
              exact ⟨.inr rfl, .tup [.agg [.lit (.int .i64 0), .lit (.int .i64 0), .lit (.int .i64 0), .lit (.slice none 0 0)], .cv (.lit (.bool false)), .cv (.lit (.int .i64 2))], by kernel_rfl, by kernel_rfl, trivial, by kernel_rfl⟩
            · refine awp_false (b := (decide (p4 < 0))) (by kernel_rfl) (decide_eq_false c6) ?_
              refine awp_skip [1, 2, 3, 4, 5, 10] [0, 1] (S' := ⟨[(1, .cv (.lit (.int .i64 p1))), (2, .cv (.lit (.int .i64 p2))), (3, .cv (.lit (.int .i64 p3))), (4, .cv (.lit (.int .i64 p4))), (5, .cv (.ptr 0 0)), (10, .cv (.ptr 1 0))], [(0, .raw [.lit (.int .i64 p0.Epoch), .lit (.int .i64 p0.Vote), .lit (.int .i64 p0.Commit), .ro Tag.t_api_Entry p0.Log]), (1, .raw [.lit (.int .i64 0), .lit (.int .i64 0), .lit (.int .i64 0), .lit (.slice none 0 0)])]⟩) (by kernel_rfl) ?_
              refine awp_seq ?_
              refine awp_seq ?_
              refine awp_region L 35 [] [] [1, 2, 3, 4, 5, 10, 44] [0, 1] (cs := []) (S' := ⟨[(1, .cv (.lit (.int .i64 p1))), (2, .cv (.lit (.int .i64 p2))), (3, .cv (.lit (.int .i64 p3))), (4, .cv (.lit (.int .i64 p4))), (5, .cv (.ptr 0 0)), (10, .cv (.ptr 1 0)), (44, .cv (.lit (.bool ((decide (p1 < p0.Epoch))))))], [(0, .raw [.lit (.int .i64 p0.Epoch), .lit (.int .i64 p0.Vote), .lit (.int .i64 p0.Commit), .ro Tag.t_api_Entry p0.Log]), (1, .raw [.lit (.int .i64 0), .lit (.int .i64 0), .lit (.int .i64 0), .lit (.slice none 0 0)])]⟩) (by kernel_rfl) trivial ?_
              rcases ite_some h with ⟨c7, h⟩ | ⟨c7, h⟩
              · refine awp_true (b := (decide (p1 < p0.Epoch))) (by kernel_rfl) (decide_eq_true c7) ?_
                refine awp_seq ?_
                refine awp_region L 40 [] [] [10, 11, 12] [1] (cs := []) (S' := ⟨[(10, .cv (.ptr 1 0)), (11, .cv (.lit (.bool false))), (12, .cv (.lit (.int .i64 25)))], [(1, .raw [.lit (.int .i64 0), .lit (.int .i64 0), .lit (.int .i64 0), .lit (.slice none 0 0)])]⟩) (by kernel_rfl) trivial ?_
                refine awp_ret ?_
                have hr := Option.some.inj h
                subst hr
                exact ⟨.inr rfl, .tup [.agg [.lit (.int .i64 0), .lit (.int .i64 0), .lit (.int .i64 0), .lit (.slice none 0 0)], .cv (.lit (.bool false)), .cv (.lit (.int .i64 25))], by kernel_rfl, by kernel_rfl, trivial, by kernel_rfl⟩
              · refine awp_false (b := (decide (p1 < p0.Epoch))) (by kernel_rfl) (decide_eq_false c7) ?_
                refine awp_skip [1, 2, 3, 4, 5, 10] [0, 1] (S' := ⟨[(1, .cv (.lit (.int .i64 p1))), (2, .cv (.lit (.int .i64 p2))), (3, .cv (.lit (.int .i64 p3))), (4, .cv (.lit (.int .i64 p4))), (5, .cv (.ptr 0 0)), (10, .cv (.ptr 1 0))], [(0, .raw [.lit (.int .i64 p0.Epoch), .lit (.int .i64 p0.Vote), .lit (.int .i64 p0.Commit), .ro Tag.t_api_Entry p0.Log]), (1, .raw [.lit (.int .i64 0), .lit (.int .i64 0), .lit (.int .i64 0), .lit (.slice none 0 0)])]⟩) (by kernel_rfl) ?_
                refine awp_seq ?_
                obtain ⟨a3, h3, h⟩ := bind_some h
                refine awp_region L 45 [] [(2, .agg [.lit (.int .i64 a3.Epoch), .lit (.int .i64 a3.Vote), .lit (.int .i64 a3.Commit), .ro Tag.t_api_Entry a3.Log])] [2, 3, 4, 10, 13] [1, 48] (cs := [PCall V P 37 [.agg [.lit (.int .i64 p0.Epoch), .lit (.int .i64 p0.Vote), .lit (.int .i64 p0.Commit), .ro Tag.t_api_Entry p0.Log], .cv (.lit (.int .i64 p1))] (.agg [.lit (.int .i64 a3.Epoch), .lit (.int .i64 a3.Vote), .lit (.int .i64 a3.Commit), .ro Tag.t_api_Entry a3.Log]), True]) (S' := ⟨[(2, .cv (.lit (.int .i64 p2))), (3, .cv (.lit (.int .i64 p3))), (4, .cv (.lit (.int .i64 p4))), (10, .cv (.ptr 1 0)), (13, .cv (.ptr 48 0))], [(1, .raw [.lit (.int .i64 0), .lit (.int .i64 0), .lit (.int .i64 0), .lit (.slice none 0 0)]), (48, .raw [.lit (.int .i64 a3.Epoch), .lit (.int .i64 a3.Vote), .lit (.int .i64 a3.Commit), .ro Tag.t_api_Entry a3.Log])]⟩) (by kernel_rfl) (And.intro (workflowref54_Observe.ok h3) trivial) ?_
                refine awp_seq ?_
                obtain ⟨⟨a4_0, a4_1⟩, h4, h⟩ := bind_some h
                dsimp only at h
                refine awp_region L 51 [] [(1, .tup [.cv (.lit (.int .i64 a4_0)), .cv (.lit (.int .i64 a4_1))])] [2, 3, 4, 10, 13, 14, 15] [1, 48] (cs := [PCall V P 23 [.agg [.lit (.int .i64 a3.Epoch), .lit (.int .i64 a3.Vote), .lit (.int .i64 a3.Commit), .ro Tag.t_api_Entry a3.Log]] (.tup [.cv (.lit (.int .i64 a4_0)), .cv (.lit (.int .i64 a4_1))]), True]) (S' := ⟨[(2, .cv (.lit (.int .i64 p2))), (3, .cv (.lit (.int .i64 p3))), (4, .cv (.lit (.int .i64 p4))), (10, .cv (.ptr 1 0)), (13, .cv (.ptr 48 0)), (14, .cv (.lit (.int .i64 a4_0))), (15, .cv (.lit (.int .i64 a4_1)))], [(1, .raw [.lit (.int .i64 0), .lit (.int .i64 0), .lit (.int .i64 0), .lit (.slice none 0 0)]), (48, .raw [.lit (.int .i64 a3.Epoch), .lit (.int .i64 a3.Vote), .lit (.int .i64 a3.Commit), .ro Tag.t_api_Entry a3.Log])]⟩) (by kernel_rfl) (And.intro (workflowref52_Last.ok h4) trivial) ?_
                refine awp_seq ?_
                refine awp_seq ?_
                rcases ite_some h with ⟨c8, h⟩ | ⟨c8, h⟩
                · rcases ite_some h with ⟨c9, h⟩ | ⟨c9, h⟩
                  · refine awp_region L 59 [(3, true), (9, true)] [] [2, 10, 13, 70] [1, 48] (cs := [(decide (a3.Vote ≠ (-1))) = true, (decide (a3.Vote ≠ p2)) = true]) (S' := ⟨[(2, .cv (.lit (.int .i64 p2))), (10, .cv (.ptr 1 0)), (13, .cv (.ptr 48 0)), (70, .cv (.lit (.bool true)))], [(1, .raw [.lit (.int .i64 0), .lit (.int .i64 0), .lit (.int .i64 0), .lit (.slice none 0 0)]), (48, .raw [.lit (.int .i64 a3.Epoch), .lit (.int .i64 a3.Vote), .lit (.int .i64 a3.Commit), .ro Tag.t_api_Entry a3.Log])]⟩) (by kernel_rfl) (And.intro (decide_eq_true c8) (decide_eq_true c9)) ?_
                    refine awp_true (b := true) (by kernel_rfl) (rfl) ?_
                    refine awp_seq ?_
                    refine awp_region L 77 [] [] [10, 11, 12] [1] (cs := []) (S' := ⟨[(10, .cv (.ptr 1 0)), (11, .cv (.lit (.bool false))), (12, .cv (.lit (.int .i64 0)))], [(1, .raw [.lit (.int .i64 a3.Epoch), .lit (.int .i64 a3.Vote), .lit (.int .i64 a3.Commit), .ro Tag.t_api_Entry a3.Log])]⟩) (by kernel_rfl) trivial ?_
                    refine awp_ret ?_
                    have hr := Option.some.inj h
                    subst hr
                    exact ⟨.inr rfl, .tup [.agg [.lit (.int .i64 a3.Epoch), .lit (.int .i64 a3.Vote), .lit (.int .i64 a3.Commit), .ro Tag.t_api_Entry a3.Log], .cv (.lit (.bool false)), .cv (.lit (.int .i64 0))], by kernel_rfl, by kernel_rfl, trivial, by kernel_rfl⟩
                  · obtain ⟨a5, h5, h⟩ := bind_some h
                    refine awp_region L 59 [(3, true), (9, false)] [(14, .cv (.lit (.bool a5)))] [2, 10, 13, 70] [1, 48] (cs := [(decide (a3.Vote ≠ (-1))) = true, (decide (a3.Vote ≠ p2)) = false, PCall V P 31 [.cv (.lit (.int .i64 p3)), .cv (.lit (.int .i64 p4)), .cv (.lit (.int .i64 a4_0)), .cv (.lit (.int .i64 a4_1))] (.cv (.lit (.bool a5))), True]) (S' := ⟨[(2, .cv (.lit (.int .i64 p2))), (10, .cv (.ptr 1 0)), (13, .cv (.ptr 48 0)), (70, .cv (.lit (.bool (!a5))))], [(1, .raw [.lit (.int .i64 0), .lit (.int .i64 0), .lit (.int .i64 0), .lit (.slice none 0 0)]), (48, .raw [.lit (.int .i64 a3.Epoch), .lit (.int .i64 a3.Vote), .lit (.int .i64 a3.Commit), .ro Tag.t_api_Entry a3.Log])]⟩) (by kernel_rfl) (And.intro (decide_eq_true c8) (And.intro (decide_eq_false c9) (And.intro (workflowref54_Newer.ok h5) trivial))) ?_
                    rcases ite_some h with ⟨c10, h⟩ | ⟨c10, h⟩
                    · refine awp_false (b := (!a5)) (by kernel_rfl) (congrArg Bool.not (c10)) ?_
                      refine awp_skip [2, 10, 13] [1, 48] (S' := ⟨[(2, .cv (.lit (.int .i64 p2))), (10, .cv (.ptr 1 0)), (13, .cv (.ptr 48 0))], [(1, .raw [.lit (.int .i64 0), .lit (.int .i64 0), .lit (.int .i64 0), .lit (.slice none 0 0)]), (48, .raw [.lit (.int .i64 a3.Epoch), .lit (.int .i64 a3.Vote), .lit (.int .i64 a3.Commit), .ro Tag.t_api_Entry a3.Log])]⟩) (by kernel_rfl) ?_
                      refine awp_seq ?_
                      refine awp_region L 82 [] [] [10, 13] [1, 48] (cs := []) (S' := ⟨[(10, .cv (.ptr 1 0)), (13, .cv (.ptr 48 0))], [(1, .raw [.lit (.int .i64 0), .lit (.int .i64 0), .lit (.int .i64 0), .lit (.slice none 0 0)]), (48, .raw [.lit (.int .i64 a3.Epoch), .lit (.int .i64 p2), .lit (.int .i64 a3.Commit), .ro Tag.t_api_Entry a3.Log])]⟩) (by kernel_rfl) trivial ?_
                      refine awp_seq ?_
                      refine awp_region L 86 [] [] [10, 11, 12] [1] (cs := []) (S' := ⟨[(10, .cv (.ptr 1 0)), (11, .cv (.lit (.bool true))), (12, .cv (.lit (.int .i64 0)))], [(1, .raw [.lit (.int .i64 a3.Epoch), .lit (.int .i64 p2), .lit (.int .i64 a3.Commit), .ro Tag.t_api_Entry a3.Log])]⟩) (by kernel_rfl) trivial ?_
                      refine awp_ret ?_
                      have hr := Option.some.inj h
                      subst hr
                      exact ⟨.inr rfl, .tup [.agg [.lit (.int .i64 a3.Epoch), .lit (.int .i64 p2), .lit (.int .i64 a3.Commit), .ro Tag.t_api_Entry a3.Log], .cv (.lit (.bool true)), .cv (.lit (.int .i64 0))], by kernel_rfl, by kernel_rfl, trivial, by kernel_rfl⟩
                    · refine awp_true (b := (!a5)) (by kernel_rfl) (congrArg Bool.not (eq_false_of_ne_true c10)) ?_
                      refine awp_seq ?_
                      refine awp_region L 77 [] [] [10, 11, 12] [1] (cs := []) (S' := ⟨[(10, .cv (.ptr 1 0)), (11, .cv (.lit (.bool false))), (12, .cv (.lit (.int .i64 0)))], [(1, .raw [.lit (.int .i64 a3.Epoch), .lit (.int .i64 a3.Vote), .lit (.int .i64 a3.Commit), .ro Tag.t_api_Entry a3.Log])]⟩) (by kernel_rfl) trivial ?_
                      refine awp_ret ?_
                      have hr := Option.some.inj h
                      subst hr
                      exact ⟨.inr rfl, .tup [.agg [.lit (.int .i64 a3.Epoch), .lit (.int .i64 a3.Vote), .lit (.int .i64 a3.Commit), .ro Tag.t_api_Entry a3.Log], .cv (.lit (.bool false)), .cv (.lit (.int .i64 0))], by kernel_rfl, by kernel_rfl, trivial, by kernel_rfl⟩
                · obtain ⟨a6, h6, h⟩ := bind_some h
                  refine awp_region L 59 [(3, false)] [(14, .cv (.lit (.bool a6)))] [2, 10, 13, 70] [1, 48] (cs := [(decide (a3.Vote ≠ (-1))) = false, PCall V P 31 [.cv (.lit (.int .i64 p3)), .cv (.lit (.int .i64 p4)), .cv (.lit (.int .i64 a4_0)), .cv (.lit (.int .i64 a4_1))] (.cv (.lit (.bool a6))), True]) (S' := ⟨[(2, .cv (.lit (.int .i64 p2))), (10, .cv (.ptr 1 0)), (13, .cv (.ptr 48 0)), (70, .cv (.lit (.bool (!a6))))], [(1, .raw [.lit (.int .i64 0), .lit (.int .i64 0), .lit (.int .i64 0), .lit (.slice none 0 0)]), (48, .raw [.lit (.int .i64 a3.Epoch), .lit (.int .i64 a3.Vote), .lit (.int .i64 a3.Commit), .ro Tag.t_api_Entry a3.Log])]⟩) (by kernel_rfl) (And.intro (decide_eq_false c8) (And.intro (workflowref54_Newer.ok h6) trivial)) ?_
                  rcases ite_some h with ⟨c11, h⟩ | ⟨c11, h⟩
                  · refine awp_false (b := (!a6)) (by kernel_rfl) (congrArg Bool.not (c11)) ?_
                    refine awp_skip [2, 10, 13] [1, 48] (S' := ⟨[(2, .cv (.lit (.int .i64 p2))), (10, .cv (.ptr 1 0)), (13, .cv (.ptr 48 0))], [(1, .raw [.lit (.int .i64 0), .lit (.int .i64 0), .lit (.int .i64 0), .lit (.slice none 0 0)]), (48, .raw [.lit (.int .i64 a3.Epoch), .lit (.int .i64 a3.Vote), .lit (.int .i64 a3.Commit), .ro Tag.t_api_Entry a3.Log])]⟩) (by kernel_rfl) ?_
                    refine awp_seq ?_
                    refine awp_region L 82 [] [] [10, 13] [1, 48] (cs := []) (S' := ⟨[(10, .cv (.ptr 1 0)), (13, .cv (.ptr 48 0))], [(1, .raw [.lit (.int .i64 0), .lit (.int .i64 0), .lit (.int .i64 0), .lit (.slice none 0 0)]), (48, .raw [.lit (.int .i64 a3.Epoch), .lit (.int .i64 p2), .lit (.int .i64 a3.Commit), .ro Tag.t_api_Entry a3.Log])]⟩) (by kernel_rfl) trivial ?_
                    refine awp_seq ?_
                    refine awp_region L 86 [] [] [10, 11, 12] [1] (cs := []) (S' := ⟨[(10, .cv (.ptr 1 0)), (11, .cv (.lit (.bool true))), (12, .cv (.lit (.int .i64 0)))], [(1, .raw [.lit (.int .i64 a3.Epoch), .lit (.int .i64 p2), .lit (.int .i64 a3.Commit), .ro Tag.t_api_Entry a3.Log])]⟩) (by kernel_rfl) trivial ?_
                    refine awp_ret ?_
                    have hr := Option.some.inj h
                    subst hr
                    exact ⟨.inr rfl, .tup [.agg [.lit (.int .i64 a3.Epoch), .lit (.int .i64 p2), .lit (.int .i64 a3.Commit), .ro Tag.t_api_Entry a3.Log], .cv (.lit (.bool true)), .cv (.lit (.int .i64 0))], by kernel_rfl, by kernel_rfl, trivial, by kernel_rfl⟩
                  · refine awp_true (b := (!a6)) (by kernel_rfl) (congrArg Bool.not (eq_false_of_ne_true c11)) ?_
                    refine awp_seq ?_
                    refine awp_region L 77 [] [] [10, 11, 12] [1] (cs := []) (S' := ⟨[(10, .cv (.ptr 1 0)), (11, .cv (.lit (.bool false))), (12, .cv (.lit (.int .i64 0)))], [(1, .raw [.lit (.int .i64 a3.Epoch), .lit (.int .i64 a3.Vote), .lit (.int .i64 a3.Commit), .ro Tag.t_api_Entry a3.Log])]⟩) (by kernel_rfl) trivial ?_
                    refine awp_ret ?_
                    have hr := Option.some.inj h
                    subst hr
                    exact ⟨.inr rfl, .tup [.agg [.lit (.int .i64 a3.Epoch), .lit (.int .i64 a3.Vote), .lit (.int .i64 a3.Commit), .ro Tag.t_api_Entry a3.Log], .cv (.lit (.bool false)), .cv (.lit (.int .i64 0))], by kernel_rfl, by kernel_rfl, trivial, by kernel_rfl⟩
        · refine awp_region L 5 [(3, false), (7, false), (11, false), (16, true)] [(1, .cv (.lit (.bool a1))), (13, .cv (.lit (.bool a2)))] [1, 2, 3, 4, 5, 10, 39] [0, 1] (cs := [PCall V P 17 [.agg [.lit (.int .i64 p0.Epoch), .lit (.int .i64 p0.Vote), .lit (.int .i64 p0.Commit), .ro Tag.t_api_Entry p0.Log]] (.cv (.lit (.bool a1))), True, (!a1) = false, (decide (p1 < 1)) = false, (decide (p1 > 1099511627776)) = false, PCall V P 50 [.cv (.lit (.int .i64 p2))] (.cv (.lit (.bool a2))), True, (!a2) = true]) (S' := ⟨[(1, .cv (.lit (.int .i64 p1))), (2, .cv (.lit (.int .i64 p2))), (3, .cv (.lit (.int .i64 p3))), (4, .cv (.lit (.int .i64 p4))), (5, .cv (.ptr 0 0)), (10, .cv (.ptr 1 0)), (39, .cv (.lit (.bool true)))], [(0, .raw [.lit (.int .i64 p0.Epoch), .lit (.int .i64 p0.Vote), .lit (.int .i64 p0.Commit), .ro Tag.t_api_Entry p0.Log]), (1, .raw [.lit (.int .i64 0), .lit (.int .i64 0), .lit (.int .i64 0), .lit (.slice none 0 0)])]⟩) (by kernel_rfl) (And.intro (workflowref52_Right.ok h1) (And.intro trivial (And.intro (congrArg Bool.not (c1)) (And.intro (decide_eq_false c2) (And.intro (decide_eq_false c3) (And.intro (workflowref54_member.ok h2) (And.intro trivial (congrArg Bool.not (eq_false_of_ne_true c4))))))))) ?_
          refine awp_true (b := true) (by kernel_rfl) (rfl) ?_
          refine awp_seq ?_
          refine awp_region L 30 [] [] [10, 11, 12] [1] (cs := []) (S' := ⟨[(10, .cv (.ptr 1 0)), (11, .cv (.lit (.bool false))), (12, .cv (.lit (.int .i64 2)))], [(1, .raw [.lit (.int .i64 0), .lit (.int .i64 0), .lit (.int .i64 0), .lit (.slice none 0 0)])]⟩) (by kernel_rfl) trivial ?_
          refine awp_ret ?_
          have hr := Option.some.inj h
          subst hr
          exact ⟨.inr rfl, .tup [.agg [.lit (.int .i64 0), .lit (.int .i64 0), .lit (.int .i64 0), .lit (.slice none 0 0)], .cv (.lit (.bool false)), .cv (.lit (.int .i64 2))], by kernel_rfl, by kernel_rfl, trivial, by kernel_rfl⟩
  · refine awp_region L 5 [(3, true)] [(1, .cv (.lit (.bool a1)))] [1, 2, 3, 4, 5, 10, 39] [0, 1] (cs := [PCall V P 17 [.agg [.lit (.int .i64 p0.Epoch), .lit (.int .i64 p0.Vote), .lit (.int .i64 p0.Commit), .ro Tag.t_api_Entry p0.Log]] (.cv (.lit (.bool a1))), True, (!a1) = true]) (S' := ⟨[(1, .cv (.lit (.int .i64 p1))), (2, .cv (.lit (.int .i64 p2))), (3, .cv (.lit (.int .i64 p3))), (4, .cv (.lit (.int .i64 p4))), (5, .cv (.ptr 0 0)), (10, .cv (.ptr 1 0)), (39, .cv (.lit (.bool true)))], [(0, .raw [.lit (.int .i64 p0.Epoch), .lit (.int .i64 p0.Vote), .lit (.int .i64 p0.Commit), .ro Tag.t_api_Entry p0.Log]), (1, .raw [.lit (.int .i64 0), .lit (.int .i64 0), .lit (.int .i64 0), .lit (.slice none 0 0)])]⟩) (by kernel_rfl) (And.intro (workflowref52_Right.ok h1) (And.intro trivial (congrArg Bool.not (eq_false_of_ne_true c1)))) ?_
    refine awp_true (b := true) (by kernel_rfl) (rfl) ?_
    refine awp_seq ?_
    refine awp_region L 30 [] [] [10, 11, 12] [1] (cs := []) (S' := ⟨[(10, .cv (.ptr 1 0)), (11, .cv (.lit (.bool false))), (12, .cv (.lit (.int .i64 2)))], [(1, .raw [.lit (.int .i64 0), .lit (.int .i64 0), .lit (.int .i64 0), .lit (.slice none 0 0)])]⟩) (by kernel_rfl) trivial ?_
    refine awp_ret ?_
    have hr := Option.some.inj h
    subst hr
    exact ⟨.inr rfl, .tup [.agg [.lit (.int .i64 0), .lit (.int .i64 0), .lit (.int .i64 0), .lit (.slice none 0 0)], .cv (.lit (.bool false)), .cv (.lit (.int .i64 2))], by kernel_rfl, by kernel_rfl, trivial, by kernel_rfl⟩

theorem workflowref54_Ask.ok {K : Nat} {p0 : api_Replica} {p1 : Int} {p2 : Int} {p3 : Int} {p4 : Int} {r : api_Replica × Bool × Int} (h : workflowref54_Ask K p0 p1 p2 p3 p4 = some r) : PCall V P 35 [.agg [.lit (.int .i64 p0.Epoch), .lit (.int .i64 p0.Vote), .lit (.int .i64 p0.Commit), .ro Tag.t_api_Entry p0.Log], .cv (.lit (.int .i64 p1)), .cv (.lit (.int .i64 p2)), .cv (.lit (.int .i64 p3)), .cv (.lit (.int .i64 p4))] (.tup [.agg [.lit (.int .i64 r.1.Epoch), .lit (.int .i64 r.1.Vote), .lit (.int .i64 r.1.Commit), .ro Tag.t_api_Entry r.1.Log], .cv (.lit (.bool r.2.1)), .cv (.lit (.int .i64 r.2.2))]) :=
  pcall_of (fn := Try.f35) (n := 75) (by kernel_rfl) (by kernel_rfl) (by kernel_rfl) rfl (by kernel_rfl) (by kernel_rfl) fun Γ => workflowref54_Ask.body h

def workflowref52_Agree.l15 (K : Nat) (p0 : api_Entry) (p1 : api_Entry) : Nat → Int → Option (Out Bool Unit)
  | 0, _ => none
  | k + 1, xt5_15h => (if xt5_15h < (p0.Data.length : Int) then (if (0 : Int) ≤ xt5_15h ∧ (xt5_15h : Int) < (p0.Data.length : Int) then (if (xt5_15h : Int) < (p1.Data.length : Int) then (if (((p0.Data.getD (Int.toNat xt5_15h) (0 : UInt8))).toNat : Int) ≠ (((p1.Data.getD (Int.toNat xt5_15h) (0 : UInt8))).toNat : Int) then some (Out.done false) else workflowref52_Agree.l15 K p0 p1 k ((IntKind.i64.wrap (xt5_15h + 1)))) else none) else none) else some (Out.go ()))

def workflowref52_Agree (K : Nat) (p0 : api_Entry) (p1 : api_Entry) : Option Bool := (if p0.Epoch ≠ p1.Epoch then some false else (if (p0.Data.length : Int) ≠ (p1.Data.length : Int) then some false else (obind (workflowref52_Agree.l15 K p0 p1 K 0 : Option (Out Bool Unit)) (fun r => r) (fun _ => some true))))

theorem workflowref52_Agree.body {Γ : Ent} {K : Nat} {p0 : api_Entry} {p1 : api_Entry} {r : Bool} (h : workflowref52_Agree K p0 p1 = some r) : AWp V P 38 0 Γ (Try.f19.body.getD .skip) (Eng.Ends P V Try.f19 (.cv (.lit (.bool r)))) ⟨args0 0 [.agg [.lit (.int .i64 p0.Epoch), .ro Tag.t_uint8 p0.Data], .agg [.lit (.int .i64 p1.Epoch), .ro Tag.t_uint8 p1.Data]], []⟩ := by
  unfold workflowref52_Agree at h
  refine awp_seq ?_
  refine awp_region L 0 [] [] [2, 3] [0, 1] (cs := []) (S' := ⟨[(2, .cv (.ptr 0 0)), (3, .cv (.ptr 1 0))], [(0, .raw [.lit (.int .i64 p0.Epoch), .ro Tag.t_uint8 p0.Data]), (1, .raw [.lit (.int .i64 p1.Epoch), .ro Tag.t_uint8 p1.Data])]⟩) (by kernel_rfl) trivial ?_
  refine awp_seq ?_
  refine awp_seq ?_
  rcases ite_some h with ⟨c1, h⟩ | ⟨c1, h⟩
  · refine awp_region L 4 [(5, true)] [] [2, 3, 19] [0, 1] (cs := [(decide (p0.Epoch ≠ p1.Epoch)) = true]) (S' := ⟨[(2, .cv (.ptr 0 0)), (3, .cv (.ptr 1 0)), (19, .cv (.lit (.bool true)))], [(0, .raw [.lit (.int .i64 p0.Epoch), .ro Tag.t_uint8 p0.Data]), (1, .raw [.lit (.int .i64 p1.Epoch), .ro Tag.t_uint8 p1.Data])]⟩) (by kernel_rfl) (decide_eq_true c1) ?_
    refine awp_true (b := true) (by kernel_rfl) (rfl) ?_
    refine awp_seq ?_
    refine awp_region L 19 [] [] [4] [] (cs := []) (S' := ⟨[(4, .cv (.lit (.bool false)))], []⟩) (by kernel_rfl) trivial ?_
    refine awp_ret ?_
    have hr := Option.some.inj h
    subst hr
    exact ⟨.inr rfl, .cv (.lit (.bool false)), by kernel_rfl, by kernel_rfl, trivial, by kernel_rfl⟩
  · refine awp_region L 4 [(5, false)] [] [2, 3, 19] [0, 1] (cs := [(decide (p0.Epoch ≠ p1.Epoch)) = false]) (S' := ⟨[(2, .cv (.ptr 0 0)), (3, .cv (.ptr 1 0)), (19, .cv (.lit (.bool ((decide ((p0.Data.length : Int) ≠ (p1.Data.length : Int)))))))], [(0, .raw [.lit (.int .i64 p0.Epoch), .ro Tag.t_uint8 p0.Data]), (1, .raw [.lit (.int .i64 p1.Epoch), .ro Tag.t_uint8 p1.Data])]⟩) (by kernel_rfl) (decide_eq_false c1) ?_
    rcases ite_some h with ⟨c2, h⟩ | ⟨c2, h⟩
    · refine awp_true (b := (decide ((p0.Data.length : Int) ≠ (p1.Data.length : Int)))) (by kernel_rfl) (decide_eq_true c2) ?_
      refine awp_seq ?_
      refine awp_region L 19 [] [] [4] [] (cs := []) (S' := ⟨[(4, .cv (.lit (.bool false)))], []⟩) (by kernel_rfl) trivial ?_
      refine awp_ret ?_
      have hr := Option.some.inj h
      subst hr
      exact ⟨.inr rfl, .cv (.lit (.bool false)), by kernel_rfl, by kernel_rfl, trivial, by kernel_rfl⟩
    · refine awp_false (b := (decide ((p0.Data.length : Int) ≠ (p1.Data.length : Int)))) (by kernel_rfl) (decide_eq_false c2) ?_
      refine awp_skip [2, 3] [0, 1] (S' := ⟨[(2, .cv (.ptr 0 0)), (3, .cv (.ptr 1 0))], [(0, .raw [.lit (.int .i64 p0.Epoch), .ro Tag.t_uint8 p0.Data]), (1, .raw [.lit (.int .i64 p1.Epoch), .ro Tag.t_uint8 p1.Data])]⟩) (by kernel_rfl) ?_
      refine awp_seq ?_
      refine awp_seq ?_
      refine awp_region L 21 [] [] [2, 3, 5] [0, 1] (cs := []) (S' := ⟨[(2, .cv (.ptr 0 0)), (3, .cv (.ptr 1 0)), (5, .cv (.lit (.int .i64 0)))], [(0, .raw [.lit (.int .i64 p0.Epoch), .ro Tag.t_uint8 p0.Data]), (1, .raw [.lit (.int .i64 p1.Epoch), .ro Tag.t_uint8 p1.Data])]⟩) (by kernel_rfl) trivial ?_
      refine awp_block ?_
      refine awp_keep (ts := [2, 3, 5]) (ids := [0, 1]) (S' := ⟨[(2, .cv (.ptr 0 0)), (3, .cv (.ptr 1 0)), (5, .cv (.lit (.int .i64 0)))], [(0, .raw [.lit (.int .i64 p0.Epoch), .ro Tag.t_uint8 p0.Data]), (1, .raw [.lit (.int .i64 p1.Epoch), .ro Tag.t_uint8 p1.Data])]⟩) (by kernel_rfl) ?_
      obtain ⟨o1, hp1, h⟩ := obind_some h
      refine awp_mono (Q' := fun e S => (e = .exit 0 ∧ S = ⟨[], []⟩ ∧ Out.go () = o1) ∨ (e = .ret ∧ ∃ a, Out.done a = o1 ∧ Eng.Ends P V Try.f19 (.cv (.lit (.bool a))) .ret S)) (awp_loop (fun k S => ∃ xt5_15h : Int, S = ⟨[(2, .cv (.ptr 0 0)), (3, .cv (.ptr 1 0)), (5, .cv (.lit (.int .i64 xt5_15h)))], [(0, .raw [.lit (.int .i64 p0.Epoch), .ro Tag.t_uint8 p0.Data]), (1, .raw [.lit (.int .i64 p1.Epoch), .ro Tag.t_uint8 p1.Data])]⟩ ∧ workflowref52_Agree.l15 K p0 p1 k xt5_15h = some o1) ?_ ⟨_, rfl, hp1⟩) ?_
      · clear h hp1
        intro k S hS
        obtain ⟨xt5_15h, rfl, h⟩ := hS
        cases k with
        | zero => cases h
        | succ k =>
        unfold workflowref52_Agree.l15 at h
        refine awp_seq ?_
        refine awp_seq ?_
        refine awp_region L 23 [] [] [2, 3, 5, 24] [0, 1] (cs := []) (S' := ⟨[(2, .cv (.ptr 0 0)), (3, .cv (.ptr 1 0)), (5, .cv (.lit (.int .i64 xt5_15h))), (24, .cv (.lit (.bool ((decide (xt5_15h < (p0.Data.length : Int)))))))], [(0, .raw [.lit (.int .i64 p0.Epoch), .ro Tag.t_uint8 p0.Data]), (1, .raw [.lit (.int .i64 p1.Epoch), .ro Tag.t_uint8 p1.Data])]⟩) (by kernel_rfl) trivial ?_
        rcases ite_some h with ⟨c3, h⟩ | ⟨c3, h⟩
        · refine awp_true (b := (decide (xt5_15h < (p0.Data.length : Int)))) (by kernel_rfl) (decide_eq_true c3) ?_
          refine awp_skip [2, 3, 5] [0, 1] (S' := ⟨[(2, .cv (.ptr 0 0)), (3, .cv (.ptr 1 0)), (5, .cv (.lit (.int .i64 xt5_15h)))], [(0, .raw [.lit (.int .i64 p0.Epoch), .ro Tag.t_uint8 p0.Data]), (1, .raw [.lit (.int .i64 p1.Epoch), .ro Tag.t_uint8 p1.Data])]⟩) (by kernel_rfl) ?_
          refine awp_seq ?_
          refine awp_block ?_
          refine awp_seq ?_
          obtain ⟨g1, h⟩ := guard_some h
          obtain ⟨g2, h⟩ := guard_some h
          refine awp_draw L mixed 29 [] [] 11 [2, 3, 5, 37] [0, 1] (cs := [(0 : Int) ≤ xt5_15h, (xt5_15h : Int) < (p0.Data.length : Int), (0 : Int) ≤ xt5_15h, (xt5_15h : Int) < (p1.Data.length : Int)]) (S' := ⟨[(2, .cv (.ptr 0 0)), (3, .cv (.ptr 1 0)), (5, .cv (.lit (.int .i64 xt5_15h))), (37, .cv (.lit (.bool ((decide ((((p0.Data.getD (Int.toNat xt5_15h) (0 : UInt8))).toNat : Int) ≠ (((p1.Data.getD (Int.toNat xt5_15h) (0 : UInt8))).toNat : Int)))))))], [(0, .raw [.lit (.int .i64 p0.Epoch), .ro Tag.t_uint8 p0.Data]), (1, .raw [.lit (.int .i64 p1.Epoch), .ro Tag.t_uint8 p1.Data])]⟩) (by kernel_rfl) (And.intro g1.1 (And.intro g1.2 (And.intro g1.1 g2))) ?_
          rcases ite_some h with ⟨c4, h⟩ | ⟨c4, h⟩
          · refine awp_true (b := (decide ((((p0.Data.getD (Int.toNat xt5_15h) (0 : UInt8))).toNat : Int) ≠ (((p1.Data.getD (Int.toNat xt5_15h) (0 : UInt8))).toNat : Int)))) (by kernel_rfl) (decide_eq_true c4) ?_
            refine awp_seq ?_
            refine awp_region L 41 [] [] [4] [] (cs := []) (S' := ⟨[(4, .cv (.lit (.bool false)))], []⟩) (by kernel_rfl) trivial ?_
            refine awp_ret ?_
            have hr := Option.some.inj h
            subst hr
            exact .inr ⟨rfl, _, rfl, ⟨.inr rfl, .cv (.lit (.bool false)), by kernel_rfl, by kernel_rfl, trivial, by kernel_rfl⟩⟩
          · refine awp_false (b := (decide ((((p0.Data.getD (Int.toNat xt5_15h) (0 : UInt8))).toNat : Int) ≠ (((p1.Data.getD (Int.toNat xt5_15h) (0 : UInt8))).toNat : Int)))) (by kernel_rfl) (decide_eq_false c4) ?_
            refine awp_skip [2, 3, 5] [0, 1] (S' := ⟨[(2, .cv (.ptr 0 0)), (3, .cv (.ptr 1 0)), (5, .cv (.lit (.int .i64 xt5_15h)))], [(0, .raw [.lit (.int .i64 p0.Epoch), .ro Tag.t_uint8 p0.Data]), (1, .raw [.lit (.int .i64 p1.Epoch), .ro Tag.t_uint8 p1.Data])]⟩) (by kernel_rfl) ?_
            refine awp_region L 43 [] [] [2, 3, 5] [0, 1] (cs := []) (S' := ⟨[(2, .cv (.ptr 0 0)), (3, .cv (.ptr 1 0)), (5, .cv (.lit (.int .i64 ((IntKind.i64.wrap (xt5_15h + 1))))))], [(0, .raw [.lit (.int .i64 p0.Epoch), .ro Tag.t_uint8 p0.Data]), (1, .raw [.lit (.int .i64 p1.Epoch), .ro Tag.t_uint8 p1.Data])]⟩) (by kernel_rfl) trivial ?_
            exact ⟨k, Nat.lt_succ_self k, _, rfl, h⟩
        · refine awp_false (b := (decide (xt5_15h < (p0.Data.length : Int)))) (by kernel_rfl) (decide_eq_false c3) ?_
          refine awp_exit [] [] (S' := ⟨[], []⟩) (by kernel_rfl) ?_
          have hr := Option.some.inj h
          subst hr
          exact .inl ⟨rfl, rfl, rfl⟩
      · rintro e S (⟨rfl, rfl, rfl⟩ | ⟨rfl, a, rfl, hr⟩)
        · rcases h with ⟨_, e1, h⟩ | ⟨_, e1, h⟩
          · cases e1
          · have e2 := Out.go.inj e1
            subst e2
            refine awp_seq ?_
            refine awp_region L 47 [] [] [4] [] (cs := []) (S' := ⟨[(4, .cv (.lit (.bool true)))], []⟩) (by kernel_rfl) trivial ?_
            refine awp_ret ?_
            have hr := Option.some.inj h
            subst hr
            exact ⟨.inr rfl, .cv (.lit (.bool true)), by kernel_rfl, by kernel_rfl, trivial, by kernel_rfl⟩
        · rcases h with ⟨_, e1, h⟩ | ⟨_, e1, h⟩
          · have e2 := Out.done.inj e1
            subst e2
            subst h
            exact hr
          · cases e1

theorem workflowref52_Agree.ok {K : Nat} {p0 : api_Entry} {p1 : api_Entry} {r : Bool} (h : workflowref52_Agree K p0 p1 = some r) : PCall V P 19 [.agg [.lit (.int .i64 p0.Epoch), .ro Tag.t_uint8 p0.Data], .agg [.lit (.int .i64 p1.Epoch), .ro Tag.t_uint8 p1.Data]] (.cv (.lit (.bool r))) :=
  pcall_of (fn := Try.f19) (n := 38) (by kernel_rfl) (by kernel_rfl) (by kernel_rfl) rfl (by kernel_rfl) (by kernel_rfl) fun Γ => workflowref52_Agree.body h

def workflowref52_Common.l7 (K : Nat) (p0 : api_Replica) (p1 : api_Replica) : Nat → Int → Option Int
  | 0, _ => none
  | k + 1, xt5_7h => (if xt5_7h < (p0.Log.length : Int) then (if xt5_7h < (p1.Log.length : Int) then (if (0 : Int) ≤ xt5_7h ∧ (xt5_7h : Int) < (p0.Log.length : Int) then (if (xt5_7h : Int) < (p1.Log.length : Int) then (Option.bind (workflowref52_Agree K ((p0.Log.getD (Int.toNat xt5_7h) (⟨(0 : Int), ([] : List UInt8)⟩ : api_Entry))) ((p1.Log.getD (Int.toNat xt5_7h) (⟨(0 : Int), ([] : List UInt8)⟩ : api_Entry)))) (fun a1 => (if a1 = true then workflowref52_Common.l7 K p0 p1 k ((IntKind.i64.wrap (xt5_7h + 1))) else some xt5_7h))) else none) else none) else some xt5_7h) else some xt5_7h)

def workflowref52_Common (K : Nat) (p0 : api_Replica) (p1 : api_Replica) : Option Int := (Option.bind (workflowref52_Common.l7 K p0 p1 K 0 : Option Int) (fun xt5_7 => some xt5_7))

theorem workflowref52_Common.body {Γ : Ent} {K : Nat} {p0 : api_Replica} {p1 : api_Replica} {r : Int} (h : workflowref52_Common K p0 p1 = some r) : AWp V P 34 0 Γ (Try.f18.body.getD .skip) (Eng.Ends P V Try.f18 (.cv (.lit (.int .i64 r)))) ⟨args0 0 [.agg [.lit (.int .i64 p0.Epoch), .lit (.int .i64 p0.Vote), .lit (.int .i64 p0.Commit), .ro Tag.t_api_Entry p0.Log], .agg [.lit (.int .i64 p1.Epoch), .lit (.int .i64 p1.Vote), .lit (.int .i64 p1.Commit), .ro Tag.t_api_Entry p1.Log]], []⟩ := by
  unfold workflowref52_Common at h
  refine awp_seq ?_
  refine awp_region L 0 [] [] [2, 3] [0, 1] (cs := []) (S' := ⟨[(2, .cv (.ptr 0 0)), (3, .cv (.ptr 1 0))], [(0, .raw [.lit (.int .i64 p0.Epoch), .lit (.int .i64 p0.Vote), .lit (.int .i64 p0.Commit), .ro Tag.t_api_Entry p0.Log]), (1, .raw [.lit (.int .i64 p1.Epoch), .lit (.int .i64 p1.Vote), .lit (.int .i64 p1.Commit), .ro Tag.t_api_Entry p1.Log])]⟩) (by kernel_rfl) trivial ?_
  refine awp_seq ?_
  refine awp_region L 4 [] [] [2, 3, 5] [0, 1] (cs := []) (S' := ⟨[(2, .cv (.ptr 0 0)), (3, .cv (.ptr 1 0)), (5, .cv (.lit (.int .i64 0)))], [(0, .raw [.lit (.int .i64 p0.Epoch), .lit (.int .i64 p0.Vote), .lit (.int .i64 p0.Commit), .ro Tag.t_api_Entry p0.Log]), (1, .raw [.lit (.int .i64 p1.Epoch), .lit (.int .i64 p1.Vote), .lit (.int .i64 p1.Commit), .ro Tag.t_api_Entry p1.Log])]⟩) (by kernel_rfl) trivial ?_
  refine awp_seq ?_
  refine awp_block ?_
  refine awp_keep (ts := [2, 3, 5]) (ids := [0, 1]) (S' := ⟨[(2, .cv (.ptr 0 0)), (3, .cv (.ptr 1 0)), (5, .cv (.lit (.int .i64 0)))], [(0, .raw [.lit (.int .i64 p0.Epoch), .lit (.int .i64 p0.Vote), .lit (.int .i64 p0.Commit), .ro Tag.t_api_Entry p0.Log]), (1, .raw [.lit (.int .i64 p1.Epoch), .lit (.int .i64 p1.Vote), .lit (.int .i64 p1.Commit), .ro Tag.t_api_Entry p1.Log])]⟩) (by kernel_rfl) ?_
  obtain ⟨o1, hp1, h⟩ := bind_some h
  refine awp_mono (Q' := fun e S => (e = .exit 0 ∧ ∃ xt5_7 : Int, S = ⟨[(5, .cv (.lit (.int .i64 xt5_7)))], []⟩ ∧ xt5_7 = o1)) (awp_loop (fun k S => ∃ xt5_7h : Int, S = ⟨[(2, .cv (.ptr 0 0)), (3, .cv (.ptr 1 0)), (5, .cv (.lit (.int .i64 xt5_7h)))], [(0, .raw [.lit (.int .i64 p0.Epoch), .lit (.int .i64 p0.Vote), .lit (.int .i64 p0.Commit), .ro Tag.t_api_Entry p0.Log]), (1, .raw [.lit (.int .i64 p1.Epoch), .lit (.int .i64 p1.Vote), .lit (.int .i64 p1.Commit), .ro Tag.t_api_Entry p1.Log])]⟩ ∧ workflowref52_Common.l7 K p0 p1 k xt5_7h = some o1) ?_ ⟨_, rfl, hp1⟩) ?_
  · clear h hp1
    intro k S hS
    obtain ⟨xt5_7h, rfl, h⟩ := hS
    cases k with
    | zero => cases h
    | succ k =>
    unfold workflowref52_Common.l7 at h
    refine awp_seq ?_
    refine awp_seq ?_
    rcases ite_some h with ⟨c1, h⟩ | ⟨c1, h⟩
    · rcases ite_some h with ⟨c2, h⟩ | ⟨c2, h⟩
      · obtain ⟨g1, h⟩ := guard_some h
        obtain ⟨g2, h⟩ := guard_some h
        obtain ⟨a1, h1, h⟩ := bind_some h
        refine awp_draw L mixed 6 [(5, true), (12, true)] [(23, .cv (.lit (.bool a1)))] 25 [2, 3, 5, 30] [0, 1] (cs := [(decide (xt5_7h < (p0.Log.length : Int))) = true, (decide (xt5_7h < (p1.Log.length : Int))) = true, (0 : Int) ≤ xt5_7h, (xt5_7h : Int) < (p0.Log.length : Int), (0 : Int) ≤ xt5_7h, (xt5_7h : Int) < (p1.Log.length : Int), PCall V P 19 [.agg [.lit (.int .i64 (((p0.Log.getD (Int.toNat xt5_7h) (⟨(0 : Int), ([] : List UInt8)⟩ : api_Entry))).Epoch)), .ro Tag.t_uint8 (((p0.Log.getD (Int.toNat xt5_7h) (⟨(0 : Int), ([] : List UInt8)⟩ : api_Entry))).Data)], .agg [.lit (.int .i64 (((p1.Log.getD (Int.toNat xt5_7h) (⟨(0 : Int), ([] : List UInt8)⟩ : api_Entry))).Epoch)), .ro Tag.t_uint8 (((p1.Log.getD (Int.toNat xt5_7h) (⟨(0 : Int), ([] : List UInt8)⟩ : api_Entry))).Data)]] (.cv (.lit (.bool a1))), True]) (S' := ⟨[(2, .cv (.ptr 0 0)), (3, .cv (.ptr 1 0)), (5, .cv (.lit (.int .i64 xt5_7h))), (30, .cv (.lit (.bool a1)))], [(0, .raw [.lit (.int .i64 p0.Epoch), .lit (.int .i64 p0.Vote), .lit (.int .i64 p0.Commit), .ro Tag.t_api_Entry p0.Log]), (1, .raw [.lit (.int .i64 p1.Epoch), .lit (.int .i64 p1.Vote), .lit (.int .i64 p1.Commit), .ro Tag.t_api_Entry p1.Log])]⟩) (by kernel_rfl) (And.intro (decide_eq_true c1) (And.intro (decide_eq_true c2) (And.intro g1.1 (And.intro g1.2 (And.intro g1.1 (And.intro g2 (And.intro (workflowref52_Agree.ok h1) trivial))))))) ?_
        rcases ite_some h with ⟨c3, h⟩ | ⟨c3, h⟩
        · refine awp_true (b := a1) (by kernel_rfl) (c3) ?_
          refine awp_skip [2, 3, 5] [0, 1] (S' := ⟨[(2, .cv (.ptr 0 0)), (3, .cv (.ptr 1 0)), (5, .cv (.lit (.int .i64 xt5_7h)))], [(0, .raw [.lit (.int .i64 p0.Epoch), .lit (.int .i64 p0.Vote), .lit (.int .i64 p0.Commit), .ro Tag.t_api_Entry p0.Log]), (1, .raw [.lit (.int .i64 p1.Epoch), .lit (.int .i64 p1.Vote), .lit (.int .i64 p1.Commit), .ro Tag.t_api_Entry p1.Log])]⟩) (by kernel_rfl) ?_
          refine awp_block ?_
          refine awp_region L 32 [] [] [2, 3, 5] [0, 1] (cs := []) (S' := ⟨[(2, .cv (.ptr 0 0)), (3, .cv (.ptr 1 0)), (5, .cv (.lit (.int .i64 ((IntKind.i64.wrap (xt5_7h + 1))))))], [(0, .raw [.lit (.int .i64 p0.Epoch), .lit (.int .i64 p0.Vote), .lit (.int .i64 p0.Commit), .ro Tag.t_api_Entry p0.Log]), (1, .raw [.lit (.int .i64 p1.Epoch), .lit (.int .i64 p1.Vote), .lit (.int .i64 p1.Commit), .ro Tag.t_api_Entry p1.Log])]⟩) (by kernel_rfl) trivial ?_
          exact ⟨k, Nat.lt_succ_self k, _, rfl, h⟩
        · refine awp_false (b := a1) (by kernel_rfl) (eq_false_of_ne_true c3) ?_
          refine awp_exit [5] [] (S' := ⟨[(5, .cv (.lit (.int .i64 xt5_7h)))], []⟩) (by kernel_rfl) ?_
          have hr := Option.some.inj h
          subst hr
          exact ⟨rfl, _, rfl, rfl⟩
      · refine awp_draw L mixed 6 [(5, true), (12, false)] [] 25 [2, 3, 5, 30] [0, 1] (cs := [(decide (xt5_7h < (p0.Log.length : Int))) = true, (decide (xt5_7h < (p1.Log.length : Int))) = false]) (S' := ⟨[(2, .cv (.ptr 0 0)), (3, .cv (.ptr 1 0)), (5, .cv (.lit (.int .i64 xt5_7h))), (30, .cv (.lit (.bool false)))], [(0, .raw [.lit (.int .i64 p0.Epoch), .lit (.int .i64 p0.Vote), .lit (.int .i64 p0.Commit), .ro Tag.t_api_Entry p0.Log]), (1, .raw [.lit (.int .i64 p1.Epoch), .lit (.int .i64 p1.Vote), .lit (.int .i64 p1.Commit), .ro Tag.t_api_Entry p1.Log])]⟩) (by kernel_rfl) (And.intro (decide_eq_true c1) (decide_eq_false c2)) ?_
        refine awp_false (b := false) (by kernel_rfl) (rfl) ?_
        refine awp_exit [5] [] (S' := ⟨[(5, .cv (.lit (.int .i64 xt5_7h)))], []⟩) (by kernel_rfl) ?_
        have hr := Option.some.inj h
        subst hr
        exact ⟨rfl, _, rfl, rfl⟩
    · refine awp_draw L mixed 6 [(5, false)] [] 25 [2, 3, 5, 30] [0, 1] (cs := [(decide (xt5_7h < (p0.Log.length : Int))) = false]) (S' := ⟨[(2, .cv (.ptr 0 0)), (3, .cv (.ptr 1 0)), (5, .cv (.lit (.int .i64 xt5_7h))), (30, .cv (.lit (.bool false)))], [(0, .raw [.lit (.int .i64 p0.Epoch), .lit (.int .i64 p0.Vote), .lit (.int .i64 p0.Commit), .ro Tag.t_api_Entry p0.Log]), (1, .raw [.lit (.int .i64 p1.Epoch), .lit (.int .i64 p1.Vote), .lit (.int .i64 p1.Commit), .ro Tag.t_api_Entry p1.Log])]⟩) (by kernel_rfl) (decide_eq_false c1) ?_
      refine awp_false (b := false) (by kernel_rfl) (rfl) ?_
      refine awp_exit [5] [] (S' := ⟨[(5, .cv (.lit (.int .i64 xt5_7h)))], []⟩) (by kernel_rfl) ?_
      have hr := Option.some.inj h
      subst hr
      exact ⟨rfl, _, rfl, rfl⟩
  · rintro e S ⟨rfl, xt5_7, rfl, rfl⟩
    refine awp_seq ?_
    refine awp_region L 36 [] [] [4] [] (cs := []) (S' := ⟨[(4, .cv (.lit (.int .i64 xt5_7)))], []⟩) (by kernel_rfl) trivial ?_
    refine awp_ret ?_
    have hr := Option.some.inj h
    subst hr
    exact ⟨.inr rfl, .cv (.lit (.int .i64 xt5_7)), by kernel_rfl, by kernel_rfl, trivial, by kernel_rfl⟩

theorem workflowref52_Common.ok {K : Nat} {p0 : api_Replica} {p1 : api_Replica} {r : Int} (h : workflowref52_Common K p0 p1 = some r) : PCall V P 18 [.agg [.lit (.int .i64 p0.Epoch), .lit (.int .i64 p0.Vote), .lit (.int .i64 p0.Commit), .ro Tag.t_api_Entry p0.Log], .agg [.lit (.int .i64 p1.Epoch), .lit (.int .i64 p1.Vote), .lit (.int .i64 p1.Commit), .ro Tag.t_api_Entry p1.Log]] (.cv (.lit (.int .i64 r))) :=
  pcall_of (fn := Try.f18) (n := 34) (by kernel_rfl) (by kernel_rfl) (by kernel_rfl) rfl (by kernel_rfl) (by kernel_rfl) fun Γ => workflowref52_Common.body h

def workflowref52_Same (K : Nat) (p0 : api_Replica) (p1 : api_Replica) : Option Bool := (if p0.Epoch = p1.Epoch then (if p0.Vote = p1.Vote then (if p0.Commit = p1.Commit then (if (p0.Log.length : Int) = (p1.Log.length : Int) then (Option.bind (workflowref52_Common K p0 p1) (fun a1 => some ((decide (a1 = (p0.Log.length : Int)))))) else some false) else some false) else some false) else some false)

theorem workflowref52_Same.body {Γ : Ent} {K : Nat} {p0 : api_Replica} {p1 : api_Replica} {r : Bool} (h : workflowref52_Same K p0 p1 = some r) : AWp V P 42 0 Γ (Try.f16.body.getD .skip) (Eng.Ends P V Try.f16 (.cv (.lit (.bool r)))) ⟨args0 0 [.agg [.lit (.int .i64 p0.Epoch), .lit (.int .i64 p0.Vote), .lit (.int .i64 p0.Commit), .ro Tag.t_api_Entry p0.Log], .agg [.lit (.int .i64 p1.Epoch), .lit (.int .i64 p1.Vote), .lit (.int .i64 p1.Commit), .ro Tag.t_api_Entry p1.Log]], []⟩ := by
  unfold workflowref52_Same at h
  refine awp_seq ?_
  refine awp_region L 0 [] [] [2, 3] [0, 1] (cs := []) (S' := ⟨[(2, .cv (.ptr 0 0)), (3, .cv (.ptr 1 0))], [(0, .raw [.lit (.int .i64 p0.Epoch), .lit (.int .i64 p0.Vote), .lit (.int .i64 p0.Commit), .ro Tag.t_api_Entry p0.Log]), (1, .raw [.lit (.int .i64 p1.Epoch), .lit (.int .i64 p1.Vote), .lit (.int .i64 p1.Commit), .ro Tag.t_api_Entry p1.Log])]⟩) (by kernel_rfl) trivial ?_
  refine awp_seq ?_
  rcases ite_some h with ⟨c1, h⟩ | ⟨c1, h⟩
  · rcases ite_some h with ⟨c2, h⟩ | ⟨c2, h⟩
    · rcases ite_some h with ⟨c3, h⟩ | ⟨c3, h⟩
      · rcases ite_some h with ⟨c4, h⟩ | ⟨c4, h⟩
        · obtain ⟨a1, h1, h⟩ := bind_some h
          refine awp_draw L mixed 4 [(5, true), (12, true), (19, true), (28, true)] [(31, .cv (.lit (.int .i64 a1)))] 38 [4] [] (cs := [(decide (p0.Epoch = p1.Epoch)) = true, (decide (p0.Vote = p1.Vote)) = true, (decide (p0.Commit = p1.Commit)) = true, (decide ((p0.Log.length : Int) = (p1.Log.length : Int))) = true, PCall V P 18 [.agg [.lit (.int .i64 p0.Epoch), .lit (.int .i64 p0.Vote), .lit (.int .i64 p0.Commit), .ro Tag.t_api_Entry p0.Log], .agg [.lit (.int .i64 p1.Epoch), .lit (.int .i64 p1.Vote), .lit (.int .i64 p1.Commit), .ro Tag.t_api_Entry p1.Log]] (.cv (.lit (.int .i64 a1))), True]) (S' := ⟨[(4, .cv (.lit (.bool ((decide (a1 = (p0.Log.length : Int)))))))], []⟩) (by kernel_rfl) (And.intro (decide_eq_true c1) (And.intro (decide_eq_true c2) (And.intro (decide_eq_true c3) (And.intro (decide_eq_true c4) (And.intro (workflowref52_Common.ok h1) trivial))))) ?_
          refine awp_ret ?_
          have hr := Option.some.inj h
          subst hr
          exact ⟨.inr rfl, .cv (.lit (.bool ((decide (a1 = (p0.Log.length : Int)))))), by kernel_rfl, by kernel_rfl, trivial, by kernel_rfl⟩
        · refine awp_draw L mixed 4 [(5, true), (12, true), (19, true), (28, false)] [] 38 [4] [] (cs := [(decide (p0.Epoch = p1.Epoch)) = true, (decide (p0.Vote = p1.Vote)) = true, (decide (p0.Commit = p1.Commit)) = true, (decide ((p0.Log.length : Int) = (p1.Log.length : Int))) = false]) (S' := ⟨[(4, .cv (.lit (.bool false)))], []⟩) (by kernel_rfl) (And.intro (decide_eq_true c1) (And.intro (decide_eq_true c2) (And.intro (decide_eq_true c3) (decide_eq_false c4)))) ?_
          refine awp_ret ?_
          have hr := Option.some.inj h
          subst hr
          exact ⟨.inr rfl, .cv (.lit (.bool false)), by kernel_rfl, by kernel_rfl, trivial, by kernel_rfl⟩
      · refine awp_draw L mixed 4 [(5, true), (12, true), (19, false)] [] 38 [4] [] (cs := [(decide (p0.Epoch = p1.Epoch)) = true, (decide (p0.Vote = p1.Vote)) = true, (decide (p0.Commit = p1.Commit)) = false]) (S' := ⟨[(4, .cv (.lit (.bool false)))], []⟩) (by kernel_rfl) (And.intro (decide_eq_true c1) (And.intro (decide_eq_true c2) (decide_eq_false c3))) ?_
        refine awp_ret ?_
        have hr := Option.some.inj h
        subst hr
        exact ⟨.inr rfl, .cv (.lit (.bool false)), by kernel_rfl, by kernel_rfl, trivial, by kernel_rfl⟩
    · refine awp_draw L mixed 4 [(5, true), (12, false)] [] 38 [4] [] (cs := [(decide (p0.Epoch = p1.Epoch)) = true, (decide (p0.Vote = p1.Vote)) = false]) (S' := ⟨[(4, .cv (.lit (.bool false)))], []⟩) (by kernel_rfl) (And.intro (decide_eq_true c1) (decide_eq_false c2)) ?_
      refine awp_ret ?_
      have hr := Option.some.inj h
      subst hr
      exact ⟨.inr rfl, .cv (.lit (.bool false)), by kernel_rfl, by kernel_rfl, trivial, by kernel_rfl⟩
  · refine awp_draw L mixed 4 [(5, false)] [] 38 [4] [] (cs := [(decide (p0.Epoch = p1.Epoch)) = false]) (S' := ⟨[(4, .cv (.lit (.bool false)))], []⟩) (by kernel_rfl) (decide_eq_false c1) ?_
    refine awp_ret ?_
    have hr := Option.some.inj h
    subst hr
    exact ⟨.inr rfl, .cv (.lit (.bool false)), by kernel_rfl, by kernel_rfl, trivial, by kernel_rfl⟩

theorem workflowref52_Same.ok {K : Nat} {p0 : api_Replica} {p1 : api_Replica} {r : Bool} (h : workflowref52_Same K p0 p1 = some r) : PCall V P 16 [.agg [.lit (.int .i64 p0.Epoch), .lit (.int .i64 p0.Vote), .lit (.int .i64 p0.Commit), .ro Tag.t_api_Entry p0.Log], .agg [.lit (.int .i64 p1.Epoch), .lit (.int .i64 p1.Vote), .lit (.int .i64 p1.Commit), .ro Tag.t_api_Entry p1.Log]] (.cv (.lit (.bool r))) :=
  pcall_of (fn := Try.f16) (n := 42) (by kernel_rfl) (by kernel_rfl) (by kernel_rfl) rfl (by kernel_rfl) (by kernel_rfl) fun Γ => workflowref52_Same.body h

def workflowlaw54_BallotAsk (K : Nat) (p0 : api_Replica) (p1 : Int) (p2 : Int) (p3 : Int) (p4 : Int) : Option Bool := (Option.bind (workflowlaw54_large K p0) (fun a1 => (if a1 = true then (Option.bind (workflowlaw54_works K) (fun a2 => some a2)) else (Option.bind (ballot_Ask K p0 p1 p2 p3 p4) (fun (a3_0, a3_1, a3_2) => (Option.bind (workflowref54_Ask K p0 p1 p2 p3 p4) (fun (a4_0, a4_1, a4_2) => (if (a3_1 == a4_1) = true then (if a3_2 = a4_2 then (Option.bind (workflowref52_Same K a3_0 a4_0) (fun a5 => (if a5 = true then (Option.bind (ballot_Observe K p0 p1) (fun a6 => (Option.bind (workflowref54_Observe K p0 p1) (fun a7 => (Option.bind (workflowref52_Same K a6 a7) (fun a8 => (if a8 = true then (Option.bind (workflowlaw54_works K) (fun a9 => some a9)) else some false))))))) else some false))) else some false) else some false))))))))

theorem workflowlaw54_BallotAsk.body {Γ : Ent} {K : Nat} {p0 : api_Replica} {p1 : Int} {p2 : Int} {p3 : Int} {p4 : Int} {r : Bool} (h : workflowlaw54_BallotAsk K p0 p1 p2 p3 p4 = some r) : AWp V P 65 0 Γ (Try.f8.body.getD .skip) (Eng.Ends P V Try.f8 (.cv (.lit (.bool r)))) ⟨args0 0 [.agg [.lit (.int .i64 p0.Epoch), .lit (.int .i64 p0.Vote), .lit (.int .i64 p0.Commit), .ro Tag.t_api_Entry p0.Log], .cv (.lit (.int .i64 p1)), .cv (.lit (.int .i64 p2)), .cv (.lit (.int .i64 p3)), .cv (.lit (.int .i64 p4))], []⟩ := by
  unfold workflowlaw54_BallotAsk at h
  refine awp_seq ?_
  refine awp_region L 0 [] [] [1, 2, 3, 4, 5] [0] (cs := []) (S' := ⟨[(1, .cv (.lit (.int .i64 p1))), (2, .cv (.lit (.int .i64 p2))), (3, .cv (.lit (.int .i64 p3))), (4, .cv (.lit (.int .i64 p4))), (5, .cv (.ptr 0 0))], [(0, .raw [.lit (.int .i64 p0.Epoch), .lit (.int .i64 p0.Vote), .lit (.int .i64 p0.Commit), .ro Tag.t_api_Entry p0.Log])]⟩) (by kernel_rfl) trivial ?_
  refine awp_seq ?_
  refine awp_seq ?_
  obtain ⟨a1, h1, h⟩ := bind_some h
  refine awp_region L 3 [] [(1, .cv (.lit (.bool a1)))] [1, 2, 3, 4, 5, 18] [0] (cs := [PCall V P 33 [.agg [.lit (.int .i64 p0.Epoch), .lit (.int .i64 p0.Vote), .lit (.int .i64 p0.Commit), .ro Tag.t_api_Entry p0.Log]] (.cv (.lit (.bool a1))), True]) (S' := ⟨[(1, .cv (.lit (.int .i64 p1))), (2, .cv (.lit (.int .i64 p2))), (3, .cv (.lit (.int .i64 p3))), (4, .cv (.lit (.int .i64 p4))), (5, .cv (.ptr 0 0)), (18, .cv (.lit (.bool a1)))], [(0, .raw [.lit (.int .i64 p0.Epoch), .lit (.int .i64 p0.Vote), .lit (.int .i64 p0.Commit), .ro Tag.t_api_Entry p0.Log])]⟩) (by kernel_rfl) (And.intro (workflowlaw54_large.ok h1) trivial) ?_
  rcases ite_some h with ⟨c1, h⟩ | ⟨c1, h⟩
  · refine awp_true (b := a1) (by kernel_rfl) (c1) ?_
    refine awp_seq ?_
    obtain ⟨a2, h2, h⟩ := bind_some h
    refine awp_region L 6 [] [(0, .cv (.lit (.bool a2)))] [10] [] (cs := [PCall V P 32 [] (.cv (.lit (.bool a2))), True]) (S' := ⟨[(10, .cv (.lit (.bool a2)))], []⟩) (by kernel_rfl) (And.intro (workflowlaw54_works.ok h2) trivial) ?_
    refine awp_ret ?_
    have hr := Option.some.inj h
    subst hr
    exact ⟨.inr rfl, .cv (.lit (.bool a2)), by kernel_rfl, by kernel_rfl, trivial, by kernel_rfl⟩
  · refine awp_false (b := a1) (by kernel_rfl) (eq_false_of_ne_true c1) ?_
    refine awp_skip [1, 2, 3, 4, 5] [0] (S' := ⟨[(1, .cv (.lit (.int .i64 p1))), (2, .cv (.lit (.int .i64 p2))), (3, .cv (.lit (.int .i64 p3))), (4, .cv (.lit (.int .i64 p4))), (5, .cv (.ptr 0 0))], [(0, .raw [.lit (.int .i64 p0.Epoch), .lit (.int .i64 p0.Vote), .lit (.int .i64 p0.Commit), .ro Tag.t_api_Entry p0.Log])]⟩) (by kernel_rfl) ?_
    refine awp_seq ?_
    obtain ⟨⟨a3_0, a3_1, a3_2⟩, h3, h⟩ := bind_some h
    dsimp only at h
    refine awp_region L 9 [] [(5, .tup [.agg [.lit (.int .i64 a3_0.Epoch), .lit (.int .i64 a3_0.Vote), .lit (.int .i64 a3_0.Commit), .ro Tag.t_api_Entry a3_0.Log], .cv (.lit (.bool a3_1)), .cv (.lit (.int .i64 a3_2))])] [1, 2, 3, 4, 5, 11, 12, 13] [0, 19] (cs := [PCall V P 34 [.agg [.lit (.int .i64 p0.Epoch), .lit (.int .i64 p0.Vote), .lit (.int .i64 p0.Commit), .ro Tag.t_api_Entry p0.Log], .cv (.lit (.int .i64 p1)), .cv (.lit (.int .i64 p2)), .cv (.lit (.int .i64 p3)), .cv (.lit (.int .i64 p4))] (.tup [.agg [.lit (.int .i64 a3_0.Epoch), .lit (.int .i64 a3_0.Vote), .lit (.int .i64 a3_0.Commit), .ro Tag.t_api_Entry a3_0.Log], .cv (.lit (.bool a3_1)), .cv (.lit (.int .i64 a3_2))]), True]) (S' := ⟨[(1, .cv (.lit (.int .i64 p1))), (2, .cv (.lit (.int .i64 p2))), (3, .cv (.lit (.int .i64 p3))), (4, .cv (.lit (.int .i64 p4))), (5, .cv (.ptr 0 0)), (11, .cv (.ptr 19 0)), (12, .cv (.lit (.bool a3_1))), (13, .cv (.lit (.int .i64 a3_2)))], [(0, .raw [.lit (.int .i64 p0.Epoch), .lit (.int .i64 p0.Vote), .lit (.int .i64 p0.Commit), .ro Tag.t_api_Entry p0.Log]), (19, .raw [.lit (.int .i64 a3_0.Epoch), .lit (.int .i64 a3_0.Vote), .lit (.int .i64 a3_0.Commit), .ro Tag.t_api_Entry a3_0.Log])]⟩) (by kernel_rfl) (And.intro (ballot_Ask.ok h3) trivial) ?_
    refine awp_seq ?_
    obtain ⟨⟨a4_0, a4_1, a4_2⟩, h4, h⟩ := bind_some h
    dsimp only at h
    refine awp_region L 24 [] [(5, .tup [.agg [.lit (.int .i64 a4_0.Epoch), .lit (.int .i64 a4_0.Vote), .lit (.int .i64 a4_0.Commit), .ro Tag.t_api_Entry a4_0.Log], .cv (.lit (.bool a4_1)), .cv (.lit (.int .i64 a4_2))])] [1, 5, 11, 12, 13, 14, 15, 16] [0, 19, 34] (cs := [PCall V P 35 [.agg [.lit (.int .i64 p0.Epoch), .lit (.int .i64 p0.Vote), .lit (.int .i64 p0.Commit), .ro Tag.t_api_Entry p0.Log], .cv (.lit (.int .i64 p1)), .cv (.lit (.int .i64 p2)), .cv (.lit (.int .i64 p3)), .cv (.lit (.int .i64 p4))] (.tup [.agg [.lit (.int .i64 a4_0.Epoch), .lit (.int .i64 a4_0.Vote), .lit (.int .i64 a4_0.Commit), .ro Tag.t_api_Entry a4_0.Log], .cv (.lit (.bool a4_1)), .cv (.lit (.int .i64 a4_2))]), True]) (S' := ⟨[(1, .cv (.lit (.int .i64 p1))), (5, .cv (.ptr 0 0)), (11, .cv (.ptr 19 0)), (12, .cv (.lit (.bool a3_1))), (13, .cv (.lit (.int .i64 a3_2))), (14, .cv (.ptr 34 0)), (15, .cv (.lit (.bool a4_1))), (16, .cv (.lit (.int .i64 a4_2)))], [(0, .raw [.lit (.int .i64 p0.Epoch), .lit (.int .i64 p0.Vote), .lit (.int .i64 p0.Commit), .ro Tag.t_api_Entry p0.Log]), (19, .raw [.lit (.int .i64 a3_0.Epoch), .lit (.int .i64 a3_0.Vote), .lit (.int .i64 a3_0.Commit), .ro Tag.t_api_Entry a3_0.Log]), (34, .raw [.lit (.int .i64 a4_0.Epoch), .lit (.int .i64 a4_0.Vote), .lit (.int .i64 a4_0.Commit), .ro Tag.t_api_Entry a4_0.Log])]⟩) (by kernel_rfl) (And.intro (workflowref54_Ask.ok h4) trivial) ?_
    refine awp_seq ?_
    rcases ite_some h with ⟨c2, h⟩ | ⟨c2, h⟩
    · rcases ite_some h with ⟨c3, h⟩ | ⟨c3, h⟩
      · obtain ⟨a5, h5, h⟩ := bind_some h
        rcases ite_some h with ⟨c4, h⟩ | ⟨c4, h⟩
        · obtain ⟨a6, h6, h⟩ := bind_some h
          obtain ⟨a7, h7, h⟩ := bind_some h
          obtain ⟨a8, h8, h⟩ := bind_some h
          rcases ite_some h with ⟨c5, h⟩ | ⟨c5, h⟩
          · obtain ⟨a9, h9, h⟩ := bind_some h
            refine awp_draw L mixed 39 [(3, true), (8, true), (13, true), (22, true)] [(11, .cv (.lit (.bool a5))), (16, .agg [.lit (.int .i64 a6.Epoch), .lit (.int .i64 a6.Vote), .lit (.int .i64 a6.Commit), .ro Tag.t_api_Entry a6.Log]), (19, .agg [.lit (.int .i64 a7.Epoch), .lit (.int .i64 a7.Vote), .lit (.int .i64 a7.Commit), .ro Tag.t_api_Entry a7.Log]), (20, .cv (.lit (.bool a8))), (23, .cv (.lit (.bool a9)))] 26 [10] [] (cs := [(a3_1 == a4_1) = true, (decide (a3_2 = a4_2)) = true, PCall V P 16 [.agg [.lit (.int .i64 a3_0.Epoch), .lit (.int .i64 a3_0.Vote), .lit (.int .i64 a3_0.Commit), .ro Tag.t_api_Entry a3_0.Log], .agg [.lit (.int .i64 a4_0.Epoch), .lit (.int .i64 a4_0.Vote), .lit (.int .i64 a4_0.Commit), .ro Tag.t_api_Entry a4_0.Log]] (.cv (.lit (.bool a5))), True, a5 = true, PCall V P 36 [.agg [.lit (.int .i64 p0.Epoch), .lit (.int .i64 p0.Vote), .lit (.int .i64 p0.Commit), .ro Tag.t_api_Entry p0.Log], .cv (.lit (.int .i64 p1))] (.agg [.lit (.int .i64 a6.Epoch), .lit (.int .i64 a6.Vote), .lit (.int .i64 a6.Commit), .ro Tag.t_api_Entry a6.Log]), True, PCall V P 37 [.agg [.lit (.int .i64 p0.Epoch), .lit (.int .i64 p0.Vote), .lit (.int .i64 p0.Commit), .ro Tag.t_api_Entry p0.Log], .cv (.lit (.int .i64 p1))] (.agg [.lit (.int .i64 a7.Epoch), .lit (.int .i64 a7.Vote), .lit (.int .i64 a7.Commit), .ro Tag.t_api_Entry a7.Log]), True, PCall V P 16 [.agg [.lit (.int .i64 a6.Epoch), .lit (.int .i64 a6.Vote), .lit (.int .i64 a6.Commit), .ro Tag.t_api_Entry a6.Log], .agg [.lit (.int .i64 a7.Epoch), .lit (.int .i64 a7.Vote), .lit (.int .i64 a7.Commit), .ro Tag.t_api_Entry a7.Log]] (.cv (.lit (.bool a8))), True, a8 = true, PCall V P 32 [] (.cv (.lit (.bool a9))), True]) (S' := ⟨[(10, .cv (.lit (.bool a9)))], []⟩) (by kernel_rfl) (And.intro c2 (And.intro (decide_eq_true c3) (And.intro (workflowref52_Same.ok h5) (And.intro trivial (And.intro c4 (And.intro (ballot_Observe.ok h6) (And.intro trivial (And.intro (workflowref54_Observe.ok h7) (And.intro trivial (And.intro (workflowref52_Same.ok h8) (And.intro trivial (And.intro c5 (And.intro (workflowlaw54_works.ok h9) trivial))))))))))))) ?_
            refine awp_ret ?_
            have hr := Option.some.inj h
            subst hr
            exact ⟨.inr rfl, .cv (.lit (.bool a9)), by kernel_rfl, by kernel_rfl, trivial, by kernel_rfl⟩
          · refine awp_draw L mixed 39 [(3, true), (8, true), (13, true), (22, false)] [(11, .cv (.lit (.bool a5))), (16, .agg [.lit (.int .i64 a6.Epoch), .lit (.int .i64 a6.Vote), .lit (.int .i64 a6.Commit), .ro Tag.t_api_Entry a6.Log]), (19, .agg [.lit (.int .i64 a7.Epoch), .lit (.int .i64 a7.Vote), .lit (.int .i64 a7.Commit), .ro Tag.t_api_Entry a7.Log]), (20, .cv (.lit (.bool a8)))] 26 [10] [] (cs := [(a3_1 == a4_1) = true, (decide (a3_2 = a4_2)) = true, PCall V P 16 [.agg [.lit (.int .i64 a3_0.Epoch), .lit (.int .i64 a3_0.Vote), .lit (.int .i64 a3_0.Commit), .ro Tag.t_api_Entry a3_0.Log], .agg [.lit (.int .i64 a4_0.Epoch), .lit (.int .i64 a4_0.Vote), .lit (.int .i64 a4_0.Commit), .ro Tag.t_api_Entry a4_0.Log]] (.cv (.lit (.bool a5))), True, a5 = true, PCall V P 36 [.agg [.lit (.int .i64 p0.Epoch), .lit (.int .i64 p0.Vote), .lit (.int .i64 p0.Commit), .ro Tag.t_api_Entry p0.Log], .cv (.lit (.int .i64 p1))] (.agg [.lit (.int .i64 a6.Epoch), .lit (.int .i64 a6.Vote), .lit (.int .i64 a6.Commit), .ro Tag.t_api_Entry a6.Log]), True, PCall V P 37 [.agg [.lit (.int .i64 p0.Epoch), .lit (.int .i64 p0.Vote), .lit (.int .i64 p0.Commit), .ro Tag.t_api_Entry p0.Log], .cv (.lit (.int .i64 p1))] (.agg [.lit (.int .i64 a7.Epoch), .lit (.int .i64 a7.Vote), .lit (.int .i64 a7.Commit), .ro Tag.t_api_Entry a7.Log]), True, PCall V P 16 [.agg [.lit (.int .i64 a6.Epoch), .lit (.int .i64 a6.Vote), .lit (.int .i64 a6.Commit), .ro Tag.t_api_Entry a6.Log], .agg [.lit (.int .i64 a7.Epoch), .lit (.int .i64 a7.Vote), .lit (.int .i64 a7.Commit), .ro Tag.t_api_Entry a7.Log]] (.cv (.lit (.bool a8))), True, a8 = false]) (S' := ⟨[(10, .cv (.lit (.bool false)))], []⟩) (by kernel_rfl) (And.intro c2 (And.intro (decide_eq_true c3) (And.intro (workflowref52_Same.ok h5) (And.intro trivial (And.intro c4 (And.intro (ballot_Observe.ok h6) (And.intro trivial (And.intro (workflowref54_Observe.ok h7) (And.intro trivial (And.intro (workflowref52_Same.ok h8) (And.intro trivial (eq_false_of_ne_true c5)))))))))))) ?_
            refine awp_ret ?_
            have hr := Option.some.inj h
            subst hr
            exact ⟨.inr rfl, .cv (.lit (.bool false)), by kernel_rfl, by kernel_rfl, trivial, by kernel_rfl⟩
        · refine awp_draw L mixed 39 [(3, true), (8, true), (13, false)] [(11, .cv (.lit (.bool a5)))] 26 [10] [] (cs := [(a3_1 == a4_1) = true, (decide (a3_2 = a4_2)) = true, PCall V P 16 [.agg [.lit (.int .i64 a3_0.Epoch), .lit (.int .i64 a3_0.Vote), .lit (.int .i64 a3_0.Commit), .ro Tag.t_api_Entry a3_0.Log], .agg [.lit (.int .i64 a4_0.Epoch), .lit (.int .i64 a4_0.Vote), .lit (.int .i64 a4_0.Commit), .ro Tag.t_api_Entry a4_0.Log]] (.cv (.lit (.bool a5))), True, a5 = false]) (S' := ⟨[(10, .cv (.lit (.bool false)))], []⟩) (by kernel_rfl) (And.intro c2 (And.intro (decide_eq_true c3) (And.intro (workflowref52_Same.ok h5) (And.intro trivial (eq_false_of_ne_true c4))))) ?_
          refine awp_ret ?_
          have hr := Option.some.inj h
          subst hr
          exact ⟨.inr rfl, .cv (.lit (.bool false)), by kernel_rfl, by kernel_rfl, trivial, by kernel_rfl⟩
      · refine awp_draw L mixed 39 [(3, true), (8, false)] [] 26 [10] [] (cs := [(a3_1 == a4_1) = true, (decide (a3_2 = a4_2)) = false]) (S' := ⟨[(10, .cv (.lit (.bool false)))], []⟩) (by kernel_rfl) (And.intro c2 (decide_eq_false c3)) ?_
        refine awp_ret ?_
        have hr := Option.some.inj h
        subst hr
        exact ⟨.inr rfl, .cv (.lit (.bool false)), by kernel_rfl, by kernel_rfl, trivial, by kernel_rfl⟩
    · refine awp_draw L mixed 39 [(3, false)] [] 26 [10] [] (cs := [(a3_1 == a4_1) = false]) (S' := ⟨[(10, .cv (.lit (.bool false)))], []⟩) (by kernel_rfl) (eq_false_of_ne_true c2) ?_
      refine awp_ret ?_
      have hr := Option.some.inj h
      subst hr
      exact ⟨.inr rfl, .cv (.lit (.bool false)), by kernel_rfl, by kernel_rfl, trivial, by kernel_rfl⟩

theorem workflowlaw54_BallotAsk.ok {K : Nat} {p0 : api_Replica} {p1 : Int} {p2 : Int} {p3 : Int} {p4 : Int} {r : Bool} (h : workflowlaw54_BallotAsk K p0 p1 p2 p3 p4 = some r) : PCall V P 8 [.agg [.lit (.int .i64 p0.Epoch), .lit (.int .i64 p0.Vote), .lit (.int .i64 p0.Commit), .ro Tag.t_api_Entry p0.Log], .cv (.lit (.int .i64 p1)), .cv (.lit (.int .i64 p2)), .cv (.lit (.int .i64 p3)), .cv (.lit (.int .i64 p4))] (.cv (.lit (.bool r))) :=
  pcall_of (fn := Try.f8) (n := 65) (by kernel_rfl) (by kernel_rfl) (by kernel_rfl) rfl (by kernel_rfl) (by kernel_rfl) fun Γ => workflowlaw54_BallotAsk.body h

def workflowref54_Stand (K : Nat) (p0 : api_Replica) (p1 : Int) : Option (api_Replica × Int) := (Option.bind (workflowref52_Right K p0) (fun a1 => (if a1 = true then (Option.bind (workflowref54_member K p1) (fun a2 => (if a2 = true then (if p0.Epoch ≥ 1099511627776 then some (((⟨0, 0, 0, ([] : List api_Entry)⟩ : api_Replica), 19)) else some (((⟨(IntKind.i64.wrap (p0.Epoch + 1)), p1, p0.Commit, p0.Log⟩ : api_Replica), 0))) else some (((⟨0, 0, 0, ([] : List api_Entry)⟩ : api_Replica), 2))))) else some (((⟨0, 0, 0, ([] : List api_Entry)⟩ : api_Replica), 2)))))

theorem workflowref54_Stand.body {Γ : Ent} {K : Nat} {p0 : api_Replica} {p1 : Int} {r : api_Replica × Int} (h : workflowref54_Stand K p0 p1 = some r) : AWp V P 26 0 Γ (Try.f39.body.getD .skip) (Eng.Ends P V Try.f39 (.tup [.agg [.lit (.int .i64 r.1.Epoch), .lit (.int .i64 r.1.Vote), .lit (.int .i64 r.1.Commit), .ro Tag.t_api_Entry r.1.Log], .cv (.lit (.int .i64 r.2))])) ⟨args0 0 [.agg [.lit (.int .i64 p0.Epoch), .lit (.int .i64 p0.Vote), .lit (.int .i64 p0.Commit), .ro Tag.t_api_Entry p0.Log], .cv (.lit (.int .i64 p1))], []⟩ := by
  unfold workflowref54_Stand at h
  refine awp_seq ?_
  refine awp_region L 0 [] [] [1, 2, 4] [0, 1] (cs := []) (S' := ⟨[(1, .cv (.lit (.int .i64 p1))), (2, .cv (.ptr 0 0)), (4, .cv (.ptr 1 0))], [(0, .raw [.lit (.int .i64 p0.Epoch), .lit (.int .i64 p0.Vote), .lit (.int .i64 p0.Commit), .ro Tag.t_api_Entry p0.Log]), (1, .raw [.lit (.int .i64 0), .lit (.int .i64 0), .lit (.int .i64 0), .lit (.slice none 0 0)])]⟩) (by kernel_rfl) trivial ?_
  refine awp_seq ?_
  refine awp_seq ?_
  obtain ⟨a1, h1, h⟩ := bind_some h
  rcases ite_some h with ⟨c1, h⟩ | ⟨c1, h⟩
  · obtain ⟨a2, h2, h⟩ := bind_some h
    refine awp_region L 4 [(3, false)] [(1, .cv (.lit (.bool a1))), (5, .cv (.lit (.bool a2)))] [1, 2, 4, 13] [0, 1] (cs := [PCall V P 17 [.agg [.lit (.int .i64 p0.Epoch), .lit (.int .i64 p0.Vote), .lit (.int .i64 p0.Commit), .ro Tag.t_api_Entry p0.Log]] (.cv (.lit (.bool a1))), True, (!a1) = false, PCall V P 50 [.cv (.lit (.int .i64 p1))] (.cv (.lit (.bool a2))), True]) (S' := ⟨[(1, .cv (.lit (.int .i64 p1))), (2, .cv (.ptr 0 0)), (4, .cv (.ptr 1 0)), (13, .cv (.lit (.bool (!a2))))], [(0, .raw [.lit (.int .i64 p0.Epoch), .lit (.int .i64 p0.Vote), .lit (.int .i64 p0.Commit), .ro Tag.t_api_Entry p0.Log]), (1, .raw [.lit (.int .i64 0), .lit (.int .i64 0), .lit (.int .i64 0), .lit (.slice none 0 0)])]⟩) (by kernel_rfl) (And.intro (workflowref52_Right.ok h1) (And.intro trivial (And.intro (congrArg Bool.not (c1)) (And.intro (workflowref54_member.ok h2) trivial)))) ?_
    rcases ite_some h with ⟨c2, h⟩ | ⟨c2, h⟩
    · refine awp_false (b := (!a2)) (by kernel_rfl) (congrArg Bool.not (c2)) ?_
      refine awp_skip [1, 2, 4] [0, 1] (S' := ⟨[(1, .cv (.lit (.int .i64 p1))), (2, .cv (.ptr 0 0)), (4, .cv (.ptr 1 0))], [(0, .raw [.lit (.int .i64 p0.Epoch), .lit (.int .i64 p0.Vote), .lit (.int .i64 p0.Commit), .ro Tag.t_api_Entry p0.Log]), (1, .raw [.lit (.int .i64 0), .lit (.int .i64 0), .lit (.int .i64 0), .lit (.slice none 0 0)])]⟩) (by kernel_rfl) ?_
      refine awp_seq ?_
      refine awp_seq ?_
      refine awp_region L 17 [] [] [1, 2, 4, 17] [0, 1] (cs := []) (S' := ⟨[(1, .cv (.lit (.int .i64 p1))), (2, .cv (.ptr 0 0)), (4, .cv (.ptr 1 0)), (17, .cv (.lit (.bool ((decide (p0.Epoch ≥ 1099511627776))))))], [(0, .raw [.lit (.int .i64 p0.Epoch), .lit (.int .i64 p0.Vote), .lit (.int .i64 p0.Commit), .ro Tag.t_api_Entry p0.Log]), (1, .raw [.lit (.int .i64 0), .lit (.int .i64 0), .lit (.int .i64 0), .lit (.slice none 0 0)])]⟩) (by kernel_rfl) trivial ?_
      rcases ite_some h with ⟨c3, h⟩ | ⟨c3, h⟩
      · refine awp_true (b := (decide (p0.Epoch ≥ 1099511627776))) (by kernel_rfl) (decide_eq_true c3) ?_
        refine awp_seq ?_
        refine awp_region L 21 [] [] [4, 5] [1] (cs := []) (S' := ⟨[(4, .cv (.ptr 1 0)), (5, .cv (.lit (.int .i64 19)))], [(1, .raw [.lit (.int .i64 0), .lit (.int .i64 0), .lit (.int .i64 0), .lit (.slice none 0 0)])]⟩) (by kernel_rfl) trivial ?_
        refine awp_ret ?_
        have hr := Option.some.inj h
        subst hr
        exact ⟨.inr rfl, .tup [.agg [.lit (.int .i64 0), .lit (.int .i64 0), .lit (.int .i64 0), .lit (.slice none 0 0)], .cv (.lit (.int .i64 19))], by kernel_rfl, by kernel_rfl, trivial, by kernel_rfl⟩
      · refine awp_false (b := (decide (p0.Epoch ≥ 1099511627776))) (by kernel_rfl) (decide_eq_false c3) ?_
        refine awp_skip [1, 2, 4] [0, 1] (S' := ⟨[(1, .cv (.lit (.int .i64 p1))), (2, .cv (.ptr 0 0)), (4, .cv (.ptr 1 0))], [(0, .raw [.lit (.int .i64 p0.Epoch), .lit (.int .i64 p0.Vote), .lit (.int .i64 p0.Commit), .ro Tag.t_api_Entry p0.Log]), (1, .raw [.lit (.int .i64 0), .lit (.int .i64 0), .lit (.int .i64 0), .lit (.slice none 0 0)])]⟩) (by kernel_rfl) ?_
        refine awp_seq ?_
        refine awp_region L 25 [] [] [1, 2, 4] [0, 1] (cs := []) (S' := ⟨[(1, .cv (.lit (.int .i64 p1))), (2, .cv (.ptr 0 0)), (4, .cv (.ptr 1 0))], [(0, .raw [.lit (.int .i64 ((IntKind.i64.wrap (p0.Epoch + 1)))), .lit (.int .i64 p0.Vote), .lit (.int .i64 p0.Commit), .ro Tag.t_api_Entry p0.Log]), (1, .raw [.lit (.int .i64 0), .lit (.int .i64 0), .lit (.int .i64 0), .lit (.slice none 0 0)])]⟩) (by kernel_rfl) trivial ?_
        refine awp_seq ?_
        refine awp_region L 31 [] [] [2, 4] [0, 1] (cs := []) (S' := ⟨[(2, .cv (.ptr 0 0)), (4, .cv (.ptr 1 0))], [(0, .raw [.lit (.int .i64 ((IntKind.i64.wrap (p0.Epoch + 1)))), .lit (.int .i64 p1), .lit (.int .i64 p0.Commit), .ro Tag.t_api_Entry p0.Log]), (1, .raw [.lit (.int .i64 0), .lit (.int .i64 0), .lit (.int .i64 0), .lit (.slice none 0 0)])]⟩) (by kernel_rfl) trivial ?_
        refine awp_seq ?_
        refine awp_region L 35 [] [] [4, 5] [1] (cs := []) (S' := ⟨[(4, .cv (.ptr 1 0)), (5, .cv (.lit (.int .i64 0)))], [(1, .raw [.lit (.int .i64 ((IntKind.i64.wrap (p0.Epoch + 1)))), .lit (.int .i64 p1), .lit (.int .i64 p0.Commit), .ro Tag.t_api_Entry p0.Log])]⟩) (by kernel_rfl) trivial ?_
        refine awp_ret ?_
        have hr := Option.some.inj h
        subst hr
        exact ⟨.inr rfl, .tup [.agg [.lit (.int .i64 ((IntKind.i64.wrap (p0.Epoch + 1)))), .lit (.int .i64 p1), .lit (.int .i64 p0.Commit), .ro Tag.t_api_Entry p0.Log], .cv (.lit (.int .i64 0))], by kernel_rfl, by kernel_rfl, trivial, by kernel_rfl⟩
    · refine awp_true (b := (!a2)) (by kernel_rfl) (congrArg Bool.not (eq_false_of_ne_true c2)) ?_
      refine awp_seq ?_
      refine awp_region L 13 [] [] [4, 5] [1] (cs := []) (S' := ⟨[(4, .cv (.ptr 1 0)), (5, .cv (.lit (.int .i64 2)))], [(1, .raw [.lit (.int .i64 0), .lit (.int .i64 0), .lit (.int .i64 0), .lit (.slice none 0 0)])]⟩) (by kernel_rfl) trivial ?_
      refine awp_ret ?_
      have hr := Option.some.inj h
      subst hr
      exact ⟨.inr rfl, .tup [.agg [.lit (.int .i64 0), .lit (.int .i64 0), .lit (.int .i64 0), .lit (.slice none 0 0)], .cv (.lit (.int .i64 2))], by kernel_rfl, by kernel_rfl, trivial, by kernel_rfl⟩
  · refine awp_region L 4 [(3, true)] [(1, .cv (.lit (.bool a1)))] [1, 2, 4, 13] [0, 1] (cs := [PCall V P 17 [.agg [.lit (.int .i64 p0.Epoch), .lit (.int .i64 p0.Vote), .lit (.int .i64 p0.Commit), .ro Tag.t_api_Entry p0.Log]] (.cv (.lit (.bool a1))), True, (!a1) = true]) (S' := ⟨[(1, .cv (.lit (.int .i64 p1))), (2, .cv (.ptr 0 0)), (4, .cv (.ptr 1 0)), (13, .cv (.lit (.bool true)))], [(0, .raw [.lit (.int .i64 p0.Epoch), .lit (.int .i64 p0.Vote), .lit (.int .i64 p0.Commit), .ro Tag.t_api_Entry p0.Log]), (1, .raw [.lit (.int .i64 0), .lit (.int .i64 0), .lit (.int .i64 0), .lit (.slice none 0 0)])]⟩) (by kernel_rfl) (And.intro (workflowref52_Right.ok h1) (And.intro trivial (congrArg Bool.not (eq_false_of_ne_true c1)))) ?_
    refine awp_true (b := true) (by kernel_rfl) (rfl) ?_
    refine awp_seq ?_
    refine awp_region L 13 [] [] [4, 5] [1] (cs := []) (S' := ⟨[(4, .cv (.ptr 1 0)), (5, .cv (.lit (.int .i64 2)))], [(1, .raw [.lit (.int .i64 0), .lit (.int .i64 0), .lit (.int .i64 0), .lit (.slice none 0 0)])]⟩) (by kernel_rfl) trivial ?_
    refine awp_ret ?_
    have hr := Option.some.inj h
    subst hr
    exact ⟨.inr rfl, .tup [.agg [.lit (.int .i64 0), .lit (.int .i64 0), .lit (.int .i64 0), .lit (.slice none 0 0)], .cv (.lit (.int .i64 2))], by kernel_rfl, by kernel_rfl, trivial, by kernel_rfl⟩

theorem workflowref54_Stand.ok {K : Nat} {p0 : api_Replica} {p1 : Int} {r : api_Replica × Int} (h : workflowref54_Stand K p0 p1 = some r) : PCall V P 39 [.agg [.lit (.int .i64 p0.Epoch), .lit (.int .i64 p0.Vote), .lit (.int .i64 p0.Commit), .ro Tag.t_api_Entry p0.Log], .cv (.lit (.int .i64 p1))] (.tup [.agg [.lit (.int .i64 r.1.Epoch), .lit (.int .i64 r.1.Vote), .lit (.int .i64 r.1.Commit), .ro Tag.t_api_Entry r.1.Log], .cv (.lit (.int .i64 r.2))]) :=
  pcall_of (fn := Try.f39) (n := 26) (by kernel_rfl) (by kernel_rfl) (by kernel_rfl) rfl (by kernel_rfl) (by kernel_rfl) fun Γ => workflowref54_Stand.body h

def workflowlaw54_BallotStand (K : Nat) (p0 : api_Replica) (p1 : Int) : Option Bool := (Option.bind (workflowlaw54_large K p0) (fun a1 => (if a1 = true then (Option.bind (workflowlaw54_works K) (fun a2 => some a2)) else (Option.bind (ballot_Stand K p0 p1) (fun (a3_0, a3_1) => (Option.bind (workflowref54_Stand K p0 p1) (fun (a4_0, a4_1) => (if a3_1 = a4_1 then (Option.bind (workflowref52_Same K a3_0 a4_0) (fun a5 => (if a5 = true then (Option.bind (workflowlaw54_works K) (fun a6 => some a6)) else some false))) else some false))))))))

theorem workflowlaw54_BallotStand.body {Γ : Ent} {K : Nat} {p0 : api_Replica} {p1 : Int} {r : Bool} (h : workflowlaw54_BallotStand K p0 p1 = some r) : AWp V P 35 0 Γ (Try.f9.body.getD .skip) (Eng.Ends P V Try.f9 (.cv (.lit (.bool r)))) ⟨args0 0 [.agg [.lit (.int .i64 p0.Epoch), .lit (.int .i64 p0.Vote), .lit (.int .i64 p0.Commit), .ro Tag.t_api_Entry p0.Log], .cv (.lit (.int .i64 p1))], []⟩ := by
  unfold workflowlaw54_BallotStand at h
  refine awp_seq ?_
  refine awp_region L 0 [] [] [1, 2] [0] (cs := []) (S' := ⟨[(1, .cv (.lit (.int .i64 p1))), (2, .cv (.ptr 0 0))], [(0, .raw [.lit (.int .i64 p0.Epoch), .lit (.int .i64 p0.Vote), .lit (.int .i64 p0.Commit), .ro Tag.t_api_Entry p0.Log])]⟩) (by kernel_rfl) trivial ?_
  refine awp_seq ?_
  refine awp_seq ?_
  obtain ⟨a1, h1, h⟩ := bind_some h
  refine awp_region L 3 [] [(1, .cv (.lit (.bool a1)))] [1, 2, 10] [0] (cs := [PCall V P 33 [.agg [.lit (.int .i64 p0.Epoch), .lit (.int .i64 p0.Vote), .lit (.int .i64 p0.Commit), .ro Tag.t_api_Entry p0.Log]] (.cv (.lit (.bool a1))), True]) (S' := ⟨[(1, .cv (.lit (.int .i64 p1))), (2, .cv (.ptr 0 0)), (10, .cv (.lit (.bool a1)))], [(0, .raw [.lit (.int .i64 p0.Epoch), .lit (.int .i64 p0.Vote), .lit (.int .i64 p0.Commit), .ro Tag.t_api_Entry p0.Log])]⟩) (by kernel_rfl) (And.intro (workflowlaw54_large.ok h1) trivial) ?_
  rcases ite_some h with ⟨c1, h⟩ | ⟨c1, h⟩
  · refine awp_true (b := a1) (by kernel_rfl) (c1) ?_
    refine awp_seq ?_
    obtain ⟨a2, h2, h⟩ := bind_some h
    refine awp_region L 6 [] [(0, .cv (.lit (.bool a2)))] [4] [] (cs := [PCall V P 32 [] (.cv (.lit (.bool a2))), True]) (S' := ⟨[(4, .cv (.lit (.bool a2)))], []⟩) (by kernel_rfl) (And.intro (workflowlaw54_works.ok h2) trivial) ?_
    refine awp_ret ?_
    have hr := Option.some.inj h
    subst hr
    exact ⟨.inr rfl, .cv (.lit (.bool a2)), by kernel_rfl, by kernel_rfl, trivial, by kernel_rfl⟩
  · refine awp_false (b := a1) (by kernel_rfl) (eq_false_of_ne_true c1) ?_
    refine awp_skip [1, 2] [0] (S' := ⟨[(1, .cv (.lit (.int .i64 p1))), (2, .cv (.ptr 0 0))], [(0, .raw [.lit (.int .i64 p0.Epoch), .lit (.int .i64 p0.Vote), .lit (.int .i64 p0.Commit), .ro Tag.t_api_Entry p0.Log])]⟩) (by kernel_rfl) ?_
    refine awp_seq ?_
    obtain ⟨⟨a3_0, a3_1⟩, h3, h⟩ := bind_some h
    dsimp only at h
    refine awp_region L 9 [] [(2, .tup [.agg [.lit (.int .i64 a3_0.Epoch), .lit (.int .i64 a3_0.Vote), .lit (.int .i64 a3_0.Commit), .ro Tag.t_api_Entry a3_0.Log], .cv (.lit (.int .i64 a3_1))])] [1, 2, 5, 6] [0, 15] (cs := [PCall V P 38 [.agg [.lit (.int .i64 p0.Epoch), .lit (.int .i64 p0.Vote), .lit (.int .i64 p0.Commit), .ro Tag.t_api_Entry p0.Log], .cv (.lit (.int .i64 p1))] (.tup [.agg [.lit (.int .i64 a3_0.Epoch), .lit (.int .i64 a3_0.Vote), .lit (.int .i64 a3_0.Commit), .ro Tag.t_api_Entry a3_0.Log], .cv (.lit (.int .i64 a3_1))]), True]) (S' := ⟨[(1, .cv (.lit (.int .i64 p1))), (2, .cv (.ptr 0 0)), (5, .cv (.ptr 15 0)), (6, .cv (.lit (.int .i64 a3_1)))], [(0, .raw [.lit (.int .i64 p0.Epoch), .lit (.int .i64 p0.Vote), .lit (.int .i64 p0.Commit), .ro Tag.t_api_Entry p0.Log]), (15, .raw [.lit (.int .i64 a3_0.Epoch), .lit (.int .i64 a3_0.Vote), .lit (.int .i64 a3_0.Commit), .ro Tag.t_api_Entry a3_0.Log])]⟩) (by kernel_rfl) (And.intro (ballot_Stand.ok h3) trivial) ?_
    refine awp_seq ?_
    obtain ⟨⟨a4_0, a4_1⟩, h4, h⟩ := bind_some h
    dsimp only at h
    refine awp_region L 19 [] [(2, .tup [.agg [.lit (.int .i64 a4_0.Epoch), .lit (.int .i64 a4_0.Vote), .lit (.int .i64 a4_0.Commit), .ro Tag.t_api_Entry a4_0.Log], .cv (.lit (.int .i64 a4_1))])] [5, 6, 7, 8] [15, 25] (cs := [PCall V P 39 [.agg [.lit (.int .i64 p0.Epoch), .lit (.int .i64 p0.Vote), .lit (.int .i64 p0.Commit), .ro Tag.t_api_Entry p0.Log], .cv (.lit (.int .i64 p1))] (.tup [.agg [.lit (.int .i64 a4_0.Epoch), .lit (.int .i64 a4_0.Vote), .lit (.int .i64 a4_0.Commit), .ro Tag.t_api_Entry a4_0.Log], .cv (.lit (.int .i64 a4_1))]), True]) (S' := ⟨[(5, .cv (.ptr 15 0)), (6, .cv (.lit (.int .i64 a3_1))), (7, .cv (.ptr 25 0)), (8, .cv (.lit (.int .i64 a4_1)))], [(15, .raw [.lit (.int .i64 a3_0.Epoch), .lit (.int .i64 a3_0.Vote), .lit (.int .i64 a3_0.Commit), .ro Tag.t_api_Entry a3_0.Log]), (25, .raw [.lit (.int .i64 a4_0.Epoch), .lit (.int .i64 a4_0.Vote), .lit (.int .i64 a4_0.Commit), .ro Tag.t_api_Entry a4_0.Log])]⟩) (by kernel_rfl) (And.intro (workflowref54_Stand.ok h4) trivial) ?_
    refine awp_seq ?_
    rcases ite_some h with ⟨c2, h⟩ | ⟨c2, h⟩
    · obtain ⟨a5, h5, h⟩ := bind_some h
      rcases ite_some h with ⟨c3, h⟩ | ⟨c3, h⟩
      · obtain ⟨a6, h6, h⟩ := bind_some h
        refine awp_region L 29 [(3, true), (8, true)] [(6, .cv (.lit (.bool a5))), (9, .cv (.lit (.bool a6)))] [4] [] (cs := [(decide (a3_1 = a4_1)) = true, PCall V P 16 [.agg [.lit (.int .i64 a3_0.Epoch), .lit (.int .i64 a3_0.Vote), .lit (.int .i64 a3_0.Commit), .ro Tag.t_api_Entry a3_0.Log], .agg [.lit (.int .i64 a4_0.Epoch), .lit (.int .i64 a4_0.Vote), .lit (.int .i64 a4_0.Commit), .ro Tag.t_api_Entry a4_0.Log]] (.cv (.lit (.bool a5))), True, a5 = true, PCall V P 32 [] (.cv (.lit (.bool a6))), True]) (S' := ⟨[(4, .cv (.lit (.bool a6)))], []⟩) (by kernel_rfl) (And.intro (decide_eq_true c2) (And.intro (workflowref52_Same.ok h5) (And.intro trivial (And.intro c3 (And.intro (workflowlaw54_works.ok h6) trivial))))) ?_
        refine awp_ret ?_
        have hr := Option.some.inj h
        subst hr
        exact ⟨.inr rfl, .cv (.lit (.bool a6)), by kernel_rfl, by kernel_rfl, trivial, by kernel_rfl⟩
      · refine awp_region L 29 [(3, true), (8, false)] [(6, .cv (.lit (.bool a5)))] [4] [] (cs := [(decide (a3_1 = a4_1)) = true, PCall V P 16 [.agg [.lit (.int .i64 a3_0.Epoch), .lit (.int .i64 a3_0.Vote), .lit (.int .i64 a3_0.Commit), .ro Tag.t_api_Entry a3_0.Log], .agg [.lit (.int .i64 a4_0.Epoch), .lit (.int .i64 a4_0.Vote), .lit (.int .i64 a4_0.Commit), .ro Tag.t_api_Entry a4_0.Log]] (.cv (.lit (.bool a5))), True, a5 = false]) (S' := ⟨[(4, .cv (.lit (.bool false)))], []⟩) (by kernel_rfl) (And.intro (decide_eq_true c2) (And.intro (workflowref52_Same.ok h5) (And.intro trivial (eq_false_of_ne_true c3)))) ?_
        refine awp_ret ?_
        have hr := Option.some.inj h
        subst hr
        exact ⟨.inr rfl, .cv (.lit (.bool false)), by kernel_rfl, by kernel_rfl, trivial, by kernel_rfl⟩
    · refine awp_region L 29 [(3, false)] [] [4] [] (cs := [(decide (a3_1 = a4_1)) = false]) (S' := ⟨[(4, .cv (.lit (.bool false)))], []⟩) (by kernel_rfl) (decide_eq_false c2) ?_
      refine awp_ret ?_
      have hr := Option.some.inj h
      subst hr
      exact ⟨.inr rfl, .cv (.lit (.bool false)), by kernel_rfl, by kernel_rfl, trivial, by kernel_rfl⟩

theorem workflowlaw54_BallotStand.ok {K : Nat} {p0 : api_Replica} {p1 : Int} {r : Bool} (h : workflowlaw54_BallotStand K p0 p1 = some r) : PCall V P 9 [.agg [.lit (.int .i64 p0.Epoch), .lit (.int .i64 p0.Vote), .lit (.int .i64 p0.Commit), .ro Tag.t_api_Entry p0.Log], .cv (.lit (.int .i64 p1))] (.cv (.lit (.bool r))) :=
  pcall_of (fn := Try.f9) (n := 35) (by kernel_rfl) (by kernel_rfl) (by kernel_rfl) rfl (by kernel_rfl) (by kernel_rfl) fun Γ => workflowlaw54_BallotStand.body h

end Go.Proofs.Ytkcaccppmenfmaa
