/- What functions of the program compute, as Lean functions, and that they compute it. -/
import Derived.Test.YtmafcdkdcfaajaaFn1
set_option linter.unusedVariables false
set_option maxHeartbeats 0
namespace Go.Proofs.Ytmafcdkdcfaajaa
open Eng
def slices_EqualFunc_25.l15 (K : Nat) (p0 : List api_Replica) (p1 : List api_Replica) : Nat → Int → Option (Out Bool Unit)
  | 0, _ => none
  | k + 1, xt17_15h => (if xt17_15h < (p0.length : Int) then (if (0 : Int) ≤ xt17_15h ∧ (xt17_15h : Int) < (p0.length : Int) then (if (xt17_15h : Int) < (p1.length : Int) then (Option.bind (replog_Same K ((p0.getD (Int.toNat xt17_15h) z_api_Replica)) ((p1.getD (Int.toNat xt17_15h) z_api_Replica))) (fun a1 => (if a1 = true then slices_EqualFunc_25.l15 K p0 p1 k ((IntKind.i64.wrap (xt17_15h + 1))) else some (Out.done false)))) else none) else none) else some (Out.go ()))

def slices_EqualFunc_25 (K : Nat) (p0 : List api_Replica) (p1 : List api_Replica) : Option Bool := (if (p0.length : Int) ≠ (p1.length : Int) then some false else (obind (slices_EqualFunc_25.l15 K p0 p1 K 0 : Option (Out Bool Unit)) (fun r => r) (fun _ => some true)))

theorem slices_EqualFunc_25.body {Γ : Ent} {K : Nat} {p0 : List api_Replica} {p1 : List api_Replica} {r : Bool} (h : slices_EqualFunc_25 K p0 p1 = some r) : AWp V P 32 100 Γ (Try.f25.body.getD .skip) (EndsE P V Try.f25 (.B r) []) ⟨args0 0 [.cv (.ro Tag.t_api_Replica p0), .cv (.ro Tag.t_api_Replica p1), .cv (.fn (.func 26) [] [])], []⟩ := by
  unfold slices_EqualFunc_25 at h
  refine awp_seq ?_
  refine awp_region L 200 [] [] [] [0, 1, 2] [] (cs := []) (S' := ⟨[(0, .cv (.ro Tag.t_api_Replica p0)), (1, .cv (.ro Tag.t_api_Replica p1)), (2, .cv (.fn (.func 26) [] []))], []⟩) (by kernel_rfl) trivial ?_
  refine awp_seq ?_
  refine awp_seq ?_
  refine awp_region L 202 [] [] [] [0, 1, 2, 14] [] (cs := []) (S' := ⟨[(0, .cv (.ro Tag.t_api_Replica p0)), (1, .cv (.ro Tag.t_api_Replica p1)), (2, .cv (.fn (.func 26) [] [])), (14, .B ((decide ((p0.length : Int) ≠ (p1.length : Int)))))], []⟩) (by kernel_rfl) trivial ?_
  rcases ite_some h with ⟨c1, h⟩ | ⟨c1, h⟩
  · refine awp_true (b := (decide ((p0.length : Int) ≠ (p1.length : Int)))) (by kernel_rfl) (decide_eq_true c1) ?_
    refine awp_seq ?_
    refine awp_region L 208 [] [] [] [6] [] (cs := []) (S' := ⟨[(6, .B false)], []⟩) (by kernel_rfl) trivial ?_
    refine awp_ret ?_
    have hr := Option.some.inj h
    subst hr
    exact ⟨.inr rfl, .B false, by kernel_rfl, by kernel_rfl, by kernel_rfl⟩
  · refine awp_false (b := (decide ((p0.length : Int) ≠ (p1.length : Int)))) (by kernel_rfl) (decide_eq_false c1) ?_
    refine awp_skip [0, 1, 2] [] (S' := ⟨[(0, .cv (.ro Tag.t_api_Replica p0)), (1, .cv (.ro Tag.t_api_Replica p1)), (2, .cv (.fn (.func 26) [] []))], []⟩) (by kernel_rfl) ?_
    refine awp_seq ?_
    refine awp_seq ?_
    refine awp_region L 210 [] [] [] [1, 2, 15, 16, 17] [] (cs := []) (S' := ⟨[(1, .cv (.ro Tag.t_api_Replica p1)), (2, .cv (.fn (.func 26) [] [])), (15, .cv (.ro Tag.t_api_Replica p0)), (16, .I (p0.length : Int)), (17, .I 0)], []⟩) (by kernel_rfl) trivial ?_
    refine awp_block ?_
    refine awp_keep (ts := [1, 2, 15, 16, 17]) (ids := []) (S' := ⟨[(1, .cv (.ro Tag.t_api_Replica p1)), (2, .cv (.fn (.func 26) [] [])), (15, .cv (.ro Tag.t_api_Replica p0)), (16, .I (p0.length : Int)), (17, .I 0)], []⟩) (by kernel_rfl) ?_
    obtain ⟨o1, hp1, h⟩ := obind_some h
    refine awp_conseq (Q' := fun e S => (e = .exit 0 ∧ S = ⟨[], []⟩ ∧ Out.go () = o1) ∨ (e = .ret ∧ ∃ a, Out.done a = o1 ∧ EndsE P V Try.f25 (.B a) [] .ret S)) (awp_loop (fun k S => ∃ xt17_15h : Int, S = ⟨[(1, .cv (.ro Tag.t_api_Replica p1)), (2, .cv (.fn (.func 26) [] [])), (15, .cv (.ro Tag.t_api_Replica p0)), (16, .I (p0.length : Int)), (17, .I xt17_15h)], []⟩ ∧ slices_EqualFunc_25.l15 K p0 p1 k xt17_15h = some o1) ?_ ⟨_, rfl, hp1⟩) ?_
    · clear h hp1
      intro k S hS
      obtain ⟨xt17_15h, rfl, h⟩ := hS
      cases k with
      | zero => cases h
      | succ k =>
      unfold slices_EqualFunc_25.l15 at h
      refine awp_seq ?_
      refine awp_region L 214 [] [] [] [1, 2, 15, 16, 17, 18] [] (cs := []) (S' := ⟨[(1, .cv (.ro Tag.t_api_Replica p1)), (2, .cv (.fn (.func 26) [] [])), (15, .cv (.ro Tag.t_api_Replica p0)), (16, .I (p0.length : Int)), (17, .I xt17_15h), (18, .B ((decide (xt17_15h < (p0.length : Int)))))], []⟩) (by kernel_rfl) trivial ?_
      refine awp_seq ?_
      rcases ite_some h with ⟨c2, h⟩ | ⟨c2, h⟩
      · refine awp_true (b := (decide (xt17_15h < (p0.length : Int)))) (by kernel_rfl) (decide_eq_true c2) ?_
        refine awp_skip [1, 2, 15, 16, 17] [] (S' := ⟨[(1, .cv (.ro Tag.t_api_Replica p1)), (2, .cv (.fn (.func 26) [] [])), (15, .cv (.ro Tag.t_api_Replica p0)), (16, .I (p0.length : Int)), (17, .I xt17_15h)], []⟩) (by kernel_rfl) ?_
        refine awp_seq ?_
        refine awp_block ?_
        refine awp_seq ?_
        obtain ⟨g1, h⟩ := guard_some h
        refine awp_region L 216 [] [] [] [1, 2, 7, 8, 15, 16, 17] [219] (cs := [(0 : Int) ≤ xt17_15h, (xt17_15h : Int) < (p0.length : Int)]) (S' := ⟨[(1, .cv (.ro Tag.t_api_Replica p1)), (2, .cv (.fn (.func 26) [] [])), (7, .I xt17_15h), (8, .P 219), (15, .cv (.ro Tag.t_api_Replica p0)), (16, .I (p0.length : Int)), (17, .I xt17_15h)], [(219, .raw [.I (((p0.getD (Int.toNat xt17_15h) z_api_Replica)).Epoch), .I (((p0.getD (Int.toNat xt17_15h) z_api_Replica)).Vote), .I (((p0.getD (Int.toNat xt17_15h) z_api_Replica)).Commit), .ro Tag.t_api_Entry (((p0.getD (Int.toNat xt17_15h) z_api_Replica)).Log)])]⟩) (by kernel_rfl) (And.intro g1.1 g1.2) ?_
        refine awp_seq ?_
        obtain ⟨g2, h⟩ := guard_some h
        refine awp_region L 223 [] [] [] [1, 2, 8, 9, 15, 16, 17] [219, 227] (cs := [(0 : Int) ≤ xt17_15h, (xt17_15h : Int) < (p1.length : Int)]) (S' := ⟨[(1, .cv (.ro Tag.t_api_Replica p1)), (2, .cv (.fn (.func 26) [] [])), (8, .P 219), (9, .P 227), (15, .cv (.ro Tag.t_api_Replica p0)), (16, .I (p0.length : Int)), (17, .I xt17_15h)], [(219, .raw [.I (((p0.getD (Int.toNat xt17_15h) z_api_Replica)).Epoch), .I (((p0.getD (Int.toNat xt17_15h) z_api_Replica)).Vote), .I (((p0.getD (Int.toNat xt17_15h) z_api_Replica)).Commit), .ro Tag.t_api_Entry (((p0.getD (Int.toNat xt17_15h) z_api_Replica)).Log)]), (227, .raw [.I (((p1.getD (Int.toNat xt17_15h) z_api_Replica)).Epoch), .I (((p1.getD (Int.toNat xt17_15h) z_api_Replica)).Vote), .I (((p1.getD (Int.toNat xt17_15h) z_api_Replica)).Commit), .ro Tag.t_api_Entry (((p1.getD (Int.toNat xt17_15h) z_api_Replica)).Log)])]⟩) (by kernel_rfl) (And.intro g1.1 g2) ?_
        refine awp_seq ?_
        obtain ⟨a1, h1, h⟩ := bind_some h
        refine awp_region L 230 [] [(3, .B a1)] [] [1, 2, 15, 16, 17, 30] [] (cs := [PCall V P 26 [.agg [.I (((p0.getD (Int.toNat xt17_15h) z_api_Replica)).Epoch), .I (((p0.getD (Int.toNat xt17_15h) z_api_Replica)).Vote), .I (((p0.getD (Int.toNat xt17_15h) z_api_Replica)).Commit), .ro Tag.t_api_Entry (((p0.getD (Int.toNat xt17_15h) z_api_Replica)).Log)], .agg [.I (((p1.getD (Int.toNat xt17_15h) z_api_Replica)).Epoch), .I (((p1.getD (Int.toNat xt17_15h) z_api_Replica)).Vote), .I (((p1.getD (Int.toNat xt17_15h) z_api_Replica)).Commit), .ro Tag.t_api_Entry (((p1.getD (Int.toNat xt17_15h) z_api_Replica)).Log)]] (.B a1), True]) (S' := ⟨[(1, .cv (.ro Tag.t_api_Replica p1)), (2, .cv (.fn (.func 26) [] [])), (15, .cv (.ro Tag.t_api_Replica p0)), (16, .I (p0.length : Int)), (17, .I xt17_15h), (30, .B (!a1))], []⟩) (by kernel_rfl) (And.intro (replog_Same.ok h1) trivial) ?_
        rcases ite_some h with ⟨c3, h⟩ | ⟨c3, h⟩
        · refine awp_false (b := (!a1)) (by kernel_rfl) (congrArg Bool.not (c3)) ?_
          refine awp_skip [1, 2, 15, 16, 17] [] (S' := ⟨[(1, .cv (.ro Tag.t_api_Replica p1)), (2, .cv (.fn (.func 26) [] [])), (15, .cv (.ro Tag.t_api_Replica p0)), (16, .I (p0.length : Int)), (17, .I xt17_15h)], []⟩) (by kernel_rfl) ?_
          refine awp_region L 238 [] [] [] [1, 2, 15, 16, 17] [] (cs := []) (S' := ⟨[(1, .cv (.ro Tag.t_api_Replica p1)), (2, .cv (.fn (.func 26) [] [])), (15, .cv (.ro Tag.t_api_Replica p0)), (16, .I (p0.length : Int)), (17, .I ((IntKind.i64.wrap (xt17_15h + 1))))], []⟩) (by kernel_rfl) trivial ?_
          exact ⟨k, Nat.lt_succ_self k, _, rfl, h⟩
        · refine awp_true (b := (!a1)) (by kernel_rfl) (congrArg Bool.not (eq_false_of_ne_true c3)) ?_
          refine awp_seq ?_
          refine awp_region L 236 [] [] [] [6] [] (cs := []) (S' := ⟨[(6, .B false)], []⟩) (by kernel_rfl) trivial ?_
          refine awp_ret ?_
          have hr := Option.some.inj h
          subst hr
          exact .inr ⟨rfl, _, rfl, ⟨.inr rfl, .B false, by kernel_rfl, by kernel_rfl, by kernel_rfl⟩⟩
      · refine awp_false (b := (decide (xt17_15h < (p0.length : Int)))) (by kernel_rfl) (decide_eq_false c2) ?_
        refine awp_exit [] [] (S' := ⟨[], []⟩) (by kernel_rfl) ?_
        have hr := Option.some.inj h
        subst hr
        exact .inl ⟨rfl, rfl, rfl⟩
    · rintro e S (⟨rfl, rfl, rfl⟩ | ⟨rfl, a, rfl, hr⟩)
      · rcases h with ⟨_, e1, h⟩ | ⟨_, e1, h⟩
        · cases e1
        · have e2 := Out.go.inj e1
          subst e2
          refine ⟨_, Turns.refl, ?_⟩
          refine awp_seq ?_
          refine awp_region L 241 [] [] [] [6] [] (cs := []) (S' := ⟨[(6, .B true)], []⟩) (by kernel_rfl) trivial ?_
          refine awp_ret ?_
          have hr := Option.some.inj h
          subst hr
          exact ⟨.inr rfl, .B true, by kernel_rfl, by kernel_rfl, by kernel_rfl⟩
      · rcases h with ⟨_, e1, h⟩ | ⟨_, e1, h⟩
        · have e2 := Out.done.inj e1
          subst e2
          subst h
          exact ⟨_, Turns.refl, hr⟩
        · cases e1

theorem slices_EqualFunc_25.okE {K : Nat} {p0 : List api_Replica} {p1 : List api_Replica} {r : Bool} (h : slices_EqualFunc_25 K p0 p1 = some r) : ECall V P 25 [.cv (.ro Tag.t_api_Replica p0), .cv (.ro Tag.t_api_Replica p1), .cv (.fn (.func 26) [] [])] [] [] (.B r) [] :=
  ecall_of (fn := Try.f25) (n := 32) (m := 100) (by kernel_rfl) (by kernel_rfl) (by kernel_rfl) rfl (by kernel_rfl) (by kernel_rfl) fun Γ => slices_EqualFunc_25.body h

theorem slices_EqualFunc_25.ok {K : Nat} {p0 : List api_Replica} {p1 : List api_Replica} {r : Bool} (h : slices_EqualFunc_25 K p0 p1 = some r) : PCall V P 25 [.cv (.ro Tag.t_api_Replica p0), .cv (.ro Tag.t_api_Replica p1), .cv (.fn (.func 26) [] [])] (.B r) := (slices_EqualFunc_25.okE h).pcall (by kernel_rfl)

def slices_Equal_27.l15 (K : Nat) (p0 : List Bool) (p1 : List Bool) : Nat → Int → Option (Out Bool Unit)
  | 0, _ => none
  | k + 1, xt13_15h => (if xt13_15h < (p0.length : Int) then (if (0 : Int) ≤ xt13_15h ∧ (xt13_15h : Int) < (p0.length : Int) then (if (xt13_15h : Int) < (p1.length : Int) then (if (((p0.getD (Int.toNat xt13_15h) false) == (p1.getD (Int.toNat xt13_15h) false))) = true then slices_Equal_27.l15 K p0 p1 k ((IntKind.i64.wrap (xt13_15h + 1))) else some (Out.done false)) else none) else none) else some (Out.go ()))

def slices_Equal_27 (K : Nat) (p0 : List Bool) (p1 : List Bool) : Option Bool := (if (p0.length : Int) ≠ (p1.length : Int) then some false else (obind (slices_Equal_27.l15 K p0 p1 K 0 : Option (Out Bool Unit)) (fun r => r) (fun _ => some true)))

theorem slices_Equal_27.body {Γ : Ent} {K : Nat} {p0 : List Bool} {p1 : List Bool} {r : Bool} (h : slices_Equal_27 K p0 p1 = some r) : AWp V P 26 100 Γ (Try.f27.body.getD .skip) (EndsE P V Try.f27 (.B r) []) ⟨args0 0 [.cv (.ro Tag.t_bool p0), .cv (.ro Tag.t_bool p1)], []⟩ := by
  unfold slices_Equal_27 at h
  refine awp_seq ?_
  refine awp_region L 200 [] [] [] [0, 1] [] (cs := []) (S' := ⟨[(0, .cv (.ro Tag.t_bool p0)), (1, .cv (.ro Tag.t_bool p1))], []⟩) (by kernel_rfl) trivial ?_
  refine awp_seq ?_
  refine awp_seq ?_
  refine awp_region L 202 [] [] [] [0, 1, 10] [] (cs := []) (S' := ⟨[(0, .cv (.ro Tag.t_bool p0)), (1, .cv (.ro Tag.t_bool p1)), (10, .B ((decide ((p0.length : Int) ≠ (p1.length : Int)))))], []⟩) (by kernel_rfl) trivial ?_
  rcases ite_some h with ⟨c1, h⟩ | ⟨c1, h⟩
  · refine awp_true (b := (decide ((p0.length : Int) ≠ (p1.length : Int)))) (by kernel_rfl) (decide_eq_true c1) ?_
    refine awp_seq ?_
    refine awp_region L 208 [] [] [] [4] [] (cs := []) (S' := ⟨[(4, .B false)], []⟩) (by kernel_rfl) trivial ?_
    refine awp_ret ?_
    have hr := Option.some.inj h
    subst hr
    exact ⟨.inr rfl, .B false, by kernel_rfl, by kernel_rfl, by kernel_rfl⟩
  · refine awp_false (b := (decide ((p0.length : Int) ≠ (p1.length : Int)))) (by kernel_rfl) (decide_eq_false c1) ?_
    refine awp_skip [0, 1] [] (S' := ⟨[(0, .cv (.ro Tag.t_bool p0)), (1, .cv (.ro Tag.t_bool p1))], []⟩) (by kernel_rfl) ?_
    refine awp_seq ?_
    refine awp_seq ?_
    refine awp_region L 210 [] [] [] [0, 1, 12, 13] [] (cs := []) (S' := ⟨[(0, .cv (.ro Tag.t_bool p0)), (1, .cv (.ro Tag.t_bool p1)), (12, .I (p0.length : Int)), (13, .I 0)], []⟩) (by kernel_rfl) trivial ?_
    refine awp_block ?_
    refine awp_keep (ts := [0, 1, 12, 13]) (ids := []) (S' := ⟨[(0, .cv (.ro Tag.t_bool p0)), (1, .cv (.ro Tag.t_bool p1)), (12, .I (p0.length : Int)), (13, .I 0)], []⟩) (by kernel_rfl) ?_
    obtain ⟨o1, hp1, h⟩ := obind_some h
    refine awp_conseq (Q' := fun e S => (e = .exit 0 ∧ S = ⟨[], []⟩ ∧ Out.go () = o1) ∨ (e = .ret ∧ ∃ a, Out.done a = o1 ∧ EndsE P V Try.f27 (.B a) [] .ret S)) (awp_loop (fun k S => ∃ xt13_15h : Int, S = ⟨[(0, .cv (.ro Tag.t_bool p0)), (1, .cv (.ro Tag.t_bool p1)), (12, .I (p0.length : Int)), (13, .I xt13_15h)], []⟩ ∧ slices_Equal_27.l15 K p0 p1 k xt13_15h = some o1) ?_ ⟨_, rfl, hp1⟩) ?_
    · clear h hp1
      intro k S hS
      obtain ⟨xt13_15h, rfl, h⟩ := hS
      cases k with
      | zero => cases h
      | succ k =>
      unfold slices_Equal_27.l15 at h
      refine awp_seq ?_
      refine awp_region L 214 [] [] [] [0, 1, 12, 13, 14] [] (cs := []) (S' := ⟨[(0, .cv (.ro Tag.t_bool p0)), (1, .cv (.ro Tag.t_bool p1)), (12, .I (p0.length : Int)), (13, .I xt13_15h), (14, .B ((decide (xt13_15h < (p0.length : Int)))))], []⟩) (by kernel_rfl) trivial ?_
      refine awp_seq ?_
      rcases ite_some h with ⟨c2, h⟩ | ⟨c2, h⟩
      · refine awp_true (b := (decide (xt13_15h < (p0.length : Int)))) (by kernel_rfl) (decide_eq_true c2) ?_
        refine awp_skip [0, 1, 12, 13] [] (S' := ⟨[(0, .cv (.ro Tag.t_bool p0)), (1, .cv (.ro Tag.t_bool p1)), (12, .I (p0.length : Int)), (13, .I xt13_15h)], []⟩) (by kernel_rfl) ?_
        refine awp_seq ?_
        refine awp_block ?_
        refine awp_seq ?_
        refine awp_region L 216 [] [] [] [0, 1, 5, 12, 13] [] (cs := []) (S' := ⟨[(0, .cv (.ro Tag.t_bool p0)), (1, .cv (.ro Tag.t_bool p1)), (5, .I xt13_15h), (12, .I (p0.length : Int)), (13, .I xt13_15h)], []⟩) (by kernel_rfl) trivial ?_
        refine awp_seq ?_
        obtain ⟨g1, h⟩ := guard_some h
        obtain ⟨g2, h⟩ := guard_some h
        refine awp_draw L mixed 219 [] [] [] [] 9 [0, 1, 12, 13, 24] [] (cs := [(0 : Int) ≤ xt13_15h, (xt13_15h : Int) < (p0.length : Int), (0 : Int) ≤ xt13_15h, (xt13_15h : Int) < (p1.length : Int)]) (S' := ⟨[(0, .cv (.ro Tag.t_bool p0)), (1, .cv (.ro Tag.t_bool p1)), (12, .I (p0.length : Int)), (13, .I xt13_15h), (24, .B ((!(((p0.getD (Int.toNat xt13_15h) false) == (p1.getD (Int.toNat xt13_15h) false))))))], []⟩) (by kernel_rfl) (And.intro g1.1 (And.intro g1.2 (And.intro g1.1 g2))) ?_
        rcases ite_some h with ⟨c3, h⟩ | ⟨c3, h⟩
        · refine awp_false (b := (!(((p0.getD (Int.toNat xt13_15h) false) == (p1.getD (Int.toNat xt13_15h) false))))) (by kernel_rfl) (congrArg Bool.not (c3)) ?_
          refine awp_skip [0, 1, 12, 13] [] (S' := ⟨[(0, .cv (.ro Tag.t_bool p0)), (1, .cv (.ro Tag.t_bool p1)), (12, .I (p0.length : Int)), (13, .I xt13_15h)], []⟩) (by kernel_rfl) ?_
          refine awp_region L 231 [] [] [] [0, 1, 12, 13] [] (cs := []) (S' := ⟨[(0, .cv (.ro Tag.t_bool p0)), (1, .cv (.ro Tag.t_bool p1)), (12, .I (p0.length : Int)), (13, .I ((IntKind.i64.wrap (xt13_15h + 1))))], []⟩) (by kernel_rfl) trivial ?_
          exact ⟨k, Nat.lt_succ_self k, _, rfl, h⟩
        · refine awp_true (b := (!(((p0.getD (Int.toNat xt13_15h) false) == (p1.getD (Int.toNat xt13_15h) false))))) (by kernel_rfl) (congrArg Bool.not (eq_false_of_ne_true c3)) ?_
          refine awp_seq ?_
          refine awp_region L 229 [] [] [] [4] [] (cs := []) (S' := ⟨[(4, .B false)], []⟩) (by kernel_rfl) trivial ?_
          refine awp_ret ?_
          have hr := Option.some.inj h
          subst hr
          exact .inr ⟨rfl, _, rfl, ⟨.inr rfl, .B false, by kernel_rfl, by kernel_rfl, by kernel_rfl⟩⟩
      · refine awp_false (b := (decide (xt13_15h < (p0.length : Int)))) (by kernel_rfl) (decide_eq_false c2) ?_
        refine awp_exit [] [] (S' := ⟨[], []⟩) (by kernel_rfl) ?_
        have hr := Option.some.inj h
        subst hr
        exact .inl ⟨rfl, rfl, rfl⟩
    · rintro e S (⟨rfl, rfl, rfl⟩ | ⟨rfl, a, rfl, hr⟩)
      · rcases h with ⟨_, e1, h⟩ | ⟨_, e1, h⟩
        · cases e1
        · have e2 := Out.go.inj e1
          subst e2
          refine ⟨_, Turns.refl, ?_⟩
          refine awp_seq ?_
          refine awp_region L 234 [] [] [] [4] [] (cs := []) (S' := ⟨[(4, .B true)], []⟩) (by kernel_rfl) trivial ?_
          refine awp_ret ?_
          have hr := Option.some.inj h
          subst hr
          exact ⟨.inr rfl, .B true, by kernel_rfl, by kernel_rfl, by kernel_rfl⟩
      · rcases h with ⟨_, e1, h⟩ | ⟨_, e1, h⟩
        · have e2 := Out.done.inj e1
          subst e2
          subst h
          exact ⟨_, Turns.refl, hr⟩
        · cases e1

theorem slices_Equal_27.okE {K : Nat} {p0 : List Bool} {p1 : List Bool} {r : Bool} (h : slices_Equal_27 K p0 p1 = some r) : ECall V P 27 [.cv (.ro Tag.t_bool p0), .cv (.ro Tag.t_bool p1)] [] [] (.B r) [] :=
  ecall_of (fn := Try.f27) (n := 26) (m := 100) (by kernel_rfl) (by kernel_rfl) (by kernel_rfl) rfl (by kernel_rfl) (by kernel_rfl) fun Γ => slices_Equal_27.body h

theorem slices_Equal_27.ok {K : Nat} {p0 : List Bool} {p1 : List Bool} {r : Bool} (h : slices_Equal_27 K p0 p1 = some r) : PCall V P 27 [.cv (.ro Tag.t_bool p0), .cv (.ro Tag.t_bool p1)] (.B r) := (slices_Equal_27.okE h).pcall (by kernel_rfl)

def group_Same (K : Nat) (p0 : group_Group) (p1 : group_Group) : Option Bool := (Option.bind (slices_EqualFunc_25 K p0.Replicas p1.Replicas) (fun a1 => (if a1 = true then (Option.bind (slices_Equal_27 K p0.Up p1.Up) (fun a2 => (if a2 = true then (if p0.Leader = p1.Leader then some ((decide (p0.Epoch = p1.Epoch))) else some false) else some false))) else some false)))

theorem group_Same.body {Γ : Ent} {K : Nat} {p0 : group_Group} {p1 : group_Group} {r : Bool} (h : group_Same K p0 p1 = some r) : AWp V P 31 100 Γ (Try.f16.body.getD .skip) (EndsE P V Try.f16 (.B r) []) ⟨args0 0 [.agg [.ro Tag.t_api_Replica p0.Replicas, .ro Tag.t_bool p0.Up, .I p0.Leader, .I p0.Epoch], .agg [.ro Tag.t_api_Replica p1.Replicas, .ro Tag.t_bool p1.Up, .I p1.Leader, .I p1.Epoch]], []⟩ := by
  unfold group_Same at h
  refine awp_seq ?_
  refine awp_region L 200 [] [] [] [2, 3] [200, 201] (cs := []) (S' := ⟨[(2, .P 200), (3, .P 201)], [(200, .raw [.ro Tag.t_api_Replica p0.Replicas, .ro Tag.t_bool p0.Up, .I p0.Leader, .I p0.Epoch]), (201, .raw [.ro Tag.t_api_Replica p1.Replicas, .ro Tag.t_bool p1.Up, .I p1.Leader, .I p1.Epoch])]⟩) (by kernel_rfl) trivial ?_
  refine awp_seq ?_
  obtain ⟨a1, h1, h⟩ := bind_some h
  rcases ite_some h with ⟨c1, h⟩ | ⟨c1, h⟩
  · obtain ⟨a2, h2, h⟩ := bind_some h
    rcases ite_some h with ⟨c2, h⟩ | ⟨c2, h⟩
    · rcases ite_some h with ⟨c3, h⟩ | ⟨c3, h⟩
      · refine awp_region L 204 [(5, true), (12, true), (19, true)] [(4, .B a1), (10, .B a2)] [] [4] [] (cs := [PCall V P 25 [.cv (.ro Tag.t_api_Replica p0.Replicas), .cv (.ro Tag.t_api_Replica p1.Replicas), .cv (.fn (.func 26) [] [])] (.B a1), True, a1 = true, PCall V P 27 [.cv (.ro Tag.t_bool p0.Up), .cv (.ro Tag.t_bool p1.Up)] (.B a2), True, a2 = true, (decide (p0.Leader = p1.Leader)) = true]) (S' := ⟨[(4, .B ((decide (p0.Epoch = p1.Epoch))))], []⟩) (by kernel_rfl) (And.intro (slices_EqualFunc_25.ok h1) (And.intro trivial (And.intro c1 (And.intro (slices_Equal_27.ok h2) (And.intro trivial (And.intro c2 (decide_eq_true c3))))))) ?_
        refine awp_ret ?_
        have hr := Option.some.inj h
        subst hr
        exact ⟨.inr rfl, .B ((decide (p0.Epoch = p1.Epoch))), by kernel_rfl, by kernel_rfl, by kernel_rfl⟩
      · refine awp_region L 204 [(5, true), (12, true), (19, false)] [(4, .B a1), (10, .B a2)] [] [4] [] (cs := [PCall V P 25 [.cv (.ro Tag.t_api_Replica p0.Replicas), .cv (.ro Tag.t_api_Replica p1.Replicas), .cv (.fn (.func 26) [] [])] (.B a1), True, a1 = true, PCall V P 27 [.cv (.ro Tag.t_bool p0.Up), .cv (.ro Tag.t_bool p1.Up)] (.B a2), True, a2 = true, (decide (p0.Leader = p1.Leader)) = false]) (S' := ⟨[(4, .B false)], []⟩) (by kernel_rfl) (And.intro (slices_EqualFunc_25.ok h1) (And.intro trivial (And.intro c1 (And.intro (slices_Equal_27.ok h2) (And.intro trivial (And.intro c2 (decide_eq_false c3))))))) ?_
        refine awp_ret ?_
        have hr := Option.some.inj h
        subst hr
        exact ⟨.inr rfl, .B false, by kernel_rfl, by kernel_rfl, by kernel_rfl⟩
    · refine awp_region L 204 [(5, true), (12, false)] [(4, .B a1), (10, .B a2)] [] [4] [] (cs := [PCall V P 25 [.cv (.ro Tag.t_api_Replica p0.Replicas), .cv (.ro Tag.t_api_Replica p1.Replicas), .cv (.fn (.func 26) [] [])] (.B a1), True, a1 = true, PCall V P 27 [.cv (.ro Tag.t_bool p0.Up), .cv (.ro Tag.t_bool p1.Up)] (.B a2), True, a2 = false]) (S' := ⟨[(4, .B false)], []⟩) (by kernel_rfl) (And.intro (slices_EqualFunc_25.ok h1) (And.intro trivial (And.intro c1 (And.intro (slices_Equal_27.ok h2) (And.intro trivial (eq_false_of_ne_true c2)))))) ?_
      refine awp_ret ?_
      have hr := Option.some.inj h
      subst hr
      exact ⟨.inr rfl, .B false, by kernel_rfl, by kernel_rfl, by kernel_rfl⟩
  · refine awp_region L 204 [(5, false)] [(4, .B a1)] [] [4] [] (cs := [PCall V P 25 [.cv (.ro Tag.t_api_Replica p0.Replicas), .cv (.ro Tag.t_api_Replica p1.Replicas), .cv (.fn (.func 26) [] [])] (.B a1), True, a1 = false]) (S' := ⟨[(4, .B false)], []⟩) (by kernel_rfl) (And.intro (slices_EqualFunc_25.ok h1) (And.intro trivial (eq_false_of_ne_true c1))) ?_
    refine awp_ret ?_
    have hr := Option.some.inj h
    subst hr
    exact ⟨.inr rfl, .B false, by kernel_rfl, by kernel_rfl, by kernel_rfl⟩

theorem group_Same.okE {K : Nat} {p0 : group_Group} {p1 : group_Group} {r : Bool} (h : group_Same K p0 p1 = some r) : ECall V P 16 [.agg [.ro Tag.t_api_Replica p0.Replicas, .ro Tag.t_bool p0.Up, .I p0.Leader, .I p0.Epoch], .agg [.ro Tag.t_api_Replica p1.Replicas, .ro Tag.t_bool p1.Up, .I p1.Leader, .I p1.Epoch]] [] [] (.B r) [] :=
  ecall_of (fn := Try.f16) (n := 31) (m := 100) (by kernel_rfl) (by kernel_rfl) (by kernel_rfl) rfl (by kernel_rfl) (by kernel_rfl) fun Γ => group_Same.body h

theorem group_Same.ok {K : Nat} {p0 : group_Group} {p1 : group_Group} {r : Bool} (h : group_Same K p0 p1 = some r) : PCall V P 16 [.agg [.ro Tag.t_api_Replica p0.Replicas, .ro Tag.t_bool p0.Up, .I p0.Leader, .I p0.Epoch], .agg [.ro Tag.t_api_Replica p1.Replicas, .ro Tag.t_bool p1.Up, .I p1.Leader, .I p1.Epoch]] (.B r) := (group_Same.okE h).pcall (by kernel_rfl)

def replog_in (K : Nat) (p0 : Int) (p1 : Int) (p2 : Int) : Option Bool := (if p0 ≥ p1 then some ((decide (p0 ≤ p2))) else some false)

theorem replog_in.body {Γ : Ent} {K : Nat} {p0 : Int} {p1 : Int} {p2 : Int} {r : Bool} (h : replog_in K p0 p1 p2 = some r) : AWp V P 15 100 Γ (Try.f63.body.getD .skip) (EndsE P V Try.f63 (.B r) []) ⟨args0 0 [.I p0, .I p1, .I p2], []⟩ := by
  unfold replog_in at h
  refine awp_seq ?_
  refine awp_region L 200 [] [] [] [0, 1, 2] [] (cs := []) (S' := ⟨[(0, .I p0), (1, .I p1), (2, .I p2)], []⟩) (by kernel_rfl) trivial ?_
  refine awp_seq ?_
  rcases ite_some h with ⟨c1, h⟩ | ⟨c1, h⟩
  · refine awp_region L 202 [(3, true)] [] [] [6] [] (cs := [(decide (p0 ≥ p1)) = true]) (S' := ⟨[(6, .B ((decide (p0 ≤ p2))))], []⟩) (by kernel_rfl) (decide_eq_true c1) ?_
    refine awp_ret ?_
    have hr := Option.some.inj h
    subst hr
    exact ⟨.inr rfl, .B ((decide (p0 ≤ p2))), by kernel_rfl, by kernel_rfl, by kernel_rfl⟩
  · refine awp_region L 202 [(3, false)] [] [] [6] [] (cs := [(decide (p0 ≥ p1)) = false]) (S' := ⟨[(6, .B false)], []⟩) (by kernel_rfl) (decide_eq_false c1) ?_
    refine awp_ret ?_
    have hr := Option.some.inj h
    subst hr
    exact ⟨.inr rfl, .B false, by kernel_rfl, by kernel_rfl, by kernel_rfl⟩

theorem replog_in.okE {K : Nat} {p0 : Int} {p1 : Int} {p2 : Int} {r : Bool} (h : replog_in K p0 p1 p2 = some r) : ECall V P 63 [.I p0, .I p1, .I p2] [] [] (.B r) [] :=
  ecall_of (fn := Try.f63) (n := 15) (m := 100) (by kernel_rfl) (by kernel_rfl) (by kernel_rfl) rfl (by kernel_rfl) (by kernel_rfl) fun Γ => replog_in.body h

theorem replog_in.ok {K : Nat} {p0 : Int} {p1 : Int} {p2 : Int} {r : Bool} (h : replog_in K p0 p1 p2 = some r) : PCall V P 63 [.I p0, .I p1, .I p2] (.B r) := (replog_in.okE h).pcall (by kernel_rfl)

def replog_rising.l7 (K : Nat) (p0 : List api_Entry) : Nat → Int → Int → Option (Out Bool Int)
  | 0, _, _ => none
  | k + 1, xt1_7h, xt11_7h => (if xt11_7h < (p0.length : Int) then (if (0 : Int) ≤ xt11_7h ∧ (xt11_7h : Int) < (p0.length : Int) then (if ((p0.getD (Int.toNat xt11_7h) z_api_Entry)).Epoch < (if (1 : Int) > xt1_7h then 1 else xt1_7h) then some (Out.done false) else (if ((((p0.getD (Int.toNat xt11_7h) z_api_Entry)).Data).length : Int) > 65536 then some (Out.done false) else replog_rising.l7 K p0 k (((p0.getD (Int.toNat xt11_7h) z_api_Entry)).Epoch) ((IntKind.i64.wrap (xt11_7h + 1))))) else none) else some (Out.go xt1_7h))

def replog_rising (K : Nat) (p0 : List api_Entry) (p1 : Int) (p2 : Int) : Option Bool := (obind (replog_rising.l7 K p0 K p1 0 : Option (Out Bool Int)) (fun r => r) (fun xt1_7 => some ((decide (xt1_7 ≤ p2)))))

theorem replog_rising.body {Γ : Ent} {K : Nat} {p0 : List api_Entry} {p1 : Int} {p2 : Int} {r : Bool} (h : replog_rising K p0 p1 p2 = some r) : AWp V P 32 100 Γ (Try.f64.body.getD .skip) (EndsE P V Try.f64 (.B r) []) ⟨args0 0 [.cv (.ro Tag.t_api_Entry p0), .I p1, .I p2], []⟩ := by
  unfold replog_rising at h
  refine awp_seq ?_
  refine awp_region L 200 [] [] [] [0, 1, 2] [] (cs := []) (S' := ⟨[(0, .cv (.ro Tag.t_api_Entry p0)), (1, .I p1), (2, .I p2)], []⟩) (by kernel_rfl) trivial ?_
  refine awp_seq ?_
  refine awp_seq ?_
  refine awp_region L 202 [] [] [] [1, 2, 9, 10, 11] [] (cs := []) (S' := ⟨[(1, .I p1), (2, .I p2), (9, .cv (.ro Tag.t_api_Entry p0)), (10, .I (p0.length : Int)), (11, .I 0)], []⟩) (by kernel_rfl) trivial ?_
  refine awp_block ?_
  refine awp_keep (ts := [1, 2, 9, 10, 11]) (ids := []) (S' := ⟨[(1, .I p1), (2, .I p2), (9, .cv (.ro Tag.t_api_Entry p0)), (10, .I (p0.length : Int)), (11, .I 0)], []⟩) (by kernel_rfl) ?_
  obtain ⟨o1, hp1, h⟩ := obind_some h
  refine awp_conseq (Q' := fun e S => (e = .exit 0 ∧ ∃ xt1_7 : Int, S = ⟨[(1, .I xt1_7), (2, .I p2)], []⟩ ∧ Out.go xt1_7 = o1) ∨ (e = .ret ∧ ∃ a, Out.done a = o1 ∧ EndsE P V Try.f64 (.B a) [] .ret S)) (awp_loop (fun k S => ∃ xt1_7h : Int, ∃ xt11_7h : Int, S = ⟨[(1, .I xt1_7h), (2, .I p2), (9, .cv (.ro Tag.t_api_Entry p0)), (10, .I (p0.length : Int)), (11, .I xt11_7h)], []⟩ ∧ replog_rising.l7 K p0 k xt1_7h xt11_7h = some o1) ?_ ⟨_, _, rfl, hp1⟩) ?_
  · clear h hp1
    intro k S hS
    obtain ⟨xt1_7h, xt11_7h, rfl, h⟩ := hS
    cases k with
    | zero => cases h
    | succ k =>
    unfold replog_rising.l7 at h
    refine awp_seq ?_
    refine awp_region L 206 [] [] [] [1, 2, 9, 10, 11, 12] [] (cs := []) (S' := ⟨[(1, .I xt1_7h), (2, .I p2), (9, .cv (.ro Tag.t_api_Entry p0)), (10, .I (p0.length : Int)), (11, .I xt11_7h), (12, .B ((decide (xt11_7h < (p0.length : Int)))))], []⟩) (by kernel_rfl) trivial ?_
    refine awp_seq ?_
    rcases ite_some h with ⟨c1, h⟩ | ⟨c1, h⟩
    · refine awp_true (b := (decide (xt11_7h < (p0.length : Int)))) (by kernel_rfl) (decide_eq_true c1) ?_
      refine awp_skip [1, 2, 9, 10, 11] [] (S' := ⟨[(1, .I xt1_7h), (2, .I p2), (9, .cv (.ro Tag.t_api_Entry p0)), (10, .I (p0.length : Int)), (11, .I xt11_7h)], []⟩) (by kernel_rfl) ?_
      refine awp_seq ?_
      refine awp_block ?_
      refine awp_seq ?_
      obtain ⟨g1, h⟩ := guard_some h
      refine awp_region L 208 [] [] [] [1, 2, 8, 9, 10, 11] [210] (cs := [(0 : Int) ≤ xt11_7h, (xt11_7h : Int) < (p0.length : Int)]) (S' := ⟨[(1, .I xt1_7h), (2, .I p2), (8, .P 210), (9, .cv (.ro Tag.t_api_Entry p0)), (10, .I (p0.length : Int)), (11, .I xt11_7h)], [(210, .raw [.I (((p0.getD (Int.toNat xt11_7h) z_api_Entry)).Epoch), .ro Tag.t_uint8 (((p0.getD (Int.toNat xt11_7h) z_api_Entry)).Data)])]⟩) (by kernel_rfl) (And.intro g1.1 g1.2) ?_
      refine awp_seq ?_
      refine awp_seq ?_
      rcases ite_some h with ⟨c2, h⟩ | ⟨c2, h⟩
      · refine awp_region L 213 [(5, true)] [] [] [2, 8, 9, 10, 11, 25] [210] (cs := [(decide (((p0.getD (Int.toNat xt11_7h) z_api_Entry)).Epoch < (if (1 : Int) > xt1_7h then 1 else xt1_7h))) = true]) (S' := ⟨[(2, .I p2), (8, .P 210), (9, .cv (.ro Tag.t_api_Entry p0)), (10, .I (p0.length : Int)), (11, .I xt11_7h), (25, .B true)], [(210, .raw [.I (((p0.getD (Int.toNat xt11_7h) z_api_Entry)).Epoch), .ro Tag.t_uint8 (((p0.getD (Int.toNat xt11_7h) z_api_Entry)).Data)])]⟩) (by kernel_rfl) (decide_eq_true c2) ?_
        refine awp_true (b := true) (by kernel_rfl) (rfl) ?_
        refine awp_seq ?_
        refine awp_region L 225 [] [] [] [6] [] (cs := []) (S' := ⟨[(6, .B false)], []⟩) (by kernel_rfl) trivial ?_
        refine awp_ret ?_
        have hr := Option.some.inj h
        subst hr
        exact .inr ⟨rfl, _, rfl, ⟨.inr rfl, .B false, by kernel_rfl, by kernel_rfl, by kernel_rfl⟩⟩
      · refine awp_region L 213 [(5, false)] [] [] [2, 8, 9, 10, 11, 25] [210] (cs := [(decide (((p0.getD (Int.toNat xt11_7h) z_api_Entry)).Epoch < (if (1 : Int) > xt1_7h then 1 else xt1_7h))) = false]) (S' := ⟨[(2, .I p2), (8, .P 210), (9, .cv (.ro Tag.t_api_Entry p0)), (10, .I (p0.length : Int)), (11, .I xt11_7h), (25, .B ((decide (((((p0.getD (Int.toNat xt11_7h) z_api_Entry)).Data).length : Int) > 65536))))], [(210, .raw [.I (((p0.getD (Int.toNat xt11_7h) z_api_Entry)).Epoch), .ro Tag.t_uint8 (((p0.getD (Int.toNat xt11_7h) z_api_Entry)).Data)])]⟩) (by kernel_rfl) (decide_eq_false c2) ?_
        rcases ite_some h with ⟨c3, h⟩ | ⟨c3, h⟩
        · refine awp_true (b := (decide (((((p0.getD (Int.toNat xt11_7h) z_api_Entry)).Data).length : Int) > 65536))) (by kernel_rfl) (decide_eq_true c3) ?_
          refine awp_seq ?_
          refine awp_region L 225 [] [] [] [6] [] (cs := []) (S' := ⟨[(6, .B false)], []⟩) (by kernel_rfl) trivial ?_
          refine awp_ret ?_
          have hr := Option.some.inj h
          subst hr
          exact .inr ⟨rfl, _, rfl, ⟨.inr rfl, .B false, by kernel_rfl, by kernel_rfl, by kernel_rfl⟩⟩
        · refine awp_false (b := (decide (((((p0.getD (Int.toNat xt11_7h) z_api_Entry)).Data).length : Int) > 65536))) (by kernel_rfl) (decide_eq_false c3) ?_
          refine awp_skip [2, 8, 9, 10, 11] [210] (S' := ⟨[(2, .I p2), (8, .P 210), (9, .cv (.ro Tag.t_api_Entry p0)), (10, .I (p0.length : Int)), (11, .I xt11_7h)], [(210, .raw [.I (((p0.getD (Int.toNat xt11_7h) z_api_Entry)).Epoch), .ro Tag.t_uint8 (((p0.getD (Int.toNat xt11_7h) z_api_Entry)).Data)])]⟩) (by kernel_rfl) ?_
          refine awp_region L 227 [] [] [] [1, 2, 9, 10, 11] [] (cs := []) (S' := ⟨[(1, .I (((p0.getD (Int.toNat xt11_7h) z_api_Entry)).Epoch)), (2, .I p2), (9, .cv (.ro Tag.t_api_Entry p0)), (10, .I (p0.length : Int)), (11, .I xt11_7h)], []⟩) (by kernel_rfl) trivial ?_
          refine awp_region L 231 [] [] [] [1, 2, 9, 10, 11] [] (cs := []) (S' := ⟨[(1, .I (((p0.getD (Int.toNat xt11_7h) z_api_Entry)).Epoch)), (2, .I p2), (9, .cv (.ro Tag.t_api_Entry p0)), (10, .I (p0.length : Int)), (11, .I ((IntKind.i64.wrap (xt11_7h + 1))))], []⟩) (by kernel_rfl) trivial ?_
          exact ⟨k, Nat.lt_succ_self k, _, _, rfl, h⟩
    · refine awp_false (b := (decide (xt11_7h < (p0.length : Int)))) (by kernel_rfl) (decide_eq_false c1) ?_
      refine awp_exit [1, 2] [] (S' := ⟨[(1, .I xt1_7h), (2, .I p2)], []⟩) (by kernel_rfl) ?_
      have hr := Option.some.inj h
      subst hr
      exact .inl ⟨rfl, _, rfl, rfl⟩
  · rintro e S (⟨rfl, xt1_7, rfl, rfl⟩ | ⟨rfl, a, rfl, hr⟩)
    · rcases h with ⟨_, e1, h⟩ | ⟨_, e1, h⟩
      · cases e1
      · have e2 := Out.go.inj e1
        subst e2
        refine ⟨_, Turns.refl, ?_⟩
        refine awp_seq ?_
        refine awp_region L 234 [] [] [] [6] [] (cs := []) (S' := ⟨[(6, .B ((decide (xt1_7 ≤ p2))))], []⟩) (by kernel_rfl) trivial ?_
        refine awp_ret ?_
        have hr := Option.some.inj h
        subst hr
        exact ⟨.inr rfl, .B ((decide (xt1_7 ≤ p2))), by kernel_rfl, by kernel_rfl, by kernel_rfl⟩
    · rcases h with ⟨_, e1, h⟩ | ⟨_, e1, h⟩
      · have e2 := Out.done.inj e1
        subst e2
        subst h
        exact ⟨_, Turns.refl, hr⟩
      · cases e1

theorem replog_rising.okE {K : Nat} {p0 : List api_Entry} {p1 : Int} {p2 : Int} {r : Bool} (h : replog_rising K p0 p1 p2 = some r) : ECall V P 64 [.cv (.ro Tag.t_api_Entry p0), .I p1, .I p2] [] [] (.B r) [] :=
  ecall_of (fn := Try.f64) (n := 32) (m := 100) (by kernel_rfl) (by kernel_rfl) (by kernel_rfl) rfl (by kernel_rfl) (by kernel_rfl) fun Γ => replog_rising.body h

theorem replog_rising.ok {K : Nat} {p0 : List api_Entry} {p1 : Int} {p2 : Int} {r : Bool} (h : replog_rising K p0 p1 p2 = some r) : PCall V P 64 [.cv (.ro Tag.t_api_Entry p0), .I p1, .I p2] (.B r) := (replog_rising.okE h).pcall (by kernel_rfl)

def replog_Right (K : Nat) (p0 : api_Replica) : Option Bool := (Option.bind (replog_in K p0.Epoch 0 1099511627776) (fun a1 => (if a1 = true then (Option.bind (replog_in K p0.Vote (-1) 8) (fun a2 => (if a2 = true then (if (p0.Log.length : Int) ≤ 5000 then (Option.bind (replog_in K p0.Commit 0 (p0.Log.length : Int)) (fun a3 => (if a3 = true then (Option.bind (replog_rising K p0.Log 0 p0.Epoch) (fun a4 => some a4)) else some false))) else some false) else some false))) else some false)))

theorem replog_Right.body {Γ : Ent} {K : Nat} {p0 : api_Replica} {r : Bool} (h : replog_Right K p0 = some r) : AWp V P 32 100 Γ (Try.f45.body.getD .skip) (EndsE P V Try.f45 (.B r) []) ⟨args0 0 [.agg [.I p0.Epoch, .I p0.Vote, .I p0.Commit, .ro Tag.t_api_Entry p0.Log]], []⟩ := by
  unfold replog_Right at h
  refine awp_seq ?_
  refine awp_region L 200 [] [] [] [1] [200] (cs := []) (S' := ⟨[(1, .P 200)], [(200, .raw [.I p0.Epoch, .I p0.Vote, .I p0.Commit, .ro Tag.t_api_Entry p0.Log])]⟩) (by kernel_rfl) trivial ?_
  refine awp_seq ?_
  obtain ⟨a1, h1, h⟩ := bind_some h
  rcases ite_some h with ⟨c1, h⟩ | ⟨c1, h⟩
  · obtain ⟨a2, h2, h⟩ := bind_some h
    rcases ite_some h with ⟨c2, h⟩ | ⟨c2, h⟩
    · rcases ite_some h with ⟨c3, h⟩ | ⟨c3, h⟩
      · obtain ⟨a3, h3, h⟩ := bind_some h
        rcases ite_some h with ⟨c4, h⟩ | ⟨c4, h⟩
        · obtain ⟨a4, h4, h⟩ := bind_some h
          refine awp_region L 203 [(3, true), (8, true), (14, true), (22, true)] [(2, .B a1), (6, .B a2), (20, .B a3), (27, .B a4)] [] [2] [] (cs := [PCall V P 63 [.I p0.Epoch, .I 0, .I 1099511627776] (.B a1), True, a1 = true, PCall V P 63 [.I p0.Vote, .I (-1), .I 8] (.B a2), True, a2 = true, (decide ((p0.Log.length : Int) ≤ 5000)) = true, PCall V P 63 [.I p0.Commit, .I 0, .I (p0.Log.length : Int)] (.B a3), True, a3 = true, PCall V P 64 [.cv (.ro Tag.t_api_Entry p0.Log), .I 0, .I p0.Epoch] (.B a4), True]) (S' := ⟨[(2, .B a4)], []⟩) (by kernel_rfl) (And.intro (replog_in.ok h1) (And.intro trivial (And.intro c1 (And.intro (replog_in.ok h2) (And.intro trivial (And.intro c2 (And.intro (decide_eq_true c3) (And.intro (replog_in.ok h3) (And.intro trivial (And.intro c4 (And.intro (replog_rising.ok h4) trivial))))))))))) ?_
          refine awp_ret ?_
          have hr := Option.some.inj h
          subst hr
          exact ⟨.inr rfl, .B a4, by kernel_rfl, by kernel_rfl, by kernel_rfl⟩
        · refine awp_region L 203 [(3, true), (8, true), (14, true), (22, false)] [(2, .B a1), (6, .B a2), (20, .B a3)] [] [2] [] (cs := [PCall V P 63 [.I p0.Epoch, .I 0, .I 1099511627776] (.B a1), True, a1 = true, PCall V P 63 [.I p0.Vote, .I (-1), .I 8] (.B a2), True, a2 = true, (decide ((p0.Log.length : Int) ≤ 5000)) = true, PCall V P 63 [.I p0.Commit, .I 0, .I (p0.Log.length : Int)] (.B a3), True, a3 = false]) (S' := ⟨[(2, .B false)], []⟩) (by kernel_rfl) (And.intro (replog_in.ok h1) (And.intro trivial (And.intro c1 (And.intro (replog_in.ok h2) (And.intro trivial (And.intro c2 (And.intro (decide_eq_true c3) (And.intro (replog_in.ok h3) (And.intro trivial (eq_false_of_ne_true c4)))))))))) ?_
          refine awp_ret ?_
          have hr := Option.some.inj h
          subst hr
          exact ⟨.inr rfl, .B false, by kernel_rfl, by kernel_rfl, by kernel_rfl⟩
      · refine awp_region L 203 [(3, true), (8, true), (14, false)] [(2, .B a1), (6, .B a2)] [] [2] [] (cs := [PCall V P 63 [.I p0.Epoch, .I 0, .I 1099511627776] (.B a1), True, a1 = true, PCall V P 63 [.I p0.Vote, .I (-1), .I 8] (.B a2), True, a2 = true, (decide ((p0.Log.length : Int) ≤ 5000)) = false]) (S' := ⟨[(2, .B false)], []⟩) (by kernel_rfl) (And.intro (replog_in.ok h1) (And.intro trivial (And.intro c1 (And.intro (replog_in.ok h2) (And.intro trivial (And.intro c2 (decide_eq_false c3))))))) ?_
        refine awp_ret ?_
        have hr := Option.some.inj h
        subst hr
        exact ⟨.inr rfl, .B false, by kernel_rfl, by kernel_rfl, by kernel_rfl⟩
    · refine awp_region L 203 [(3, true), (8, false)] [(2, .B a1), (6, .B a2)] [] [2] [] (cs := [PCall V P 63 [.I p0.Epoch, .I 0, .I 1099511627776] (.B a1), True, a1 = true, PCall V P 63 [.I p0.Vote, .I (-1), .I 8] (.B a2), True, a2 = false]) (S' := ⟨[(2, .B false)], []⟩) (by kernel_rfl) (And.intro (replog_in.ok h1) (And.intro trivial (And.intro c1 (And.intro (replog_in.ok h2) (And.intro trivial (eq_false_of_ne_true c2)))))) ?_
      refine awp_ret ?_
      have hr := Option.some.inj h
      subst hr
      exact ⟨.inr rfl, .B false, by kernel_rfl, by kernel_rfl, by kernel_rfl⟩
  · refine awp_region L 203 [(3, false)] [(2, .B a1)] [] [2] [] (cs := [PCall V P 63 [.I p0.Epoch, .I 0, .I 1099511627776] (.B a1), True, a1 = false]) (S' := ⟨[(2, .B false)], []⟩) (by kernel_rfl) (And.intro (replog_in.ok h1) (And.intro trivial (eq_false_of_ne_true c1))) ?_
    refine awp_ret ?_
    have hr := Option.some.inj h
    subst hr
    exact ⟨.inr rfl, .B false, by kernel_rfl, by kernel_rfl, by kernel_rfl⟩

theorem replog_Right.okE {K : Nat} {p0 : api_Replica} {r : Bool} (h : replog_Right K p0 = some r) : ECall V P 45 [.agg [.I p0.Epoch, .I p0.Vote, .I p0.Commit, .ro Tag.t_api_Entry p0.Log]] [] [] (.B r) [] :=
  ecall_of (fn := Try.f45) (n := 32) (m := 100) (by kernel_rfl) (by kernel_rfl) (by kernel_rfl) rfl (by kernel_rfl) (by kernel_rfl) fun Γ => replog_Right.body h

theorem replog_Right.ok {K : Nat} {p0 : api_Replica} {r : Bool} (h : replog_Right K p0 = some r) : PCall V P 45 [.agg [.I p0.Epoch, .I p0.Vote, .I p0.Commit, .ro Tag.t_api_Entry p0.Log]] (.B r) := (replog_Right.okE h).pcall (by kernel_rfl)

def group_Group_formed_c1 (K : Nat) (p0 : api_Replica) : Option Bool := (Option.bind (replog_Right K p0) (fun a1 => some (!a1)))

theorem group_Group_formed_c1.body {Γ : Ent} {K : Nat} {p0 : api_Replica} {r : Bool} (h : group_Group_formed_c1 K p0 = some r) : AWp V P 6 100 Γ (Try.f61.body.getD .skip) (EndsE P V Try.f61 (.B r) []) ⟨args0 0 [.agg [.I p0.Epoch, .I p0.Vote, .I p0.Commit, .ro Tag.t_api_Entry p0.Log]], []⟩ := by
  unfold group_Group_formed_c1 at h
  refine awp_seq ?_
  refine awp_region L 200 [] [] [] [1] [200] (cs := []) (S' := ⟨[(1, .P 200)], [(200, .raw [.I p0.Epoch, .I p0.Vote, .I p0.Commit, .ro Tag.t_api_Entry p0.Log])]⟩) (by kernel_rfl) trivial ?_
  refine awp_seq ?_
  obtain ⟨a1, h1, h⟩ := bind_some h
  refine awp_region L 203 [] [(1, .B a1)] [] [2] [] (cs := [PCall V P 45 [.agg [.I p0.Epoch, .I p0.Vote, .I p0.Commit, .ro Tag.t_api_Entry p0.Log]] (.B a1), True]) (S' := ⟨[(2, .B (!a1))], []⟩) (by kernel_rfl) (And.intro (replog_Right.ok h1) trivial) ?_
  refine awp_ret ?_
  have hr := Option.some.inj h
  subst hr
  exact ⟨.inr rfl, .B (!a1), by kernel_rfl, by kernel_rfl, by kernel_rfl⟩

theorem group_Group_formed_c1.okE {K : Nat} {p0 : api_Replica} {r : Bool} (h : group_Group_formed_c1 K p0 = some r) : ECall V P 61 [.agg [.I p0.Epoch, .I p0.Vote, .I p0.Commit, .ro Tag.t_api_Entry p0.Log]] [] [] (.B r) [] :=
  ecall_of (fn := Try.f61) (n := 6) (m := 100) (by kernel_rfl) (by kernel_rfl) (by kernel_rfl) rfl (by kernel_rfl) (by kernel_rfl) fun Γ => group_Group_formed_c1.body h

theorem group_Group_formed_c1.ok {K : Nat} {p0 : api_Replica} {r : Bool} (h : group_Group_formed_c1 K p0 = some r) : PCall V P 61 [.agg [.I p0.Epoch, .I p0.Vote, .I p0.Commit, .ro Tag.t_api_Entry p0.Log]] (.B r) := (group_Group_formed_c1.okE h).pcall (by kernel_rfl)

def slices_IndexFunc_69.l7 (K : Nat) (p0 : List api_Replica) : Nat → Int → Option (Out Int Unit)
  | 0, _ => none
  | k + 1, xt8_7h => (if xt8_7h < (p0.length : Int) then (if (0 : Int) ≤ xt8_7h ∧ (xt8_7h : Int) < (p0.length : Int) then (Option.bind (group_Group_formed_c1 K ((p0.getD (Int.toNat xt8_7h) z_api_Replica))) (fun a1 => (if a1 = true then some (Out.done xt8_7h) else slices_IndexFunc_69.l7 K p0 k ((IntKind.i64.wrap (xt8_7h + 1)))))) else none) else some (Out.go ()))

def slices_IndexFunc_69 (K : Nat) (p0 : List api_Replica) : Option Int := (obind (slices_IndexFunc_69.l7 K p0 K 0 : Option (Out Int Unit)) (fun r => r) (fun _ => some (-1)))

theorem slices_IndexFunc_69.body {Γ : Ent} {K : Nat} {p0 : List api_Replica} {r : Int} (h : slices_IndexFunc_69 K p0 = some r) : AWp V P 19 100 Γ (Try.f69.body.getD .skip) (EndsE P V Try.f69 (.I r) []) ⟨args0 0 [.cv (.ro Tag.t_api_Replica p0), .cv (.fn (.func 61) [] [])], []⟩ := by
  unfold slices_IndexFunc_69 at h
  refine awp_seq ?_
  refine awp_region L 200 [] [] [] [0, 1] [] (cs := []) (S' := ⟨[(0, .cv (.ro Tag.t_api_Replica p0)), (1, .cv (.fn (.func 61) [] []))], []⟩) (by kernel_rfl) trivial ?_
  refine awp_seq ?_
  refine awp_seq ?_
  refine awp_region L 202 [] [] [] [0, 1, 7, 8] [] (cs := []) (S' := ⟨[(0, .cv (.ro Tag.t_api_Replica p0)), (1, .cv (.fn (.func 61) [] [])), (7, .I (p0.length : Int)), (8, .I 0)], []⟩) (by kernel_rfl) trivial ?_
  refine awp_block ?_
  refine awp_keep (ts := [0, 1, 7, 8]) (ids := []) (S' := ⟨[(0, .cv (.ro Tag.t_api_Replica p0)), (1, .cv (.fn (.func 61) [] [])), (7, .I (p0.length : Int)), (8, .I 0)], []⟩) (by kernel_rfl) ?_
  obtain ⟨o1, hp1, h⟩ := obind_some h
  refine awp_conseq (Q' := fun e S => (e = .exit 0 ∧ S = ⟨[], []⟩ ∧ Out.go () = o1) ∨ (e = .ret ∧ ∃ a, Out.done a = o1 ∧ EndsE P V Try.f69 (.I a) [] .ret S)) (awp_loop (fun k S => ∃ xt8_7h : Int, S = ⟨[(0, .cv (.ro Tag.t_api_Replica p0)), (1, .cv (.fn (.func 61) [] [])), (7, .I (p0.length : Int)), (8, .I xt8_7h)], []⟩ ∧ slices_IndexFunc_69.l7 K p0 k xt8_7h = some o1) ?_ ⟨_, rfl, hp1⟩) ?_
  · clear h hp1
    intro k S hS
    obtain ⟨xt8_7h, rfl, h⟩ := hS
    cases k with
    | zero => cases h
    | succ k =>
    unfold slices_IndexFunc_69.l7 at h
    refine awp_seq ?_
    refine awp_region L 206 [] [] [] [0, 1, 7, 8, 9] [] (cs := []) (S' := ⟨[(0, .cv (.ro Tag.t_api_Replica p0)), (1, .cv (.fn (.func 61) [] [])), (7, .I (p0.length : Int)), (8, .I xt8_7h), (9, .B ((decide (xt8_7h < (p0.length : Int)))))], []⟩) (by kernel_rfl) trivial ?_
    refine awp_seq ?_
    rcases ite_some h with ⟨c1, h⟩ | ⟨c1, h⟩
    · refine awp_true (b := (decide (xt8_7h < (p0.length : Int)))) (by kernel_rfl) (decide_eq_true c1) ?_
      refine awp_skip [0, 1, 7, 8] [] (S' := ⟨[(0, .cv (.ro Tag.t_api_Replica p0)), (1, .cv (.fn (.func 61) [] [])), (7, .I (p0.length : Int)), (8, .I xt8_7h)], []⟩) (by kernel_rfl) ?_
      refine awp_seq ?_
      refine awp_block ?_
      refine awp_seq ?_
      refine awp_region L 208 [] [] [] [0, 1, 5, 7, 8] [] (cs := []) (S' := ⟨[(0, .cv (.ro Tag.t_api_Replica p0)), (1, .cv (.fn (.func 61) [] [])), (5, .I xt8_7h), (7, .I (p0.length : Int)), (8, .I xt8_7h)], []⟩) (by kernel_rfl) trivial ?_
      refine awp_seq ?_
      obtain ⟨g1, h⟩ := guard_some h
      obtain ⟨a1, h1, h⟩ := bind_some h
      refine awp_region L 211 [] [(5, .B a1)] [] [0, 1, 5, 7, 8, 16] [] (cs := [(0 : Int) ≤ xt8_7h, (xt8_7h : Int) < (p0.length : Int), PCall V P 61 [.agg [.I (((p0.getD (Int.toNat xt8_7h) z_api_Replica)).Epoch), .I (((p0.getD (Int.toNat xt8_7h) z_api_Replica)).Vote), .I (((p0.getD (Int.toNat xt8_7h) z_api_Replica)).Commit), .ro Tag.t_api_Entry (((p0.getD (Int.toNat xt8_7h) z_api_Replica)).Log)]] (.B a1), True]) (S' := ⟨[(0, .cv (.ro Tag.t_api_Replica p0)), (1, .cv (.fn (.func 61) [] [])), (5, .I xt8_7h), (7, .I (p0.length : Int)), (8, .I xt8_7h), (16, .B a1)], []⟩) (by kernel_rfl) (And.intro g1.1 (And.intro g1.2 (And.intro (group_Group_formed_c1.ok h1) trivial))) ?_
      rcases ite_some h with ⟨c2, h⟩ | ⟨c2, h⟩
      · refine awp_true (b := a1) (by kernel_rfl) (c2) ?_
        refine awp_seq ?_
        refine awp_region L 218 [] [] [] [4] [] (cs := []) (S' := ⟨[(4, .I xt8_7h)], []⟩) (by kernel_rfl) trivial ?_
        refine awp_ret ?_
        have hr := Option.some.inj h
        subst hr
        exact .inr ⟨rfl, _, rfl, ⟨.inr rfl, .I xt8_7h, by kernel_rfl, by kernel_rfl, by kernel_rfl⟩⟩
      · refine awp_false (b := a1) (by kernel_rfl) (eq_false_of_ne_true c2) ?_
        refine awp_skip [0, 1, 7, 8] [] (S' := ⟨[(0, .cv (.ro Tag.t_api_Replica p0)), (1, .cv (.fn (.func 61) [] [])), (7, .I (p0.length : Int)), (8, .I xt8_7h)], []⟩) (by kernel_rfl) ?_
        refine awp_region L 221 [] [] [] [0, 1, 7, 8] [] (cs := []) (S' := ⟨[(0, .cv (.ro Tag.t_api_Replica p0)), (1, .cv (.fn (.func 61) [] [])), (7, .I (p0.length : Int)), (8, .I ((IntKind.i64.wrap (xt8_7h + 1))))], []⟩) (by kernel_rfl) trivial ?_
        exact ⟨k, Nat.lt_succ_self k, _, rfl, h⟩
    · refine awp_false (b := (decide (xt8_7h < (p0.length : Int)))) (by kernel_rfl) (decide_eq_false c1) ?_
      refine awp_exit [] [] (S' := ⟨[], []⟩) (by kernel_rfl) ?_
      have hr := Option.some.inj h
      subst hr
      exact .inl ⟨rfl, rfl, rfl⟩
  · rintro e S (⟨rfl, rfl, rfl⟩ | ⟨rfl, a, rfl, hr⟩)
    · rcases h with ⟨_, e1, h⟩ | ⟨_, e1, h⟩
      · cases e1
      · have e2 := Out.go.inj e1
        subst e2
        refine ⟨_, Turns.refl, ?_⟩
        refine awp_seq ?_
        refine awp_region L 224 [] [] [] [4] [] (cs := []) (S' := ⟨[(4, .I (-1))], []⟩) (by kernel_rfl) trivial ?_
        refine awp_ret ?_
        have hr := Option.some.inj h
        subst hr
        exact ⟨.inr rfl, .I (-1), by kernel_rfl, by kernel_rfl, by kernel_rfl⟩
    · rcases h with ⟨_, e1, h⟩ | ⟨_, e1, h⟩
      · have e2 := Out.done.inj e1
        subst e2
        subst h
        exact ⟨_, Turns.refl, hr⟩
      · cases e1

theorem slices_IndexFunc_69.okE {K : Nat} {p0 : List api_Replica} {r : Int} (h : slices_IndexFunc_69 K p0 = some r) : ECall V P 69 [.cv (.ro Tag.t_api_Replica p0), .cv (.fn (.func 61) [] [])] [] [] (.I r) [] :=
  ecall_of (fn := Try.f69) (n := 19) (m := 100) (by kernel_rfl) (by kernel_rfl) (by kernel_rfl) rfl (by kernel_rfl) (by kernel_rfl) fun Γ => slices_IndexFunc_69.body h

theorem slices_IndexFunc_69.ok {K : Nat} {p0 : List api_Replica} {r : Int} (h : slices_IndexFunc_69 K p0 = some r) : PCall V P 69 [.cv (.ro Tag.t_api_Replica p0), .cv (.fn (.func 61) [] [])] (.I r) := (slices_IndexFunc_69.okE h).pcall (by kernel_rfl)

def slices_ContainsFunc_60 (K : Nat) (p0 : List api_Replica) : Option Bool := (Option.bind (slices_IndexFunc_69 K p0) (fun a1 => some ((decide (a1 ≥ 0)))))

theorem slices_ContainsFunc_60.body {Γ : Ent} {K : Nat} {p0 : List api_Replica} {r : Bool} (h : slices_ContainsFunc_60 K p0 = some r) : AWp V P 9 100 Γ (Try.f60.body.getD .skip) (EndsE P V Try.f60 (.B r) []) ⟨args0 0 [.cv (.ro Tag.t_api_Replica p0), .cv (.fn (.func 61) [] [])], []⟩ := by
  unfold slices_ContainsFunc_60 at h
  refine awp_seq ?_
  refine awp_region L 200 [] [] [] [0, 1] [] (cs := []) (S' := ⟨[(0, .cv (.ro Tag.t_api_Replica p0)), (1, .cv (.fn (.func 61) [] []))], []⟩) (by kernel_rfl) trivial ?_
  refine awp_seq ?_
  obtain ⟨a1, h1, h⟩ := bind_some h
  refine awp_region L 202 [] [(2, .I a1)] [] [4] [] (cs := [PCall V P 69 [.cv (.ro Tag.t_api_Replica p0), .cv (.fn (.func 61) [] [])] (.I a1), True]) (S' := ⟨[(4, .B ((decide (a1 ≥ 0))))], []⟩) (by kernel_rfl) (And.intro (slices_IndexFunc_69.ok h1) trivial) ?_
  refine awp_ret ?_
  have hr := Option.some.inj h
  subst hr
  exact ⟨.inr rfl, .B ((decide (a1 ≥ 0))), by kernel_rfl, by kernel_rfl, by kernel_rfl⟩

theorem slices_ContainsFunc_60.okE {K : Nat} {p0 : List api_Replica} {r : Bool} (h : slices_ContainsFunc_60 K p0 = some r) : ECall V P 60 [.cv (.ro Tag.t_api_Replica p0), .cv (.fn (.func 61) [] [])] [] [] (.B r) [] :=
  ecall_of (fn := Try.f60) (n := 9) (m := 100) (by kernel_rfl) (by kernel_rfl) (by kernel_rfl) rfl (by kernel_rfl) (by kernel_rfl) fun Γ => slices_ContainsFunc_60.body h

theorem slices_ContainsFunc_60.ok {K : Nat} {p0 : List api_Replica} {r : Bool} (h : slices_ContainsFunc_60 K p0 = some r) : PCall V P 60 [.cv (.ro Tag.t_api_Replica p0), .cv (.fn (.func 61) [] [])] (.B r) := (slices_ContainsFunc_60.okE h).pcall (by kernel_rfl)

def group_Group_formed (K : Nat) (p0 : group_Group) : Option Bool := (if (p0.Replicas.length : Int) < 1 then some false else (if (p0.Replicas.length : Int) > 9 then some false else (if (p0.Up.length : Int) ≠ (p0.Replicas.length : Int) then some false else (if p0.Leader < (-1) then some false else (if p0.Leader ≥ (p0.Replicas.length : Int) then some false else (if p0.Epoch < 0 then some false else (if p0.Epoch > 1099511627776 then some false else (Option.bind (slices_ContainsFunc_60 K p0.Replicas) (fun a1 => some (!a1))))))))))

theorem group_Group_formed.body {Γ : Ent} {K : Nat} {p0 : group_Group} {r : Bool} (h : group_Group_formed K p0 = some r) : AWp V P 45 100 Γ (Try.f41.body.getD .skip) (EndsE P V Try.f41 (.B r) []) ⟨args0 0 [.agg [.ro Tag.t_api_Replica p0.Replicas, .ro Tag.t_bool p0.Up, .I p0.Leader, .I p0.Epoch]], []⟩ := by
  unfold group_Group_formed at h
  refine awp_seq ?_
  refine awp_region L 200 [] [] [] [1] [200] (cs := []) (S' := ⟨[(1, .P 200)], [(200, .raw [.ro Tag.t_api_Replica p0.Replicas, .ro Tag.t_bool p0.Up, .I p0.Leader, .I p0.Epoch])]⟩) (by kernel_rfl) trivial ?_
  refine awp_seq ?_
  refine awp_region L 203 [] [] [] [1, 3] [200] (cs := []) (S' := ⟨[(1, .P 200), (3, .I (p0.Replicas.length : Int))], [(200, .raw [.ro Tag.t_api_Replica p0.Replicas, .ro Tag.t_bool p0.Up, .I p0.Leader, .I p0.Epoch])]⟩) (by kernel_rfl) trivial ?_
  refine awp_seq ?_
  refine awp_seq ?_
  rcases ite_some h with ⟨c1, h⟩ | ⟨c1, h⟩
  · refine awp_region L 208 [(2, true)] [] [] [1, 40] [200] (cs := [(decide ((p0.Replicas.length : Int) < 1)) = true]) (S' := ⟨[(1, .P 200), (40, .B true)], [(200, .raw [.ro Tag.t_api_Replica p0.Replicas, .ro Tag.t_bool p0.Up, .I p0.Leader, .I p0.Epoch])]⟩) (by kernel_rfl) (decide_eq_true c1) ?_
    refine awp_true (b := true) (by kernel_rfl) (rfl) ?_
    refine awp_seq ?_
    refine awp_region L 243 [] [] [] [2] [] (cs := []) (S' := ⟨[(2, .B false)], []⟩) (by kernel_rfl) trivial ?_
    refine awp_ret ?_
    have hr := Option.some.inj h
    subst hr
    exact ⟨.inr rfl, .B false, by kernel_rfl, by kernel_rfl, by kernel_rfl⟩
  · rcases ite_some h with ⟨c2, h⟩ | ⟨c2, h⟩
    · refine awp_region L 208 [(2, false), (6, true)] [] [] [1, 40] [200] (cs := [(decide ((p0.Replicas.length : Int) < 1)) = false, (decide ((p0.Replicas.length : Int) > 9)) = true]) (S' := ⟨[(1, .P 200), (40, .B true)], [(200, .raw [.ro Tag.t_api_Replica p0.Replicas, .ro Tag.t_bool p0.Up, .I p0.Leader, .I p0.Epoch])]⟩) (by kernel_rfl) (And.intro (decide_eq_false c1) (decide_eq_true c2)) ?_
      refine awp_true (b := true) (by kernel_rfl) (rfl) ?_
      refine awp_seq ?_
      refine awp_region L 243 [] [] [] [2] [] (cs := []) (S' := ⟨[(2, .B false)], []⟩) (by kernel_rfl) trivial ?_
      refine awp_ret ?_
      have hr := Option.some.inj h
      subst hr
      exact ⟨.inr rfl, .B false, by kernel_rfl, by kernel_rfl, by kernel_rfl⟩
    · rcases ite_some h with ⟨c3, h⟩ | ⟨c3, h⟩
      · refine awp_region L 208 [(2, false), (6, false), (13, true)] [] [] [1, 40] [200] (cs := [(decide ((p0.Replicas.length : Int) < 1)) = false, (decide ((p0.Replicas.length : Int) > 9)) = false, (decide ((p0.Up.length : Int) ≠ (p0.Replicas.length : Int))) = true]) (S' := ⟨[(1, .P 200), (40, .B true)], [(200, .raw [.ro Tag.t_api_Replica p0.Replicas, .ro Tag.t_bool p0.Up, .I p0.Leader, .I p0.Epoch])]⟩) (by kernel_rfl) (And.intro (decide_eq_false c1) (And.intro (decide_eq_false c2) (decide_eq_true c3))) ?_
        refine awp_true (b := true) (by kernel_rfl) (rfl) ?_
        refine awp_seq ?_
        refine awp_region L 243 [] [] [] [2] [] (cs := []) (S' := ⟨[(2, .B false)], []⟩) (by kernel_rfl) trivial ?_
        refine awp_ret ?_
        have hr := Option.some.inj h
        subst hr
        exact ⟨.inr rfl, .B false, by kernel_rfl, by kernel_rfl, by kernel_rfl⟩
      · rcases ite_some h with ⟨c4, h⟩ | ⟨c4, h⟩
        · refine awp_region L 208 [(2, false), (6, false), (13, false), (18, true)] [] [] [1, 40] [200] (cs := [(decide ((p0.Replicas.length : Int) < 1)) = false, (decide ((p0.Replicas.length : Int) > 9)) = false, (decide ((p0.Up.length : Int) ≠ (p0.Replicas.length : Int))) = false, (decide (p0.Leader < (-1))) = true]) (S' := ⟨[(1, .P 200), (40, .B true)], [(200, .raw [.ro Tag.t_api_Replica p0.Replicas, .ro Tag.t_bool p0.Up, .I p0.Leader, .I p0.Epoch])]⟩) (by kernel_rfl) (And.intro (decide_eq_false c1) (And.intro (decide_eq_false c2) (And.intro (decide_eq_false c3) (decide_eq_true c4)))) ?_
          refine awp_true (b := true) (by kernel_rfl) (rfl) ?_
          refine awp_seq ?_
          refine awp_region L 243 [] [] [] [2] [] (cs := []) (S' := ⟨[(2, .B false)], []⟩) (by kernel_rfl) trivial ?_
          refine awp_ret ?_
          have hr := Option.some.inj h
          subst hr
          exact ⟨.inr rfl, .B false, by kernel_rfl, by kernel_rfl, by kernel_rfl⟩
        · rcases ite_some h with ⟨c5, h⟩ | ⟨c5, h⟩
          · refine awp_region L 208 [(2, false), (6, false), (13, false), (18, false), (24, true)] [] [] [1, 40] [200] (cs := [(decide ((p0.Replicas.length : Int) < 1)) = false, (decide ((p0.Replicas.length : Int) > 9)) = false, (decide ((p0.Up.length : Int) ≠ (p0.Replicas.length : Int))) = false, (decide (p0.Leader < (-1))) = false, (decide (p0.Leader ≥ (p0.Replicas.length : Int))) = true]) (S' := ⟨[(1, .P 200), (40, .B true)], [(200, .raw [.ro Tag.t_api_Replica p0.Replicas, .ro Tag.t_bool p0.Up, .I p0.Leader, .I p0.Epoch])]⟩) (by kernel_rfl) (And.intro (decide_eq_false c1) (And.intro (decide_eq_false c2) (And.intro (decide_eq_false c3) (And.intro (decide_eq_false c4) (decide_eq_true c5))))) ?_
            refine awp_true (b := true) (by kernel_rfl) (rfl) ?_
            refine awp_seq ?_
            refine awp_region L 243 [] [] [] [2] [] (cs := []) (S' := ⟨[(2, .B false)], []⟩) (by kernel_rfl) trivial ?_
            refine awp_ret ?_
            have hr := Option.some.inj h
            subst hr
            exact ⟨.inr rfl, .B false, by kernel_rfl, by kernel_rfl, by kernel_rfl⟩
          · rcases ite_some h with ⟨c6, h⟩ | ⟨c6, h⟩
            · refine awp_region L 208 [(2, false), (6, false), (13, false), (18, false), (24, false), (29, true)] [] [] [1, 40] [200] (cs := [(decide ((p0.Replicas.length : Int) < 1)) = false, (decide ((p0.Replicas.length : Int) > 9)) = false, (decide ((p0.Up.length : Int) ≠ (p0.Replicas.length : Int))) = false, (decide (p0.Leader < (-1))) = false, (decide (p0.Leader ≥ (p0.Replicas.length : Int))) = false, (decide (p0.Epoch < 0)) = true]) (S' := ⟨[(1, .P 200), (40, .B true)], [(200, .raw [.ro Tag.t_api_Replica p0.Replicas, .ro Tag.t_bool p0.Up, .I p0.Leader, .I p0.Epoch])]⟩) (by kernel_rfl) (And.intro (decide_eq_false c1) (And.intro (decide_eq_false c2) (And.intro (decide_eq_false c3) (And.intro (decide_eq_false c4) (And.intro (decide_eq_false c5) (decide_eq_true c6)))))) ?_
              refine awp_true (b := true) (by kernel_rfl) (rfl) ?_
              refine awp_seq ?_
              refine awp_region L 243 [] [] [] [2] [] (cs := []) (S' := ⟨[(2, .B false)], []⟩) (by kernel_rfl) trivial ?_
              refine awp_ret ?_
              have hr := Option.some.inj h
              subst hr
              exact ⟨.inr rfl, .B false, by kernel_rfl, by kernel_rfl, by kernel_rfl⟩
            · refine awp_region L 208 [(2, false), (6, false), (13, false), (18, false), (24, false), (29, false)] [] [] [1, 40] [200] (cs := [(decide ((p0.Replicas.length : Int) < 1)) = false, (decide ((p0.Replicas.length : Int) > 9)) = false, (decide ((p0.Up.length : Int) ≠ (p0.Replicas.length : Int))) = false, (decide (p0.Leader < (-1))) = false, (decide (p0.Leader ≥ (p0.Replicas.length : Int))) = false, (decide (p0.Epoch < 0)) = false]) (S' := ⟨[(1, .P 200), (40, .B ((decide (p0.Epoch > 1099511627776))))], [(200, .raw [.ro Tag.t_api_Replica p0.Replicas, .ro Tag.t_bool p0.Up, .I p0.Leader, .I p0.Epoch])]⟩) (by kernel_rfl) (And.intro (decide_eq_false c1) (And.intro (decide_eq_false c2) (And.intro (decide_eq_false c3) (And.intro (decide_eq_false c4) (And.intro (decide_eq_false c5) (decide_eq_false c6)))))) ?_
              rcases ite_some h with ⟨c7, h⟩ | ⟨c7, h⟩
              · refine awp_true (b := (decide (p0.Epoch > 1099511627776))) (by kernel_rfl) (decide_eq_true c7) ?_
                refine awp_seq ?_
                refine awp_region L 243 [] [] [] [2] [] (cs := []) (S' := ⟨[(2, .B false)], []⟩) (by kernel_rfl) trivial ?_
                refine awp_ret ?_
                have hr := Option.some.inj h
                subst hr
                exact ⟨.inr rfl, .B false, by kernel_rfl, by kernel_rfl, by kernel_rfl⟩
              · refine awp_false (b := (decide (p0.Epoch > 1099511627776))) (by kernel_rfl) (decide_eq_false c7) ?_
                refine awp_skip [1] [200] (S' := ⟨[(1, .P 200)], [(200, .raw [.ro Tag.t_api_Replica p0.Replicas, .ro Tag.t_bool p0.Up, .I p0.Leader, .I p0.Epoch])]⟩) (by kernel_rfl) ?_
                refine awp_seq ?_
                obtain ⟨a1, h1, h⟩ := bind_some h
                refine awp_region L 245 [] [(2, .B a1)] [] [2] [] (cs := [PCall V P 60 [.cv (.ro Tag.t_api_Replica p0.Replicas), .cv (.fn (.func 61) [] [])] (.B a1), True]) (S' := ⟨[(2, .B (!a1))], []⟩) (by kernel_rfl) (And.intro (slices_ContainsFunc_60.ok h1) trivial) ?_
                refine awp_ret ?_
                have hr := Option.some.inj h
                subst hr
                exact ⟨.inr rfl, .B (!a1), by kernel_rfl, by kernel_rfl, by kernel_rfl⟩

theorem group_Group_formed.okE {K : Nat} {p0 : group_Group} {r : Bool} (h : group_Group_formed K p0 = some r) : ECall V P 41 [.agg [.ro Tag.t_api_Replica p0.Replicas, .ro Tag.t_bool p0.Up, .I p0.Leader, .I p0.Epoch]] [] [] (.B r) [] :=
  ecall_of (fn := Try.f41) (n := 45) (m := 100) (by kernel_rfl) (by kernel_rfl) (by kernel_rfl) rfl (by kernel_rfl) (by kernel_rfl) fun Γ => group_Group_formed.body h

theorem group_Group_formed.ok {K : Nat} {p0 : group_Group} {r : Bool} (h : group_Group_formed K p0 = some r) : PCall V P 41 [.agg [.ro Tag.t_api_Replica p0.Replicas, .ro Tag.t_bool p0.Up, .I p0.Leader, .I p0.Epoch]] (.B r) := (group_Group_formed.okE h).pcall (by kernel_rfl)

def group_Group_member (K : Nat) (p0 : group_Group) (p1 : Int) : Option Bool := (if p1 ≥ 0 then some ((decide (p1 < (p0.Replicas.length : Int)))) else some false)

theorem group_Group_member.body {Γ : Ent} {K : Nat} {p0 : group_Group} {p1 : Int} {r : Bool} (h : group_Group_member K p0 p1 = some r) : AWp V P 14 100 Γ (Try.f42.body.getD .skip) (EndsE P V Try.f42 (.B r) []) ⟨args0 0 [.agg [.ro Tag.t_api_Replica p0.Replicas, .ro Tag.t_bool p0.Up, .I p0.Leader, .I p0.Epoch], .I p1], []⟩ := by
  unfold group_Group_member at h
  refine awp_seq ?_
  refine awp_region L 200 [] [] [] [1, 2] [200] (cs := []) (S' := ⟨[(1, .I p1), (2, .P 200)], [(200, .raw [.ro Tag.t_api_Replica p0.Replicas, .ro Tag.t_bool p0.Up, .I p0.Leader, .I p0.Epoch])]⟩) (by kernel_rfl) trivial ?_
  refine awp_seq ?_
  rcases ite_some h with ⟨c1, h⟩ | ⟨c1, h⟩
  · refine awp_region L 203 [(2, true)] [] [] [4] [] (cs := [(decide (p1 ≥ 0)) = true]) (S' := ⟨[(4, .B ((decide (p1 < (p0.Replicas.length : Int)))))], []⟩) (by kernel_rfl) (decide_eq_true c1) ?_
    refine awp_ret ?_
    have hr := Option.some.inj h
    subst hr
    exact ⟨.inr rfl, .B ((decide (p1 < (p0.Replicas.length : Int)))), by kernel_rfl, by kernel_rfl, by kernel_rfl⟩
  · refine awp_region L 203 [(2, false)] [] [] [4] [] (cs := [(decide (p1 ≥ 0)) = false]) (S' := ⟨[(4, .B false)], []⟩) (by kernel_rfl) (decide_eq_false c1) ?_
    refine awp_ret ?_
    have hr := Option.some.inj h
    subst hr
    exact ⟨.inr rfl, .B false, by kernel_rfl, by kernel_rfl, by kernel_rfl⟩

theorem group_Group_member.okE {K : Nat} {p0 : group_Group} {p1 : Int} {r : Bool} (h : group_Group_member K p0 p1 = some r) : ECall V P 42 [.agg [.ro Tag.t_api_Replica p0.Replicas, .ro Tag.t_bool p0.Up, .I p0.Leader, .I p0.Epoch], .I p1] [] [] (.B r) [] :=
  ecall_of (fn := Try.f42) (n := 14) (m := 100) (by kernel_rfl) (by kernel_rfl) (by kernel_rfl) rfl (by kernel_rfl) (by kernel_rfl) fun Γ => group_Group_member.body h

theorem group_Group_member.ok {K : Nat} {p0 : group_Group} {p1 : Int} {r : Bool} (h : group_Group_member K p0 p1 = some r) : PCall V P 42 [.agg [.ro Tag.t_api_Replica p0.Replicas, .ro Tag.t_bool p0.Up, .I p0.Leader, .I p0.Epoch], .I p1] (.B r) := (group_Group_member.okE h).pcall (by kernel_rfl)

def group_Group_suits_c1 (K : Nat) (p0 : Int) (p1 : group_Group) : Option Bool := (Option.bind (group_Group_member K p1 p0) (fun a1 => some (!a1)))

theorem group_Group_suits_c1.body {Γ : Ent} {K : Nat} {p0 : Int} {p1 : group_Group} {r : Bool} (h : group_Group_suits_c1 K p0 p1 = some r) : AWp V P 8 100 Γ (Try.f44.body.getD .skip) (EndsE P V Try.f44 (.B r) []) ⟨args0 0 [.I p0, .cv (.pcs [.ro Tag.t_api_Replica p1.Replicas, .ro Tag.t_bool p1.Up, .I p1.Leader, .I p1.Epoch] 0)], []⟩ := by
  unfold group_Group_suits_c1 at h
  refine awp_seq ?_
  refine awp_region L 200 [] [] [] [0, 1] [] (cs := []) (S' := ⟨[(0, .I p0), (1, .cv (.pcs [.ro Tag.t_api_Replica p1.Replicas, .ro Tag.t_bool p1.Up, .I p1.Leader, .I p1.Epoch] 0))], []⟩) (by kernel_rfl) trivial ?_
  refine awp_seq ?_
  obtain ⟨a1, h1, h⟩ := bind_some h
  refine awp_region L 202 [] [(2, .B a1)] [] [3] [] (cs := [PCall V P 42 [.agg [.ro Tag.t_api_Replica p1.Replicas, .ro Tag.t_bool p1.Up, .I p1.Leader, .I p1.Epoch], .I p0] (.B a1), True]) (S' := ⟨[(3, .B (!a1))], []⟩) (by kernel_rfl) (And.intro (group_Group_member.ok h1) trivial) ?_
  refine awp_ret ?_
  have hr := Option.some.inj h
  subst hr
  exact ⟨.inr rfl, .B (!a1), by kernel_rfl, by kernel_rfl, by kernel_rfl⟩

theorem group_Group_suits_c1.okE {K : Nat} {p0 : Int} {p1 : group_Group} {r : Bool} (h : group_Group_suits_c1 K p0 p1 = some r) : ECall V P 44 [.I p0, .cv (.pcs [.ro Tag.t_api_Replica p1.Replicas, .ro Tag.t_bool p1.Up, .I p1.Leader, .I p1.Epoch] 0)] [] [] (.B r) [] :=
  ecall_of (fn := Try.f44) (n := 8) (m := 100) (by kernel_rfl) (by kernel_rfl) (by kernel_rfl) rfl (by kernel_rfl) (by kernel_rfl) fun Γ => group_Group_suits_c1.body h

theorem group_Group_suits_c1.ok {K : Nat} {p0 : Int} {p1 : group_Group} {r : Bool} (h : group_Group_suits_c1 K p0 p1 = some r) : PCall V P 44 [.I p0, .cv (.pcs [.ro Tag.t_api_Replica p1.Replicas, .ro Tag.t_bool p1.Up, .I p1.Leader, .I p1.Epoch] 0)] (.B r) := (group_Group_suits_c1.okE h).pcall (by kernel_rfl)

def slices_IndexFunc_62.l7 (K : Nat) (p0 : List Int) (p1 : group_Group) : Nat → Int → Option (Out Int Unit)
  | 0, _ => none
  | k + 1, xt8_7h => (if xt8_7h < (p0.length : Int) then (if (0 : Int) ≤ xt8_7h ∧ (xt8_7h : Int) < (p0.length : Int) then (Option.bind (group_Group_suits_c1 K ((p0.getD (Int.toNat xt8_7h) (0 : Int))) p1) (fun a1 => (if a1 = true then some (Out.done xt8_7h) else slices_IndexFunc_62.l7 K p0 p1 k ((IntKind.i64.wrap (xt8_7h + 1)))))) else none) else some (Out.go ()))

def slices_IndexFunc_62 (K : Nat) (p0 : List Int) (p1 : group_Group) : Option Int := (obind (slices_IndexFunc_62.l7 K p0 p1 K 0 : Option (Out Int Unit)) (fun r => r) (fun _ => some (-1)))

theorem slices_IndexFunc_62.body {Γ : Ent} {K : Nat} {p0 : List Int} {p1 : group_Group} {r : Int} (h : slices_IndexFunc_62 K p0 p1 = some r) : AWp V P 19 100 Γ (Try.f62.body.getD .skip) (EndsE P V Try.f62 (.I r) []) ⟨args0 0 [.cv (.ro Tag.t_int p0), .cv (.fn (.func 44) [] [.pcs [.ro Tag.t_api_Replica p1.Replicas, .ro Tag.t_bool p1.Up, .I p1.Leader, .I p1.Epoch] 0])], []⟩ := by
  unfold slices_IndexFunc_62 at h
  refine awp_seq ?_
  refine awp_region L 200 [] [] [] [0, 1] [] (cs := []) (S' := ⟨[(0, .cv (.ro Tag.t_int p0)), (1, .cv (.fn (.func 44) [] [.pcs [.ro Tag.t_api_Replica p1.Replicas, .ro Tag.t_bool p1.Up, .I p1.Leader, .I p1.Epoch] 0]))], []⟩) (by kernel_rfl) trivial ?_
  refine awp_seq ?_
  refine awp_seq ?_
  refine awp_region L 202 [] [] [] [0, 1, 7, 8] [] (cs := []) (S' := ⟨[(0, .cv (.ro Tag.t_int p0)), (1, .cv (.fn (.func 44) [] [.pcs [.ro Tag.t_api_Replica p1.Replicas, .ro Tag.t_bool p1.Up, .I p1.Leader, .I p1.Epoch] 0])), (7, .I (p0.length : Int)), (8, .I 0)], []⟩) (by kernel_rfl) trivial ?_
  refine awp_block ?_
  refine awp_keep (ts := [0, 1, 7, 8]) (ids := []) (S' := ⟨[(0, .cv (.ro Tag.t_int p0)), (1, .cv (.fn (.func 44) [] [.pcs [.ro Tag.t_api_Replica p1.Replicas, .ro Tag.t_bool p1.Up, .I p1.Leader, .I p1.Epoch] 0])), (7, .I (p0.length : Int)), (8, .I 0)], []⟩) (by kernel_rfl) ?_
  obtain ⟨o1, hp1, h⟩ := obind_some h
  refine awp_conseq (Q' := fun e S => (e = .exit 0 ∧ S = ⟨[], []⟩ ∧ Out.go () = o1) ∨ (e = .ret ∧ ∃ a, Out.done a = o1 ∧ EndsE P V Try.f62 (.I a) [] .ret S)) (awp_loop (fun k S => ∃ xt8_7h : Int, S = ⟨[(0, .cv (.ro Tag.t_int p0)), (1, .cv (.fn (.func 44) [] [.pcs [.ro Tag.t_api_Replica p1.Replicas, .ro Tag.t_bool p1.Up, .I p1.Leader, .I p1.Epoch] 0])), (7, .I (p0.length : Int)), (8, .I xt8_7h)], []⟩ ∧ slices_IndexFunc_62.l7 K p0 p1 k xt8_7h = some o1) ?_ ⟨_, rfl, hp1⟩) ?_
  · clear h hp1
    intro k S hS
    obtain ⟨xt8_7h, rfl, h⟩ := hS
    cases k with
    | zero => cases h
    | succ k =>
    unfold slices_IndexFunc_62.l7 at h
    refine awp_seq ?_
    refine awp_region L 206 [] [] [] [0, 1, 7, 8, 9] [] (cs := []) (S' := ⟨[(0, .cv (.ro Tag.t_int p0)), (1, .cv (.fn (.func 44) [] [.pcs [.ro Tag.t_api_Replica p1.Replicas, .ro Tag.t_bool p1.Up, .I p1.Leader, .I p1.Epoch] 0])), (7, .I (p0.length : Int)), (8, .I xt8_7h), (9, .B ((decide (xt8_7h < (p0.length : Int)))))], []⟩) (by kernel_rfl) trivial ?_
    refine awp_seq ?_
    rcases ite_some h with ⟨c1, h⟩ | ⟨c1, h⟩
    · refine awp_true (b := (decide (xt8_7h < (p0.length : Int)))) (by kernel_rfl) (decide_eq_true c1) ?_
      refine awp_skip [0, 1, 7, 8] [] (S' := ⟨[(0, .cv (.ro Tag.t_int p0)), (1, .cv (.fn (.func 44) [] [.pcs [.ro Tag.t_api_Replica p1.Replicas, .ro Tag.t_bool p1.Up, .I p1.Leader, .I p1.Epoch] 0])), (7, .I (p0.length : Int)), (8, .I xt8_7h)], []⟩) (by kernel_rfl) ?_
      refine awp_seq ?_
      refine awp_block ?_
      refine awp_seq ?_
      refine awp_region L 208 [] [] [] [0, 1, 5, 7, 8] [] (cs := []) (S' := ⟨[(0, .cv (.ro Tag.t_int p0)), (1, .cv (.fn (.func 44) [] [.pcs [.ro Tag.t_api_Replica p1.Replicas, .ro Tag.t_bool p1.Up, .I p1.Leader, .I p1.Epoch] 0])), (5, .I xt8_7h), (7, .I (p0.length : Int)), (8, .I xt8_7h)], []⟩) (by kernel_rfl) trivial ?_
      refine awp_seq ?_
      obtain ⟨g1, h⟩ := guard_some h
      obtain ⟨a1, h1, h⟩ := bind_some h
      refine awp_region L 211 [] [(5, .B a1)] [] [0, 1, 5, 7, 8, 16] [] (cs := [(0 : Int) ≤ xt8_7h, (xt8_7h : Int) < (p0.length : Int), PCall V P 44 [.I ((p0.getD (Int.toNat xt8_7h) (0 : Int))), .cv (.pcs [.ro Tag.t_api_Replica p1.Replicas, .ro Tag.t_bool p1.Up, .I p1.Leader, .I p1.Epoch] 0)] (.B a1), True]) (S' := ⟨[(0, .cv (.ro Tag.t_int p0)), (1, .cv (.fn (.func 44) [] [.pcs [.ro Tag.t_api_Replica p1.Replicas, .ro Tag.t_bool p1.Up, .I p1.Leader, .I p1.Epoch] 0])), (5, .I xt8_7h), (7, .I (p0.length : Int)), (8, .I xt8_7h), (16, .B a1)], []⟩) (by kernel_rfl) (And.intro g1.1 (And.intro g1.2 (And.intro (group_Group_suits_c1.ok h1) trivial))) ?_
      rcases ite_some h with ⟨c2, h⟩ | ⟨c2, h⟩
      · refine awp_true (b := a1) (by kernel_rfl) (c2) ?_
        refine awp_seq ?_
        refine awp_region L 218 [] [] [] [4] [] (cs := []) (S' := ⟨[(4, .I xt8_7h)], []⟩) (by kernel_rfl) trivial ?_
        refine awp_ret ?_
        have hr := Option.some.inj h
        subst hr
        exact .inr ⟨rfl, _, rfl, ⟨.inr rfl, .I xt8_7h, by kernel_rfl, by kernel_rfl, by kernel_rfl⟩⟩
      · refine awp_false (b := a1) (by kernel_rfl) (eq_false_of_ne_true c2) ?_
        refine awp_skip [0, 1, 7, 8] [] (S' := ⟨[(0, .cv (.ro Tag.t_int p0)), (1, .cv (.fn (.func 44) [] [.pcs [.ro Tag.t_api_Replica p1.Replicas, .ro Tag.t_bool p1.Up, .I p1.Leader, .I p1.Epoch] 0])), (7, .I (p0.length : Int)), (8, .I xt8_7h)], []⟩) (by kernel_rfl) ?_
        refine awp_region L 221 [] [] [] [0, 1, 7, 8] [] (cs := []) (S' := ⟨[(0, .cv (.ro Tag.t_int p0)), (1, .cv (.fn (.func 44) [] [.pcs [.ro Tag.t_api_Replica p1.Replicas, .ro Tag.t_bool p1.Up, .I p1.Leader, .I p1.Epoch] 0])), (7, .I (p0.length : Int)), (8, .I ((IntKind.i64.wrap (xt8_7h + 1))))], []⟩) (by kernel_rfl) trivial ?_
        exact ⟨k, Nat.lt_succ_self k, _, rfl, h⟩
    · refine awp_false (b := (decide (xt8_7h < (p0.length : Int)))) (by kernel_rfl) (decide_eq_false c1) ?_
      refine awp_exit [] [] (S' := ⟨[], []⟩) (by kernel_rfl) ?_
      have hr := Option.some.inj h
      subst hr
      exact .inl ⟨rfl, rfl, rfl⟩
  · rintro e S (⟨rfl, rfl, rfl⟩ | ⟨rfl, a, rfl, hr⟩)
    · rcases h with ⟨_, e1, h⟩ | ⟨_, e1, h⟩
      · cases e1
      · have e2 := Out.go.inj e1
        subst e2
        refine ⟨_, Turns.refl, ?_⟩
        refine awp_seq ?_
        refine awp_region L 224 [] [] [] [4] [] (cs := []) (S' := ⟨[(4, .I (-1))], []⟩) (by kernel_rfl) trivial ?_
        refine awp_ret ?_
        have hr := Option.some.inj h
        subst hr
        exact ⟨.inr rfl, .I (-1), by kernel_rfl, by kernel_rfl, by kernel_rfl⟩
    · rcases h with ⟨_, e1, h⟩ | ⟨_, e1, h⟩
      · have e2 := Out.done.inj e1
        subst e2
        subst h
        exact ⟨_, Turns.refl, hr⟩
      · cases e1

theorem slices_IndexFunc_62.okE {K : Nat} {p0 : List Int} {p1 : group_Group} {r : Int} (h : slices_IndexFunc_62 K p0 p1 = some r) : ECall V P 62 [.cv (.ro Tag.t_int p0), .cv (.fn (.func 44) [] [.pcs [.ro Tag.t_api_Replica p1.Replicas, .ro Tag.t_bool p1.Up, .I p1.Leader, .I p1.Epoch] 0])] [] [] (.I r) [] :=
  ecall_of (fn := Try.f62) (n := 19) (m := 100) (by kernel_rfl) (by kernel_rfl) (by kernel_rfl) rfl (by kernel_rfl) (by kernel_rfl) fun Γ => slices_IndexFunc_62.body h

theorem slices_IndexFunc_62.ok {K : Nat} {p0 : List Int} {p1 : group_Group} {r : Int} (h : slices_IndexFunc_62 K p0 p1 = some r) : PCall V P 62 [.cv (.ro Tag.t_int p0), .cv (.fn (.func 44) [] [.pcs [.ro Tag.t_api_Replica p1.Replicas, .ro Tag.t_bool p1.Up, .I p1.Leader, .I p1.Epoch] 0])] (.I r) := (slices_IndexFunc_62.okE h).pcall (by kernel_rfl)

def slices_ContainsFunc_43 (K : Nat) (p0 : List Int) (p1 : group_Group) : Option Bool := (Option.bind (slices_IndexFunc_62 K p0 p1) (fun a1 => some ((decide (a1 ≥ 0)))))

theorem slices_ContainsFunc_43.body {Γ : Ent} {K : Nat} {p0 : List Int} {p1 : group_Group} {r : Bool} (h : slices_ContainsFunc_43 K p0 p1 = some r) : AWp V P 9 100 Γ (Try.f43.body.getD .skip) (EndsE P V Try.f43 (.B r) []) ⟨args0 0 [.cv (.ro Tag.t_int p0), .cv (.fn (.func 44) [] [.pcs [.ro Tag.t_api_Replica p1.Replicas, .ro Tag.t_bool p1.Up, .I p1.Leader, .I p1.Epoch] 0])], []⟩ := by
  unfold slices_ContainsFunc_43 at h
  refine awp_seq ?_
  refine awp_region L 200 [] [] [] [0, 1] [] (cs := []) (S' := ⟨[(0, .cv (.ro Tag.t_int p0)), (1, .cv (.fn (.func 44) [] [.pcs [.ro Tag.t_api_Replica p1.Replicas, .ro Tag.t_bool p1.Up, .I p1.Leader, .I p1.Epoch] 0]))], []⟩) (by kernel_rfl) trivial ?_
  refine awp_seq ?_
  obtain ⟨a1, h1, h⟩ := bind_some h
  refine awp_region L 202 [] [(2, .I a1)] [] [4] [] (cs := [PCall V P 62 [.cv (.ro Tag.t_int p0), .cv (.fn (.func 44) [] [.pcs [.ro Tag.t_api_Replica p1.Replicas, .ro Tag.t_bool p1.Up, .I p1.Leader, .I p1.Epoch] 0])] (.I a1), True]) (S' := ⟨[(4, .B ((decide (a1 ≥ 0))))], []⟩) (by kernel_rfl) (And.intro (slices_IndexFunc_62.ok h1) trivial) ?_
  refine awp_ret ?_
  have hr := Option.some.inj h
  subst hr
  exact ⟨.inr rfl, .B ((decide (a1 ≥ 0))), by kernel_rfl, by kernel_rfl, by kernel_rfl⟩

theorem slices_ContainsFunc_43.okE {K : Nat} {p0 : List Int} {p1 : group_Group} {r : Bool} (h : slices_ContainsFunc_43 K p0 p1 = some r) : ECall V P 43 [.cv (.ro Tag.t_int p0), .cv (.fn (.func 44) [] [.pcs [.ro Tag.t_api_Replica p1.Replicas, .ro Tag.t_bool p1.Up, .I p1.Leader, .I p1.Epoch] 0])] [] [] (.B r) [] :=
  ecall_of (fn := Try.f43) (n := 9) (m := 100) (by kernel_rfl) (by kernel_rfl) (by kernel_rfl) rfl (by kernel_rfl) (by kernel_rfl) fun Γ => slices_ContainsFunc_43.body h

theorem slices_ContainsFunc_43.ok {K : Nat} {p0 : List Int} {p1 : group_Group} {r : Bool} (h : slices_ContainsFunc_43 K p0 p1 = some r) : PCall V P 43 [.cv (.ro Tag.t_int p0), .cv (.fn (.func 44) [] [.pcs [.ro Tag.t_api_Replica p1.Replicas, .ro Tag.t_bool p1.Up, .I p1.Leader, .I p1.Epoch] 0])] (.B r) := (slices_ContainsFunc_43.okE h).pcall (by kernel_rfl)

def group_Group_suits (K : Nat) (p0 : group_Group) (p1 : Int) (p2 : List Int) : Option Bool := (Option.bind (group_Group_formed K p0) (fun a1 => (if a1 = true then (Option.bind (group_Group_member K p0 p1) (fun a2 => (if a2 = true then (Option.bind (slices_ContainsFunc_43 K p2 p0) (fun a3 => some (!a3))) else some false))) else some false)))

theorem group_Group_suits.body {Γ : Ent} {K : Nat} {p0 : group_Group} {p1 : Int} {p2 : List Int} {r : Bool} (h : group_Group_suits K p0 p1 p2 = some r) : AWp V P 20 100 Γ (Try.f28.body.getD .skip) (EndsE P V Try.f28 (.B r) []) ⟨args0 0 [.agg [.ro Tag.t_api_Replica p0.Replicas, .ro Tag.t_bool p0.Up, .I p0.Leader, .I p0.Epoch], .I p1, .cv (.ro Tag.t_int p2)], []⟩ := by
  unfold group_Group_suits at h
  refine awp_seq ?_
  refine awp_region L 200 [] [] [] [1, 2, 3] [200] (cs := []) (S' := ⟨[(1, .I p1), (2, .cv (.ro Tag.t_int p2)), (3, .P 200)], [(200, .raw [.ro Tag.t_api_Replica p0.Replicas, .ro Tag.t_bool p0.Up, .I p0.Leader, .I p0.Epoch])]⟩) (by kernel_rfl) trivial ?_
  refine awp_seq ?_
  obtain ⟨a1, h1, h⟩ := bind_some h
  rcases ite_some h with ⟨c1, h⟩ | ⟨c1, h⟩
  · obtain ⟨a2, h2, h⟩ := bind_some h
    rcases ite_some h with ⟨c2, h⟩ | ⟨c2, h⟩
    · obtain ⟨a3, h3, h⟩ := bind_some h
      refine awp_region L 203 [(2, true), (7, true)] [(1, .B a1), (5, .B a2), (10, .B a3)] [] [6] [] (cs := [PCall V P 41 [.agg [.ro Tag.t_api_Replica p0.Replicas, .ro Tag.t_bool p0.Up, .I p0.Leader, .I p0.Epoch]] (.B a1), True, a1 = true, PCall V P 42 [.agg [.ro Tag.t_api_Replica p0.Replicas, .ro Tag.t_bool p0.Up, .I p0.Leader, .I p0.Epoch], .I p1] (.B a2), True, a2 = true, PCall V P 43 [.cv (.ro Tag.t_int p2), .cv (.fn (.func 44) [] [.pcs [.ro Tag.t_api_Replica p0.Replicas, .ro Tag.t_bool p0.Up, .I p0.Leader, .I p0.Epoch] 0])] (.B a3), True]) (S' := ⟨[(6, .B (!a3))], []⟩) (by kernel_rfl) (And.intro (group_Group_formed.ok h1) (And.intro trivial (And.intro c1 (And.intro (group_Group_member.ok h2) (And.intro trivial (And.intro c2 (And.intro (slices_ContainsFunc_43.ok h3) trivial))))))) ?_
      refine awp_ret ?_
      have hr := Option.some.inj h
      subst hr
      exact ⟨.inr rfl, .B (!a3), by kernel_rfl, by kernel_rfl, by kernel_rfl⟩
    · refine awp_region L 203 [(2, true), (7, false)] [(1, .B a1), (5, .B a2)] [] [6] [] (cs := [PCall V P 41 [.agg [.ro Tag.t_api_Replica p0.Replicas, .ro Tag.t_bool p0.Up, .I p0.Leader, .I p0.Epoch]] (.B a1), True, a1 = true, PCall V P 42 [.agg [.ro Tag.t_api_Replica p0.Replicas, .ro Tag.t_bool p0.Up, .I p0.Leader, .I p0.Epoch], .I p1] (.B a2), True, a2 = false]) (S' := ⟨[(6, .B false)], []⟩) (by kernel_rfl) (And.intro (group_Group_formed.ok h1) (And.intro trivial (And.intro c1 (And.intro (group_Group_member.ok h2) (And.intro trivial (eq_false_of_ne_true c2)))))) ?_
      refine awp_ret ?_
      have hr := Option.some.inj h
      subst hr
      exact ⟨.inr rfl, .B false, by kernel_rfl, by kernel_rfl, by kernel_rfl⟩
  · refine awp_region L 203 [(2, false)] [(1, .B a1)] [] [6] [] (cs := [PCall V P 41 [.agg [.ro Tag.t_api_Replica p0.Replicas, .ro Tag.t_bool p0.Up, .I p0.Leader, .I p0.Epoch]] (.B a1), True, a1 = false]) (S' := ⟨[(6, .B false)], []⟩) (by kernel_rfl) (And.intro (group_Group_formed.ok h1) (And.intro trivial (eq_false_of_ne_true c1))) ?_
    refine awp_ret ?_
    have hr := Option.some.inj h
    subst hr
    exact ⟨.inr rfl, .B false, by kernel_rfl, by kernel_rfl, by kernel_rfl⟩

theorem group_Group_suits.okE {K : Nat} {p0 : group_Group} {p1 : Int} {p2 : List Int} {r : Bool} (h : group_Group_suits K p0 p1 p2 = some r) : ECall V P 28 [.agg [.ro Tag.t_api_Replica p0.Replicas, .ro Tag.t_bool p0.Up, .I p0.Leader, .I p0.Epoch], .I p1, .cv (.ro Tag.t_int p2)] [] [] (.B r) [] :=
  ecall_of (fn := Try.f28) (n := 20) (m := 100) (by kernel_rfl) (by kernel_rfl) (by kernel_rfl) rfl (by kernel_rfl) (by kernel_rfl) fun Γ => group_Group_suits.body h

theorem group_Group_suits.ok {K : Nat} {p0 : group_Group} {p1 : Int} {p2 : List Int} {r : Bool} (h : group_Group_suits K p0 p1 p2 = some r) : PCall V P 28 [.agg [.ro Tag.t_api_Replica p0.Replicas, .ro Tag.t_bool p0.Up, .I p0.Leader, .I p0.Epoch], .I p1, .cv (.ro Tag.t_int p2)] (.B r) := (group_Group_suits.okE h).pcall (by kernel_rfl)

def ballot_candidate (K : Nat) (p0 : Int) : Option Bool := (if p0 ≥ 0 then some ((decide (p0 < 9))) else some false)

theorem ballot_candidate.body {Γ : Ent} {K : Nat} {p0 : Int} {r : Bool} (h : ballot_candidate K p0 = some r) : AWp V P 9 100 Γ (Try.f46.body.getD .skip) (EndsE P V Try.f46 (.B r) []) ⟨args0 0 [.I p0], []⟩ := by
  unfold ballot_candidate at h
  refine awp_seq ?_
  refine awp_region L 200 [] [] [] [0] [] (cs := []) (S' := ⟨[(0, .I p0)], []⟩) (by kernel_rfl) trivial ?_
  refine awp_seq ?_
  rcases ite_some h with ⟨c1, h⟩ | ⟨c1, h⟩
  · refine awp_region L 202 [(2, true)] [] [] [2] [] (cs := [(decide (p0 ≥ 0)) = true]) (S' := ⟨[(2, .B ((decide (p0 < 9))))], []⟩) (by kernel_rfl) (decide_eq_true c1) ?_
    refine awp_ret ?_
    have hr := Option.some.inj h
    subst hr
    exact ⟨.inr rfl, .B ((decide (p0 < 9))), by kernel_rfl, by kernel_rfl, by kernel_rfl⟩
  · refine awp_region L 202 [(2, false)] [] [] [2] [] (cs := [(decide (p0 ≥ 0)) = false]) (S' := ⟨[(2, .B false)], []⟩) (by kernel_rfl) (decide_eq_false c1) ?_
    refine awp_ret ?_
    have hr := Option.some.inj h
    subst hr
    exact ⟨.inr rfl, .B false, by kernel_rfl, by kernel_rfl, by kernel_rfl⟩

theorem ballot_candidate.okE {K : Nat} {p0 : Int} {r : Bool} (h : ballot_candidate K p0 = some r) : ECall V P 46 [.I p0] [] [] (.B r) [] :=
  ecall_of (fn := Try.f46) (n := 9) (m := 100) (by kernel_rfl) (by kernel_rfl) (by kernel_rfl) rfl (by kernel_rfl) (by kernel_rfl) fun Γ => ballot_candidate.body h

theorem ballot_candidate.ok {K : Nat} {p0 : Int} {r : Bool} (h : ballot_candidate K p0 = some r) : PCall V P 46 [.I p0] (.B r) := (ballot_candidate.okE h).pcall (by kernel_rfl)

def ballot_replica.l9 (K : Nat) (p0 : api_Replica) : Nat → Int → (List api_Entry) → Option (List api_Entry)
  | 0, _, _ => none
  | k + 1, xt9_9h, xh21902_9h => (if xt9_9h < (p0.Log.length : Int) then (if (0 : Int) ≤ xt9_9h ∧ (xt9_9h : Int) < (p0.Log.length : Int) then (Option.bind (bytes_Clone_38 K (((p0.Log.getD (Int.toNat xt9_9h) z_api_Entry)).Data)) (fun a1 => (if (xh21902_9h.length + (([(⟨((p0.Log.getD (Int.toNat xt9_9h) z_api_Entry)).Epoch, a1⟩ : api_Entry)] : List api_Entry)).length) * 32 ≤ 140737488355328 then ballot_replica.l9 K p0 k ((IntKind.i64.wrap (xt9_9h + 1))) ((xh21902_9h ++ ([(⟨((p0.Log.getD (Int.toNat xt9_9h) z_api_Entry)).Epoch, a1⟩ : api_Entry)] : List api_Entry))) else none))) else none) else some xh21902_9h)

def ballot_replica (K : Nat) (p0 : api_Replica) : Option api_Replica := (Option.bind (ballot_replica.l9 K p0 K 0 ([] : List api_Entry) : Option (List api_Entry)) (fun xh21802_9 => some (⟨p0.Epoch, p0.Vote, p0.Commit, xh21802_9⟩ : api_Replica)))

theorem ballot_replica.body {Γ : Ent} {K : Nat} {p0 : api_Replica} {r : api_Replica} (h : ballot_replica K p0 = some r) : AWp V P 26 100 Γ (Try.f47.body.getD .skip) (EndsE P V Try.f47 (.agg [.I ((r).Epoch), .I ((r).Vote), .I ((r).Commit), .ro Tag.t_api_Entry ((r).Log)]) []) ⟨args0 0 [.agg [.I p0.Epoch, .I p0.Vote, .I p0.Commit, .ro Tag.t_api_Entry p0.Log]], []⟩ := by
  unfold ballot_replica at h
  refine awp_seq ?_
  refine awp_region L 200 [] [] [] [1, 2] [200, 201] (cs := []) (S' := ⟨[(1, .P 200), (2, .P 201)], [(200, .raw [.I p0.Epoch, .I p0.Vote, .I p0.Commit, .ro Tag.t_api_Entry p0.Log]), (201, .raw [.I 0, .I 0, .I 0, .N])]⟩) (by kernel_rfl) trivial ?_
  refine awp_seq ?_
  refine awp_region L 203 [] [] [] [1, 2, 3] [200, 201] (cs := []) (S' := ⟨[(1, .P 200), (2, .P 201), (3, .N)], [(200, .raw [.I p0.Epoch, .I p0.Vote, .I p0.Commit, .ro Tag.t_api_Entry p0.Log]), (201, .raw [.I 0, .I 0, .I 0, .N])]⟩) (by kernel_rfl) trivial ?_
  refine awp_seq ?_
  refine awp_seq ?_
  refine awp_region L 205 [] [] [] [1, 2, 3, 7, 8, 9] [200, 201] (cs := []) (S' := ⟨[(1, .P 200), (2, .P 201), (3, .N), (7, .cv (.ro Tag.t_api_Entry p0.Log)), (8, .I (p0.Log.length : Int)), (9, .I 0)], [(200, .raw [.I p0.Epoch, .I p0.Vote, .I p0.Commit, .ro Tag.t_api_Entry p0.Log]), (201, .raw [.I 0, .I 0, .I 0, .N])]⟩) (by kernel_rfl) trivial ?_
  refine awp_block ?_
  refine awp_turn (Turns.trans (Turns.keep [1, 2, 3, 7, 8, 9] [200, 201] (S' := ⟨[(1, .P 200), (2, .P 201), (3, .N), (7, .cv (.ro Tag.t_api_Entry p0.Log)), (8, .I (p0.Log.length : Int)), (9, .I 0)], [(200, .raw [.I p0.Epoch, .I p0.Vote, .I p0.Commit, .ro Tag.t_api_Entry p0.Log]), (201, .raw [.I 0, .I 0, .I 0, .N])]⟩) (by kernel_rfl)) (Turns.trans (Turns.nilown 3 9500 Tag.t_api_Entry (by kernel_rfl) (by kernel_rfl) (S' := ⟨[(3, .cv (.own Tag.t_api_Entry 9500)), (1, .P 200), (2, .P 201), (7, .cv (.ro Tag.t_api_Entry p0.Log)), (8, .I (p0.Log.length : Int)), (9, .I 0)], [(9500, .lst Tag.t_api_Entry ([] : List api_Entry)), (200, .raw [.I p0.Epoch, .I p0.Vote, .I p0.Commit, .ro Tag.t_api_Entry p0.Log]), (201, .raw [.I 0, .I 0, .I 0, .N])]⟩) (by kernel_rfl)) (Turns.trans (Turns.keep [1, 2, 3, 7, 8, 9] [200, 201, 9500] (S' := ⟨[(1, .P 200), (2, .P 201), (3, .cv (.own Tag.t_api_Entry 9500)), (7, .cv (.ro Tag.t_api_Entry p0.Log)), (8, .I (p0.Log.length : Int)), (9, .I 0)], [(200, .raw [.I p0.Epoch, .I p0.Vote, .I p0.Commit, .ro Tag.t_api_Entry p0.Log]), (201, .raw [.I 0, .I 0, .I 0, .N]), (9500, .lst Tag.t_api_Entry ([] : List api_Entry))]⟩) (by kernel_rfl)) (Turns.ren [(200, 21900), (201, 21901), (9500, 21902)] (S' := ⟨[(1, .P 21900), (2, .P 21901), (3, .cv (.own Tag.t_api_Entry 21902)), (7, .cv (.ro Tag.t_api_Entry p0.Log)), (8, .I (p0.Log.length : Int)), (9, .I 0)], [(21900, .raw [.I p0.Epoch, .I p0.Vote, .I p0.Commit, .ro Tag.t_api_Entry p0.Log]), (21901, .raw [.I 0, .I 0, .I 0, .N]), (21902, .lst Tag.t_api_Entry ([] : List api_Entry))]⟩) (by kernel_rfl) (by kernel_rfl))))) ?_
  refine awp_keep (ts := [1, 2, 3, 7, 8, 9]) (ids := [21900, 21901, 21902]) (S' := ⟨[(1, .P 21900), (2, .P 21901), (3, .cv (.own Tag.t_api_Entry 21902)), (7, .cv (.ro Tag.t_api_Entry p0.Log)), (8, .I (p0.Log.length : Int)), (9, .I 0)], [(21900, .raw [.I p0.Epoch, .I p0.Vote, .I p0.Commit, .ro Tag.t_api_Entry p0.Log]), (21901, .raw [.I 0, .I 0, .I 0, .N]), (21902, .lst Tag.t_api_Entry ([] : List api_Entry))]⟩) (by kernel_rfl) ?_
  obtain ⟨o1, hp1, h⟩ := bind_some h
  refine awp_conseq (Q' := fun e S => (e = .exit 0 ∧ ∃ xh21802_9 : List api_Entry, S = ⟨[(1, .P 21800), (2, .P 21801), (3, .cv (.own Tag.t_api_Entry 21802))], [(21800, .raw [.I p0.Epoch, .I p0.Vote, .I p0.Commit, .ro Tag.t_api_Entry p0.Log]), (21801, .raw [.I 0, .I 0, .I 0, .N]), (21802, .lst Tag.t_api_Entry xh21802_9)]⟩ ∧ xh21802_9 = o1)) (awp_loop (fun k S => ∃ xt9_9h : Int, ∃ xh21902_9h : List api_Entry, S = ⟨[(1, .P 21900), (2, .P 21901), (3, .cv (.own Tag.t_api_Entry 21902)), (7, .cv (.ro Tag.t_api_Entry p0.Log)), (8, .I (p0.Log.length : Int)), (9, .I xt9_9h)], [(21900, .raw [.I p0.Epoch, .I p0.Vote, .I p0.Commit, .ro Tag.t_api_Entry p0.Log]), (21901, .raw [.I 0, .I 0, .I 0, .N]), (21902, .lst Tag.t_api_Entry xh21902_9h)]⟩ ∧ ballot_replica.l9 K p0 k xt9_9h xh21902_9h = some o1) ?_ ⟨_, _, rfl, hp1⟩) ?_
  · clear h hp1
    intro k S hS
    obtain ⟨xt9_9h, xh21902_9h, rfl, h⟩ := hS
    cases k with
    | zero => cases h
    | succ k =>
    unfold ballot_replica.l9 at h
    refine awp_seq ?_
    refine awp_region L 210 [] [] [] [1, 2, 3, 7, 8, 9, 10] [21900, 21901, 21902] (cs := []) (S' := ⟨[(1, .P 21900), (2, .P 21901), (3, .cv (.own Tag.t_api_Entry 21902)), (7, .cv (.ro Tag.t_api_Entry p0.Log)), (8, .I (p0.Log.length : Int)), (9, .I xt9_9h), (10, .B ((decide (xt9_9h < (p0.Log.length : Int)))))], [(21900, .raw [.I p0.Epoch, .I p0.Vote, .I p0.Commit, .ro Tag.t_api_Entry p0.Log]), (21901, .raw [.I 0, .I 0, .I 0, .N]), (21902, .lst Tag.t_api_Entry xh21902_9h)]⟩) (by kernel_rfl) trivial ?_
    refine awp_seq ?_
    rcases ite_some h with ⟨c1, h⟩ | ⟨c1, h⟩
    · refine awp_true (b := (decide (xt9_9h < (p0.Log.length : Int)))) (by kernel_rfl) (decide_eq_true c1) ?_
      refine awp_skip [1, 2, 3, 7, 8, 9] [21900, 21901, 21902] (S' := ⟨[(1, .P 21900), (2, .P 21901), (3, .cv (.own Tag.t_api_Entry 21902)), (7, .cv (.ro Tag.t_api_Entry p0.Log)), (8, .I (p0.Log.length : Int)), (9, .I xt9_9h)], [(21900, .raw [.I p0.Epoch, .I p0.Vote, .I p0.Commit, .ro Tag.t_api_Entry p0.Log]), (21901, .raw [.I 0, .I 0, .I 0, .N]), (21902, .lst Tag.t_api_Entry xh21902_9h)]⟩) (by kernel_rfl) ?_
      refine awp_seq ?_
      refine awp_block ?_
      refine awp_seq ?_
      obtain ⟨g1, h⟩ := guard_some h
      refine awp_region L 212 [] [] [] [1, 2, 3, 5, 7, 8, 9] [214, 21900, 21901, 21902] (cs := [(0 : Int) ≤ xt9_9h, (xt9_9h : Int) < (p0.Log.length : Int)]) (S' := ⟨[(1, .P 21900), (2, .P 21901), (3, .cv (.own Tag.t_api_Entry 21902)), (5, .P 214), (7, .cv (.ro Tag.t_api_Entry p0.Log)), (8, .I (p0.Log.length : Int)), (9, .I xt9_9h)], [(214, .raw [.I (((p0.Log.getD (Int.toNat xt9_9h) z_api_Entry)).Epoch), .ro Tag.t_uint8 (((p0.Log.getD (Int.toNat xt9_9h) z_api_Entry)).Data)]), (21900, .raw [.I p0.Epoch, .I p0.Vote, .I p0.Commit, .ro Tag.t_api_Entry p0.Log]), (21901, .raw [.I 0, .I 0, .I 0, .N]), (21902, .lst Tag.t_api_Entry xh21902_9h)]⟩) (by kernel_rfl) (And.intro g1.1 g1.2) ?_
      obtain ⟨a1, ha1, h⟩ := bind_some h
      obtain ⟨g2, h⟩ := guard_some h
      refine awp_draw L mixed 217 [] [(5, .cv (.ro Tag.t_uint8 a1))] [] [] 8 [1, 2, 3, 7, 8, 9] [21900, 21901, 21902] (cs := [PCall V P 38 [.cv (.ro Tag.t_uint8 (((p0.Log.getD (Int.toNat xt9_9h) z_api_Entry)).Data))] (.cv (.ro Tag.t_uint8 a1)), True, (xh21902_9h.length + (([(⟨((p0.Log.getD (Int.toNat xt9_9h) z_api_Entry)).Epoch, a1⟩ : api_Entry)] : List api_Entry)).length) * 32 ≤ 140737488355328, True]) (S' := ⟨[(1, .P 21900), (2, .P 21901), (3, .cv (.own Tag.t_api_Entry 21902)), (7, .cv (.ro Tag.t_api_Entry p0.Log)), (8, .I (p0.Log.length : Int)), (9, .I xt9_9h)], [(21900, .raw [.I p0.Epoch, .I p0.Vote, .I p0.Commit, .ro Tag.t_api_Entry p0.Log]), (21901, .raw [.I 0, .I 0, .I 0, .N]), (21902, .lst Tag.t_api_Entry ((xh21902_9h ++ ([(⟨((p0.Log.getD (Int.toNat xt9_9h) z_api_Entry)).Epoch, a1⟩ : api_Entry)] : List api_Entry))))]⟩) (by kernel_rfl) (And.intro (bytes_Clone_38.ok ha1) (And.intro trivial (And.intro g2 trivial))) ?_
      refine awp_region L 228 [] [] [] [1, 2, 3, 7, 8, 9] [21900, 21901, 21902] (cs := []) (S' := ⟨[(1, .P 21900), (2, .P 21901), (3, .cv (.own Tag.t_api_Entry 21902)), (7, .cv (.ro Tag.t_api_Entry p0.Log)), (8, .I (p0.Log.length : Int)), (9, .I ((IntKind.i64.wrap (xt9_9h + 1))))], [(21900, .raw [.I p0.Epoch, .I p0.Vote, .I p0.Commit, .ro Tag.t_api_Entry p0.Log]), (21901, .raw [.I 0, .I 0, .I 0, .N]), (21902, .lst Tag.t_api_Entry ((xh21902_9h ++ ([(⟨((p0.Log.getD (Int.toNat xt9_9h) z_api_Entry)).Epoch, a1⟩ : api_Entry)] : List api_Entry))))]⟩) (by kernel_rfl) trivial ?_
      exact ⟨k, Nat.lt_succ_self k, _, _, rfl, h⟩
    · refine awp_false (b := (decide (xt9_9h < (p0.Log.length : Int)))) (by kernel_rfl) (decide_eq_false c1) ?_
      refine awp_turn (Turns.trans (Turns.keep [1, 2, 3] [21900, 21901, 21902] (S' := ⟨[(1, .P 21900), (2, .P 21901), (3, .cv (.own Tag.t_api_Entry 21902))], [(21900, .raw [.I p0.Epoch, .I p0.Vote, .I p0.Commit, .ro Tag.t_api_Entry p0.Log]), (21901, .raw [.I 0, .I 0, .I 0, .N]), (21902, .lst Tag.t_api_Entry xh21902_9h)]⟩) (by kernel_rfl)) (Turns.ren [(21900, 21800), (21901, 21801), (21902, 21802)] (S' := ⟨[(1, .P 21800), (2, .P 21801), (3, .cv (.own Tag.t_api_Entry 21802))], [(21800, .raw [.I p0.Epoch, .I p0.Vote, .I p0.Commit, .ro Tag.t_api_Entry p0.Log]), (21801, .raw [.I 0, .I 0, .I 0, .N]), (21802, .lst Tag.t_api_Entry xh21902_9h)]⟩) (by kernel_rfl) (by kernel_rfl))) ?_
      refine awp_exit [1, 2, 3] [21800, 21801, 21802] (S' := ⟨[(1, .P 21800), (2, .P 21801), (3, .cv (.own Tag.t_api_Entry 21802))], [(21800, .raw [.I p0.Epoch, .I p0.Vote, .I p0.Commit, .ro Tag.t_api_Entry p0.Log]), (21801, .raw [.I 0, .I 0, .I 0, .N]), (21802, .lst Tag.t_api_Entry xh21902_9h)]⟩) (by kernel_rfl) ?_
      have hr := Option.some.inj h
      subst hr
      exact ⟨rfl, _, rfl, rfl⟩
  · rintro e S ⟨rfl, xh21802_9, rfl, rfl⟩
    refine ⟨_, Turns.refl, ?_⟩
    refine awp_seq ?_
    refine awp_region L 231 [] [] [] [1, 2] [21800, 21801, 21802] (cs := []) (S' := ⟨[(1, .P 21800), (2, .P 21801)], [(21800, .raw [.I p0.Epoch, .I p0.Vote, .I p0.Commit, .own Tag.t_api_Entry 21802]), (21801, .raw [.I 0, .I 0, .I 0, .N]), (21802, .lst Tag.t_api_Entry xh21802_9)]⟩) (by kernel_rfl) trivial ?_
    refine awp_seq ?_
    refine awp_region L 235 [] [] [] [2] [21801, 21802] (cs := []) (S' := ⟨[(2, .P 21801)], [(21801, .raw [.I p0.Epoch, .I p0.Vote, .I p0.Commit, .own Tag.t_api_Entry 21802]), (21802, .lst Tag.t_api_Entry xh21802_9)]⟩) (by kernel_rfl) trivial ?_
    refine awp_turn (Turns.trans (Turns.keep [2] [21801, 21802] (S' := ⟨[(2, .P 21801)], [(21801, .raw [.I p0.Epoch, .I p0.Vote, .I p0.Commit, .own Tag.t_api_Entry 21802]), (21802, .lst Tag.t_api_Entry xh21802_9)]⟩) (by kernel_rfl)) (Turns.trans (Turns.frz 21802 (blk0 := .lst Tag.t_api_Entry xh21802_9) (by kernel_rfl) (by kernel_rfl) (S' := ⟨[(2, .P 21801)], [(21801, .raw [.I p0.Epoch, .I p0.Vote, .I p0.Commit, .ro Tag.t_api_Entry xh21802_9])]⟩) (by kernel_rfl)) (Turns.trans (Turns.keep [2] [21801] (S' := ⟨[(2, .P 21801)], [(21801, .raw [.I p0.Epoch, .I p0.Vote, .I p0.Commit, .ro Tag.t_api_Entry xh21802_9])]⟩) (by kernel_rfl)) (Turns.ren [(21801, 100)] (S' := ⟨[(2, .P 100)], [(100, .raw [.I p0.Epoch, .I p0.Vote, .I p0.Commit, .ro Tag.t_api_Entry xh21802_9])]⟩) (by kernel_rfl) (by kernel_rfl))))) ?_
    refine awp_ret ?_
    have hr := Option.some.inj h
    subst hr
    exact ⟨.inr rfl, .agg [.I p0.Epoch, .I p0.Vote, .I p0.Commit, .ro Tag.t_api_Entry xh21802_9], by kernel_rfl, by kernel_rfl, by kernel_rfl⟩

theorem ballot_replica.okE {K : Nat} {p0 : api_Replica} {r : api_Replica} (h : ballot_replica K p0 = some r) : ECall V P 47 [.agg [.I p0.Epoch, .I p0.Vote, .I p0.Commit, .ro Tag.t_api_Entry p0.Log]] [] [] (.agg [.I ((r).Epoch), .I ((r).Vote), .I ((r).Commit), .ro Tag.t_api_Entry ((r).Log)]) [] :=
  ecall_of (fn := Try.f47) (n := 26) (m := 100) (by kernel_rfl) (by kernel_rfl) (by kernel_rfl) rfl (by kernel_rfl) (by kernel_rfl) fun Γ => ballot_replica.body h

theorem ballot_replica.ok {K : Nat} {p0 : api_Replica} {r : api_Replica} (h : ballot_replica K p0 = some r) : PCall V P 47 [.agg [.I p0.Epoch, .I p0.Vote, .I p0.Commit, .ro Tag.t_api_Entry p0.Log]] (.agg [.I ((r).Epoch), .I ((r).Vote), .I ((r).Commit), .ro Tag.t_api_Entry ((r).Log)]) := (ballot_replica.okE h).pcall (by kernel_rfl)

def ballot_Stand (K : Nat) (p0 : api_Replica) (p1 : Int) : Option (api_Replica × Int) := (Option.bind (replog_Right K p0) (fun a1 => (if a1 = true then (Option.bind (ballot_candidate K p1) (fun a2 => (if a2 = true then (if p0.Epoch ≥ 1099511627776 then some (((⟨0, 0, 0, ([] : List api_Entry)⟩ : api_Replica), 19)) else (Option.bind (ballot_replica K p0) (fun a3 => some (((⟨(IntKind.i64.wrap ((a3).Epoch + 1)), p1, (a3).Commit, (a3).Log⟩ : api_Replica), 0))))) else some (((⟨0, 0, 0, ([] : List api_Entry)⟩ : api_Replica), 2))))) else some (((⟨0, 0, 0, ([] : List api_Entry)⟩ : api_Replica), 2)))))

theorem ballot_Stand.body {Γ : Ent} {K : Nat} {p0 : api_Replica} {p1 : Int} {r : api_Replica × Int} (h : ballot_Stand K p0 p1 = some r) : AWp V P 28 100 Γ (Try.f29.body.getD .skip) (EndsE P V Try.f29 (.tup [.agg [.I ((r.1).Epoch), .I ((r.1).Vote), .I ((r.1).Commit), .ro Tag.t_api_Entry ((r.1).Log)], .I r.2]) []) ⟨args0 0 [.agg [.I p0.Epoch, .I p0.Vote, .I p0.Commit, .ro Tag.t_api_Entry p0.Log], .I p1], []⟩ := by
  unfold ballot_Stand at h
  refine awp_seq ?_
  refine awp_region L 200 [] [] [] [1, 2, 4] [200, 201] (cs := []) (S' := ⟨[(1, .I p1), (2, .P 200), (4, .P 201)], [(200, .raw [.I p0.Epoch, .I p0.Vote, .I p0.Commit, .ro Tag.t_api_Entry p0.Log]), (201, .raw [.I 0, .I 0, .I 0, .N])]⟩) (by kernel_rfl) trivial ?_
  refine awp_seq ?_
  refine awp_seq ?_
  obtain ⟨a1, h1, h⟩ := bind_some h
  rcases ite_some h with ⟨c1, h⟩ | ⟨c1, h⟩
  · obtain ⟨a2, h2, h⟩ := bind_some h
    refine awp_region L 204 [(3, false)] [(1, .B a1), (5, .B a2)] [] [1, 2, 4, 13] [200, 201] (cs := [PCall V P 45 [.agg [.I p0.Epoch, .I p0.Vote, .I p0.Commit, .ro Tag.t_api_Entry p0.Log]] (.B a1), True, (!a1) = false, PCall V P 46 [.I p1] (.B a2), True]) (S' := ⟨[(1, .I p1), (2, .P 200), (4, .P 201), (13, .B (!a2))], [(200, .raw [.I p0.Epoch, .I p0.Vote, .I p0.Commit, .ro Tag.t_api_Entry p0.Log]), (201, .raw [.I 0, .I 0, .I 0, .N])]⟩) (by kernel_rfl) (And.intro (replog_Right.ok h1) (And.intro trivial (And.intro (congrArg Bool.not (c1)) (And.intro (ballot_candidate.ok h2) trivial)))) ?_
    rcases ite_some h with ⟨c2, h⟩ | ⟨c2, h⟩
    · refine awp_false (b := (!a2)) (by kernel_rfl) (congrArg Bool.not (c2)) ?_
      refine awp_skip [1, 2, 4] [200, 201] (S' := ⟨[(1, .I p1), (2, .P 200), (4, .P 201)], [(200, .raw [.I p0.Epoch, .I p0.Vote, .I p0.Commit, .ro Tag.t_api_Entry p0.Log]), (201, .raw [.I 0, .I 0, .I 0, .N])]⟩) (by kernel_rfl) ?_
      refine awp_seq ?_
      refine awp_seq ?_
      refine awp_region L 217 [] [] [] [1, 2, 4, 17] [200, 201] (cs := []) (S' := ⟨[(1, .I p1), (2, .P 200), (4, .P 201), (17, .B ((decide (p0.Epoch ≥ 1099511627776))))], [(200, .raw [.I p0.Epoch, .I p0.Vote, .I p0.Commit, .ro Tag.t_api_Entry p0.Log]), (201, .raw [.I 0, .I 0, .I 0, .N])]⟩) (by kernel_rfl) trivial ?_
      rcases ite_some h with ⟨c3, h⟩ | ⟨c3, h⟩
      · refine awp_true (b := (decide (p0.Epoch ≥ 1099511627776))) (by kernel_rfl) (decide_eq_true c3) ?_
        refine awp_seq ?_
        refine awp_region L 221 [] [] [] [4, 5] [201] (cs := []) (S' := ⟨[(4, .P 201), (5, .I 19)], [(201, .raw [.I 0, .I 0, .I 0, .N])]⟩) (by kernel_rfl) trivial ?_
        refine awp_turn (Turns.trans (Turns.keep [4, 5] [201] (S' := ⟨[(4, .P 201), (5, .I 19)], [(201, .raw [.I 0, .I 0, .I 0, .N])]⟩) (by kernel_rfl)) (Turns.ren [(201, 100)] (S' := ⟨[(4, .P 100), (5, .I 19)], [(100, .raw [.I 0, .I 0, .I 0, .N])]⟩) (by kernel_rfl) (by kernel_rfl))) ?_
        refine awp_ret ?_
        have hr := Option.some.inj h
        subst hr
        exact ⟨.inr rfl, .tup [.agg [.I 0, .I 0, .I 0, .N], .I 19], by kernel_rfl, by kernel_rfl, by kernel_rfl⟩
      · refine awp_false (b := (decide (p0.Epoch ≥ 1099511627776))) (by kernel_rfl) (decide_eq_false c3) ?_
        refine awp_skip [1, 2, 4] [200, 201] (S' := ⟨[(1, .I p1), (2, .P 200), (4, .P 201)], [(200, .raw [.I p0.Epoch, .I p0.Vote, .I p0.Commit, .ro Tag.t_api_Entry p0.Log]), (201, .raw [.I 0, .I 0, .I 0, .N])]⟩) (by kernel_rfl) ?_
        refine awp_seq ?_
        obtain ⟨a3, h3, h⟩ := bind_some h
        refine awp_region L 225 [] [(1, .agg [.I ((a3).Epoch), .I ((a3).Vote), .I ((a3).Commit), .ro Tag.t_api_Entry ((a3).Log)])] [] [1, 2, 4] [200, 201] (cs := [PCall V P 47 [.agg [.I p0.Epoch, .I p0.Vote, .I p0.Commit, .ro Tag.t_api_Entry p0.Log]] (.agg [.I ((a3).Epoch), .I ((a3).Vote), .I ((a3).Commit), .ro Tag.t_api_Entry ((a3).Log)]), True]) (S' := ⟨[(1, .I p1), (2, .P 200), (4, .P 201)], [(200, .raw [.I ((a3).Epoch), .I ((a3).Vote), .I ((a3).Commit), .ro Tag.t_api_Entry ((a3).Log)]), (201, .raw [.I 0, .I 0, .I 0, .N])]⟩) (by kernel_rfl) (And.intro (ballot_replica.ok h3) trivial) ?_
        refine awp_seq ?_
        refine awp_region L 229 [] [] [] [2, 4] [200, 201] (cs := []) (S' := ⟨[(2, .P 200), (4, .P 201)], [(200, .raw [.I ((IntKind.i64.wrap ((a3).Epoch + 1))), .I p1, .I ((a3).Commit), .ro Tag.t_api_Entry ((a3).Log)]), (201, .raw [.I 0, .I 0, .I 0, .N])]⟩) (by kernel_rfl) trivial ?_
        refine awp_seq ?_
        refine awp_region L 238 [] [] [] [4, 5] [201] (cs := []) (S' := ⟨[(4, .P 201), (5, .I 0)], [(201, .raw [.I ((IntKind.i64.wrap ((a3).Epoch + 1))), .I p1, .I ((a3).Commit), .ro Tag.t_api_Entry ((a3).Log)])]⟩) (by kernel_rfl) trivial ?_
        refine awp_turn (Turns.trans (Turns.keep [4, 5] [201] (S' := ⟨[(4, .P 201), (5, .I 0)], [(201, .raw [.I ((IntKind.i64.wrap ((a3).Epoch + 1))), .I p1, .I ((a3).Commit), .ro Tag.t_api_Entry ((a3).Log)])]⟩) (by kernel_rfl)) (Turns.ren [(201, 100)] (S' := ⟨[(4, .P 100), (5, .I 0)], [(100, .raw [.I ((IntKind.i64.wrap ((a3).Epoch + 1))), .I p1, .I ((a3).Commit), .ro Tag.t_api_Entry ((a3).Log)])]⟩) (by kernel_rfl) (by kernel_rfl))) ?_
        refine awp_ret ?_
        have hr := Option.some.inj h
        subst hr
        exact ⟨.inr rfl, .tup [.agg [.I ((IntKind.i64.wrap ((a3).Epoch + 1))), .I p1, .I ((a3).Commit), .ro Tag.t_api_Entry ((a3).Log)], .I 0], by kernel_rfl, by kernel_rfl, by kernel_rfl⟩
    · refine awp_true (b := (!a2)) (by kernel_rfl) (congrArg Bool.not (eq_false_of_ne_true c2)) ?_
      refine awp_seq ?_
      refine awp_region L 213 [] [] [] [4, 5] [201] (cs := []) (S' := ⟨[(4, .P 201), (5, .I 2)], [(201, .raw [.I 0, .I 0, .I 0, .N])]⟩) (by kernel_rfl) trivial ?_
      refine awp_turn (Turns.trans (Turns.keep [4, 5] [201] (S' := ⟨[(4, .P 201), (5, .I 2)], [(201, .raw [.I 0, .I 0, .I 0, .N])]⟩) (by kernel_rfl)) (Turns.ren [(201, 100)] (S' := ⟨[(4, .P 100), (5, .I 2)], [(100, .raw [.I 0, .I 0, .I 0, .N])]⟩) (by kernel_rfl) (by kernel_rfl))) ?_
      refine awp_ret ?_
      have hr := Option.some.inj h
      subst hr
      exact ⟨.inr rfl, .tup [.agg [.I 0, .I 0, .I 0, .N], .I 2], by kernel_rfl, by kernel_rfl, by kernel_rfl⟩
  · refine awp_region L 204 [(3, true)] [(1, .B a1)] [] [1, 2, 4, 13] [200, 201] (cs := [PCall V P 45 [.agg [.I p0.Epoch, .I p0.Vote, .I p0.Commit, .ro Tag.t_api_Entry p0.Log]] (.B a1), True, (!a1) = true]) (S' := ⟨[(1, .I p1), (2, .P 200), (4, .P 201), (13, .B true)], [(200, .raw [.I p0.Epoch, .I p0.Vote, .I p0.Commit, .ro Tag.t_api_Entry p0.Log]), (201, .raw [.I 0, .I 0, .I 0, .N])]⟩) (by kernel_rfl) (And.intro (replog_Right.ok h1) (And.intro trivial (congrArg Bool.not (eq_false_of_ne_true c1)))) ?_
    refine awp_true (b := true) (by kernel_rfl) (rfl) ?_
    refine awp_seq ?_
    refine awp_region L 213 [] [] [] [4, 5] [201] (cs := []) (S' := ⟨[(4, .P 201), (5, .I 2)], [(201, .raw [.I 0, .I 0, .I 0, .N])]⟩) (by kernel_rfl) trivial ?_
    refine awp_turn (Turns.trans (Turns.keep [4, 5] [201] (S' := ⟨[(4, .P 201), (5, .I 2)], [(201, .raw [.I 0, .I 0, .I 0, .N])]⟩) (by kernel_rfl)) (Turns.ren [(201, 100)] (S' := ⟨[(4, .P 100), (5, .I 2)], [(100, .raw [.I 0, .I 0, .I 0, .N])]⟩) (by kernel_rfl) (by kernel_rfl))) ?_
    refine awp_ret ?_
    have hr := Option.some.inj h
    subst hr
    exact ⟨.inr rfl, .tup [.agg [.I 0, .I 0, .I 0, .N], .I 2], by kernel_rfl, by kernel_rfl, by kernel_rfl⟩

theorem ballot_Stand.okE {K : Nat} {p0 : api_Replica} {p1 : Int} {r : api_Replica × Int} (h : ballot_Stand K p0 p1 = some r) : ECall V P 29 [.agg [.I p0.Epoch, .I p0.Vote, .I p0.Commit, .ro Tag.t_api_Entry p0.Log], .I p1] [] [] (.tup [.agg [.I ((r.1).Epoch), .I ((r.1).Vote), .I ((r.1).Commit), .ro Tag.t_api_Entry ((r.1).Log)], .I r.2]) [] :=
  ecall_of (fn := Try.f29) (n := 28) (m := 100) (by kernel_rfl) (by kernel_rfl) (by kernel_rfl) rfl (by kernel_rfl) (by kernel_rfl) fun Γ => ballot_Stand.body h

theorem ballot_Stand.ok {K : Nat} {p0 : api_Replica} {p1 : Int} {r : api_Replica × Int} (h : ballot_Stand K p0 p1 = some r) : PCall V P 29 [.agg [.I p0.Epoch, .I p0.Vote, .I p0.Commit, .ro Tag.t_api_Entry p0.Log], .I p1] (.tup [.agg [.I ((r.1).Epoch), .I ((r.1).Vote), .I ((r.1).Commit), .ro Tag.t_api_Entry ((r.1).Log)], .I r.2]) := (ballot_Stand.okE h).pcall (by kernel_rfl)

def group_copied.l9 (K : Nat) (p0 : api_Replica) : Nat → Int → (List api_Entry) → Option (List api_Entry)
  | 0, _, _ => none
  | k + 1, xt11_9h, xh21902_9h => (if xt11_9h < (p0.Log.length : Int) then (if (0 : Int) ≤ xt11_9h ∧ (xt11_9h : Int) < (xh21902_9h.length : Int) then (if (Int.toNat xt11_9h) < xh21902_9h.length then (Option.bind (bytes_Clone_38 K (((xh21902_9h.getD (Int.toNat xt11_9h) z_api_Entry)).Data)) (fun a1 => group_copied.l9 K p0 k ((IntKind.i64.wrap (xt11_9h + 1))) ((xh21902_9h.set (Int.toNat xt11_9h) ((⟨((xh21902_9h.getD (Int.toNat xt11_9h) z_api_Entry)).Epoch, a1⟩ : api_Entry)))))) else none) else none) else some xh21902_9h)

def group_copied (K : Nat) (p0 : api_Replica) : Option api_Replica := (if p0.Log.length * 32 ≤ 140737488355328 then (Option.bind (group_copied.l9 K p0 K 0 p0.Log : Option (List api_Entry)) (fun xh21802_9 => some (⟨p0.Epoch, p0.Vote, p0.Commit, xh21802_9⟩ : api_Replica))) else none)

theorem group_copied.body {Γ : Ent} {K : Nat} {p0 : api_Replica} {r : api_Replica} (h : group_copied K p0 = some r) : AWp V P 28 100 Γ (Try.f50.body.getD .skip) (EndsE P V Try.f50 (.agg [.I ((r).Epoch), .I ((r).Vote), .I ((r).Commit), .ro Tag.t_api_Entry ((r).Log)]) []) ⟨args0 0 [.agg [.I p0.Epoch, .I p0.Vote, .I p0.Commit, .ro Tag.t_api_Entry p0.Log]], []⟩ := by
  unfold group_copied at h
  refine awp_seq ?_
  refine awp_region L 200 [] [] [] [1, 2] [200, 201] (cs := []) (S' := ⟨[(1, .P 200), (2, .P 201)], [(200, .raw [.I p0.Epoch, .I p0.Vote, .I p0.Commit, .ro Tag.t_api_Entry p0.Log]), (201, .raw [.I 0, .I 0, .I 0, .N])]⟩) (by kernel_rfl) trivial ?_
  refine awp_seq ?_
  obtain ⟨g1, h⟩ := guard_some h
  refine awp_region L 203 [] [(2, .cv (.ron Tag.t_api_Entry p0.Log))] [] [1, 2] [200, 201, 205] (cs := [FCall V P 65 [.cv (.ro Tag.t_api_Entry p0.Log)] Tag.t_api_Entry p0.Log]) (S' := ⟨[(1, .P 200), (2, .P 201)], [(200, .raw [.I p0.Epoch, .I p0.Vote, .I p0.Commit, .own Tag.t_api_Entry 205]), (201, .raw [.I 0, .I 0, .I 0, .N]), (205, .lst Tag.t_api_Entry p0.Log)]⟩) (by kernel_rfl) (slices_Clone_65.okF (show slices_Clone_65 0 p0.Log = some p0.Log from if_pos g1)) ?_
  refine awp_seq ?_
  refine awp_seq ?_
  refine awp_region L 209 [] [] [] [1, 2, 10, 11] [200, 201, 205] (cs := []) (S' := ⟨[(1, .P 200), (2, .P 201), (10, .I (p0.Log.length : Int)), (11, .I 0)], [(200, .raw [.I p0.Epoch, .I p0.Vote, .I p0.Commit, .own Tag.t_api_Entry 205]), (201, .raw [.I 0, .I 0, .I 0, .N]), (205, .lst Tag.t_api_Entry p0.Log)]⟩) (by kernel_rfl) trivial ?_
  refine awp_block ?_
  refine awp_turn (Turns.trans (Turns.keep [1, 2, 10, 11] [200, 201, 205] (S' := ⟨[(1, .P 200), (2, .P 201), (10, .I (p0.Log.length : Int)), (11, .I 0)], [(200, .raw [.I p0.Epoch, .I p0.Vote, .I p0.Commit, .own Tag.t_api_Entry 205]), (201, .raw [.I 0, .I 0, .I 0, .N]), (205, .lst Tag.t_api_Entry p0.Log)]⟩) (by kernel_rfl)) (Turns.ren [(200, 21900), (201, 21901), (205, 21902)] (S' := ⟨[(1, .P 21900), (2, .P 21901), (10, .I (p0.Log.length : Int)), (11, .I 0)], [(21900, .raw [.I p0.Epoch, .I p0.Vote, .I p0.Commit, .own Tag.t_api_Entry 21902]), (21901, .raw [.I 0, .I 0, .I 0, .N]), (21902, .lst Tag.t_api_Entry p0.Log)]⟩) (by kernel_rfl) (by kernel_rfl))) ?_
  refine awp_keep (ts := [1, 2, 10, 11]) (ids := [21900, 21901, 21902]) (S' := ⟨[(1, .P 21900), (2, .P 21901), (10, .I (p0.Log.length : Int)), (11, .I 0)], [(21900, .raw [.I p0.Epoch, .I p0.Vote, .I p0.Commit, .own Tag.t_api_Entry 21902]), (21901, .raw [.I 0, .I 0, .I 0, .N]), (21902, .lst Tag.t_api_Entry p0.Log)]⟩) (by kernel_rfl) ?_
  obtain ⟨o1, hp1, h⟩ := bind_some h
  refine awp_conseq (Q' := fun e S => (e = .exit 0 ∧ ∃ xh21802_9 : List api_Entry, S = ⟨[(1, .P 21800), (2, .P 21801)], [(21800, .raw [.I p0.Epoch, .I p0.Vote, .I p0.Commit, .own Tag.t_api_Entry 21802]), (21801, .raw [.I 0, .I 0, .I 0, .N]), (21802, .lst Tag.t_api_Entry xh21802_9)]⟩ ∧ xh21802_9 = o1)) (awp_loop (fun k S => ∃ xt11_9h : Int, ∃ xh21902_9h : List api_Entry, S = ⟨[(1, .P 21900), (2, .P 21901), (10, .I (p0.Log.length : Int)), (11, .I xt11_9h)], [(21900, .raw [.I p0.Epoch, .I p0.Vote, .I p0.Commit, .own Tag.t_api_Entry 21902]), (21901, .raw [.I 0, .I 0, .I 0, .N]), (21902, .lst Tag.t_api_Entry xh21902_9h)]⟩ ∧ group_copied.l9 K p0 k xt11_9h xh21902_9h = some o1) ?_ ⟨_, _, rfl, hp1⟩) ?_
  · clear h hp1
    intro k S hS
    obtain ⟨xt11_9h, xh21902_9h, rfl, h⟩ := hS
    cases k with
    | zero => cases h
    | succ k =>
    unfold group_copied.l9 at h
    refine awp_seq ?_
    refine awp_region L 214 [] [] [] [1, 2, 10, 11, 12] [21900, 21901, 21902] (cs := []) (S' := ⟨[(1, .P 21900), (2, .P 21901), (10, .I (p0.Log.length : Int)), (11, .I xt11_9h), (12, .B ((decide (xt11_9h < (p0.Log.length : Int)))))], [(21900, .raw [.I p0.Epoch, .I p0.Vote, .I p0.Commit, .own Tag.t_api_Entry 21902]), (21901, .raw [.I 0, .I 0, .I 0, .N]), (21902, .lst Tag.t_api_Entry xh21902_9h)]⟩) (by kernel_rfl) trivial ?_
    refine awp_seq ?_
    rcases ite_some h with ⟨c1, h⟩ | ⟨c1, h⟩
    · refine awp_true (b := (decide (xt11_9h < (p0.Log.length : Int)))) (by kernel_rfl) (decide_eq_true c1) ?_
      refine awp_skip [1, 2, 10, 11] [21900, 21901, 21902] (S' := ⟨[(1, .P 21900), (2, .P 21901), (10, .I (p0.Log.length : Int)), (11, .I xt11_9h)], [(21900, .raw [.I p0.Epoch, .I p0.Vote, .I p0.Commit, .own Tag.t_api_Entry 21902]), (21901, .raw [.I 0, .I 0, .I 0, .N]), (21902, .lst Tag.t_api_Entry xh21902_9h)]⟩) (by kernel_rfl) ?_
      refine awp_seq ?_
      refine awp_block ?_
      refine awp_seq ?_
      refine awp_region L 216 [] [] [] [1, 2, 3, 10, 11] [21900, 21901, 21902] (cs := []) (S' := ⟨[(1, .P 21900), (2, .P 21901), (3, .I xt11_9h), (10, .I (p0.Log.length : Int)), (11, .I xt11_9h)], [(21900, .raw [.I p0.Epoch, .I p0.Vote, .I p0.Commit, .own Tag.t_api_Entry 21902]), (21901, .raw [.I 0, .I 0, .I 0, .N]), (21902, .lst Tag.t_api_Entry xh21902_9h)]⟩) (by kernel_rfl) trivial ?_
      obtain ⟨g2, h⟩ := guard_some h
      obtain ⟨g3, h⟩ := guard_some h
      obtain ⟨a1, ha1, h⟩ := bind_some h
      refine awp_draw L mixed 219 [] [(9, .cv (.ro Tag.t_uint8 a1))] [] [] 12 [1, 2, 10, 11] [21900, 21901, 21902] (cs := [(0 : Int) ≤ xt11_9h, (xt11_9h : Int) < (xh21902_9h.length : Int), (Int.toNat xt11_9h) < xh21902_9h.length, PCall V P 38 [.cv (.ro Tag.t_uint8 (((xh21902_9h.getD (Int.toNat xt11_9h) z_api_Entry)).Data))] (.cv (.ro Tag.t_uint8 a1)), True, (0 : Int) ≤ xt11_9h, (xt11_9h : Int) < (xh21902_9h.length : Int), (Int.toNat xt11_9h) < xh21902_9h.length, True]) (S' := ⟨[(1, .P 21900), (2, .P 21901), (10, .I (p0.Log.length : Int)), (11, .I xt11_9h)], [(21900, .raw [.I p0.Epoch, .I p0.Vote, .I p0.Commit, .own Tag.t_api_Entry 21902]), (21901, .raw [.I 0, .I 0, .I 0, .N]), (21902, .lst Tag.t_api_Entry ((xh21902_9h.set (Int.toNat xt11_9h) ((⟨((xh21902_9h.getD (Int.toNat xt11_9h) z_api_Entry)).Epoch, a1⟩ : api_Entry)))))]⟩) (by kernel_rfl) (And.intro g2.1 (And.intro g2.2 (And.intro g3 (And.intro (bytes_Clone_38.ok ha1) (And.intro trivial (And.intro g2.1 (And.intro g2.2 (And.intro g3 trivial)))))))) ?_
      refine awp_region L 233 [] [] [] [1, 2, 10, 11] [21900, 21901, 21902] (cs := []) (S' := ⟨[(1, .P 21900), (2, .P 21901), (10, .I (p0.Log.length : Int)), (11, .I ((IntKind.i64.wrap (xt11_9h + 1))))], [(21900, .raw [.I p0.Epoch, .I p0.Vote, .I p0.Commit, .own Tag.t_api_Entry 21902]), (21901, .raw [.I 0, .I 0, .I 0, .N]), (21902, .lst Tag.t_api_Entry ((xh21902_9h.set (Int.toNat xt11_9h) ((⟨((xh21902_9h.getD (Int.toNat xt11_9h) z_api_Entry)).Epoch, a1⟩ : api_Entry)))))]⟩) (by kernel_rfl) trivial ?_
      exact ⟨k, Nat.lt_succ_self k, _, _, rfl, h⟩
    · refine awp_false (b := (decide (xt11_9h < (p0.Log.length : Int)))) (by kernel_rfl) (decide_eq_false c1) ?_
      refine awp_turn (Turns.trans (Turns.keep [1, 2] [21900, 21901, 21902] (S' := ⟨[(1, .P 21900), (2, .P 21901)], [(21900, .raw [.I p0.Epoch, .I p0.Vote, .I p0.Commit, .own Tag.t_api_Entry 21902]), (21901, .raw [.I 0, .I 0, .I 0, .N]), (21902, .lst Tag.t_api_Entry xh21902_9h)]⟩) (by kernel_rfl)) (Turns.ren [(21900, 21800), (21901, 21801), (21902, 21802)] (S' := ⟨[(1, .P 21800), (2, .P 21801)], [(21800, .raw [.I p0.Epoch, .I p0.Vote, .I p0.Commit, .own Tag.t_api_Entry 21802]), (21801, .raw [.I 0, .I 0, .I 0, .N]), (21802, .lst Tag.t_api_Entry xh21902_9h)]⟩) (by kernel_rfl) (by kernel_rfl))) ?_
      refine awp_exit [1, 2] [21800, 21801, 21802] (S' := ⟨[(1, .P 21800), (2, .P 21801)], [(21800, .raw [.I p0.Epoch, .I p0.Vote, .I p0.Commit, .own Tag.t_api_Entry 21802]), (21801, .raw [.I 0, .I 0, .I 0, .N]), (21802, .lst Tag.t_api_Entry xh21902_9h)]⟩) (by kernel_rfl) ?_
      have hr := Option.some.inj h
      subst hr
      exact ⟨rfl, _, rfl, rfl⟩
  · rintro e S ⟨rfl, xh21802_9, rfl, rfl⟩
    refine ⟨_, Turns.refl, ?_⟩
    refine awp_seq ?_
    refine awp_region L 236 [] [] [] [2] [21801, 21802] (cs := []) (S' := ⟨[(2, .P 21801)], [(21801, .raw [.I p0.Epoch, .I p0.Vote, .I p0.Commit, .own Tag.t_api_Entry 21802]), (21802, .lst Tag.t_api_Entry xh21802_9)]⟩) (by kernel_rfl) trivial ?_
    refine awp_turn (Turns.trans (Turns.keep [2] [21801, 21802] (S' := ⟨[(2, .P 21801)], [(21801, .raw [.I p0.Epoch, .I p0.Vote, .I p0.Commit, .own Tag.t_api_Entry 21802]), (21802, .lst Tag.t_api_Entry xh21802_9)]⟩) (by kernel_rfl)) (Turns.trans (Turns.frz 21802 (blk0 := .lst Tag.t_api_Entry xh21802_9) (by kernel_rfl) (by kernel_rfl) (S' := ⟨[(2, .P 21801)], [(21801, .raw [.I p0.Epoch, .I p0.Vote, .I p0.Commit, .ro Tag.t_api_Entry xh21802_9])]⟩) (by kernel_rfl)) (Turns.trans (Turns.keep [2] [21801] (S' := ⟨[(2, .P 21801)], [(21801, .raw [.I p0.Epoch, .I p0.Vote, .I p0.Commit, .ro Tag.t_api_Entry xh21802_9])]⟩) (by kernel_rfl)) (Turns.ren [(21801, 100)] (S' := ⟨[(2, .P 100)], [(100, .raw [.I p0.Epoch, .I p0.Vote, .I p0.Commit, .ro Tag.t_api_Entry xh21802_9])]⟩) (by kernel_rfl) (by kernel_rfl))))) ?_
    refine awp_ret ?_
    have hr := Option.some.inj h
    subst hr
    exact ⟨.inr rfl, .agg [.I p0.Epoch, .I p0.Vote, .I p0.Commit, .ro Tag.t_api_Entry xh21802_9], by kernel_rfl, by kernel_rfl, by kernel_rfl⟩

theorem group_copied.okE {K : Nat} {p0 : api_Replica} {r : api_Replica} (h : group_copied K p0 = some r) : ECall V P 50 [.agg [.I p0.Epoch, .I p0.Vote, .I p0.Commit, .ro Tag.t_api_Entry p0.Log]] [] [] (.agg [.I ((r).Epoch), .I ((r).Vote), .I ((r).Commit), .ro Tag.t_api_Entry ((r).Log)]) [] :=
  ecall_of (fn := Try.f50) (n := 28) (m := 100) (by kernel_rfl) (by kernel_rfl) (by kernel_rfl) rfl (by kernel_rfl) (by kernel_rfl) fun Γ => group_copied.body h

theorem group_copied.ok {K : Nat} {p0 : api_Replica} {r : api_Replica} (h : group_copied K p0 = some r) : PCall V P 50 [.agg [.I p0.Epoch, .I p0.Vote, .I p0.Commit, .ro Tag.t_api_Entry p0.Log]] (.agg [.I ((r).Epoch), .I ((r).Vote), .I ((r).Commit), .ro Tag.t_api_Entry ((r).Log)]) := (group_copied.okE h).pcall (by kernel_rfl)

def group_Group_clone.l9 (K : Nat) (p0 : group_Group) : Nat → Int → (List api_Replica) → Option (List api_Replica)
  | 0, _, _ => none
  | k + 1, xt16_9h, xh21902_9h => (if xt16_9h < (p0.Replicas.length : Int) then (if (0 : Int) ≤ xt16_9h ∧ (xt16_9h : Int) < (xh21902_9h.length : Int) then (if (Int.toNat xt16_9h) < xh21902_9h.length then (Option.bind (group_copied K ((xh21902_9h.getD (Int.toNat xt16_9h) z_api_Replica))) (fun a2 => group_Group_clone.l9 K p0 k ((IntKind.i64.wrap (xt16_9h + 1))) ((xh21902_9h.set (Int.toNat xt16_9h) ((⟨(a2).Epoch, (a2).Vote, (a2).Commit, (a2).Log⟩ : api_Replica)))))) else none) else none) else some xh21902_9h)

def group_Group_clone (K : Nat) (p0 : group_Group) : Option group_Group := (if p0.Replicas.length * 48 ≤ 140737488355328 then (Option.bind (slices_Clone_49 K p0.Up) (fun a1 => (Option.bind (group_Group_clone.l9 K p0 K 0 p0.Replicas : Option (List api_Replica)) (fun xh21802_9 => some (⟨xh21802_9, a1, p0.Leader, p0.Epoch⟩ : group_Group))))) else none)

theorem group_Group_clone.body {Γ : Ent} {K : Nat} {p0 : group_Group} {r : group_Group} (h : group_Group_clone K p0 = some r) : AWp V P 29 100 Γ (Try.f30.body.getD .skip) (EndsE P V Try.f30 (.agg [.ro Tag.t_api_Replica ((r).Replicas), .ro Tag.t_bool ((r).Up), .I ((r).Leader), .I ((r).Epoch)]) []) ⟨args0 0 [.agg [.ro Tag.t_api_Replica p0.Replicas, .ro Tag.t_bool p0.Up, .I p0.Leader, .I p0.Epoch]], []⟩ := by
  unfold group_Group_clone at h
  refine awp_seq ?_
  refine awp_region L 200 [] [] [] [1, 2] [200, 201] (cs := []) (S' := ⟨[(1, .P 200), (2, .P 201)], [(200, .raw [.ro Tag.t_api_Replica p0.Replicas, .ro Tag.t_bool p0.Up, .I p0.Leader, .I p0.Epoch]), (201, .raw [.N, .N, .I 0, .I 0])]⟩) (by kernel_rfl) trivial ?_
  refine awp_seq ?_
  obtain ⟨g1, h⟩ := guard_some h
  obtain ⟨a1, ha1, h⟩ := bind_some h
  refine awp_draw L mixed 203 [] [(2, .cv (.ron Tag.t_api_Replica p0.Replicas)), (5, .cv (.ro Tag.t_bool a1))] [] [] 7 [1, 2] [200, 201, 205] (cs := [FCall V P 48 [.cv (.ro Tag.t_api_Replica p0.Replicas)] Tag.t_api_Replica p0.Replicas, PCall V P 49 [.cv (.ro Tag.t_bool p0.Up)] (.cv (.ro Tag.t_bool a1)), True]) (S' := ⟨[(1, .P 200), (2, .P 201)], [(200, .raw [.own Tag.t_api_Replica 205, .ro Tag.t_bool a1, .I p0.Leader, .I p0.Epoch]), (201, .raw [.N, .N, .I 0, .I 0]), (205, .lst Tag.t_api_Replica p0.Replicas)]⟩) (by kernel_rfl) (And.intro (slices_Clone_48.okF (show slices_Clone_48 0 p0.Replicas = some p0.Replicas from if_pos g1)) (And.intro (slices_Clone_49.ok ha1) trivial)) ?_
  refine awp_seq ?_
  refine awp_seq ?_
  refine awp_region L 214 [] [] [] [1, 2, 14, 15, 16] [200, 201, 205] (cs := []) (S' := ⟨[(1, .P 200), (2, .P 201), (14, .cv (.own Tag.t_api_Replica 205)), (15, .I (p0.Replicas.length : Int)), (16, .I 0)], [(200, .raw [.own Tag.t_api_Replica 205, .ro Tag.t_bool a1, .I p0.Leader, .I p0.Epoch]), (201, .raw [.N, .N, .I 0, .I 0]), (205, .lst Tag.t_api_Replica p0.Replicas)]⟩) (by kernel_rfl) trivial ?_
  refine awp_block ?_
  refine awp_turn (Turns.trans (Turns.keep [1, 2, 14, 15, 16] [200, 201, 205] (S' := ⟨[(1, .P 200), (2, .P 201), (14, .cv (.own Tag.t_api_Replica 205)), (15, .I (p0.Replicas.length : Int)), (16, .I 0)], [(200, .raw [.own Tag.t_api_Replica 205, .ro Tag.t_bool a1, .I p0.Leader, .I p0.Epoch]), (201, .raw [.N, .N, .I 0, .I 0]), (205, .lst Tag.t_api_Replica p0.Replicas)]⟩) (by kernel_rfl)) (Turns.ren [(200, 21900), (201, 21901), (205, 21902)] (S' := ⟨[(1, .P 21900), (2, .P 21901), (14, .cv (.own Tag.t_api_Replica 21902)), (15, .I (p0.Replicas.length : Int)), (16, .I 0)], [(21900, .raw [.own Tag.t_api_Replica 21902, .ro Tag.t_bool a1, .I p0.Leader, .I p0.Epoch]), (21901, .raw [.N, .N, .I 0, .I 0]), (21902, .lst Tag.t_api_Replica p0.Replicas)]⟩) (by kernel_rfl) (by kernel_rfl))) ?_
  refine awp_keep (ts := [1, 2, 14, 15, 16]) (ids := [21900, 21901, 21902]) (S' := ⟨[(1, .P 21900), (2, .P 21901), (14, .cv (.own Tag.t_api_Replica 21902)), (15, .I (p0.Replicas.length : Int)), (16, .I 0)], [(21900, .raw [.own Tag.t_api_Replica 21902, .ro Tag.t_bool a1, .I p0.Leader, .I p0.Epoch]), (21901, .raw [.N, .N, .I 0, .I 0]), (21902, .lst Tag.t_api_Replica p0.Replicas)]⟩) (by kernel_rfl) ?_
  obtain ⟨o1, hp1, h⟩ := bind_some h
  refine awp_conseq (Q' := fun e S => (e = .exit 0 ∧ ∃ xh21802_9 : List api_Replica, S = ⟨[(1, .P 21800), (2, .P 21801)], [(21800, .raw [.own Tag.t_api_Replica 21802, .ro Tag.t_bool a1, .I p0.Leader, .I p0.Epoch]), (21801, .raw [.N, .N, .I 0, .I 0]), (21802, .lst Tag.t_api_Replica xh21802_9)]⟩ ∧ xh21802_9 = o1)) (awp_loop (fun k S => ∃ xt16_9h : Int, ∃ xh21902_9h : List api_Replica, S = ⟨[(1, .P 21900), (2, .P 21901), (14, .cv (.own Tag.t_api_Replica 21902)), (15, .I (p0.Replicas.length : Int)), (16, .I xt16_9h)], [(21900, .raw [.own Tag.t_api_Replica 21902, .ro Tag.t_bool a1, .I p0.Leader, .I p0.Epoch]), (21901, .raw [.N, .N, .I 0, .I 0]), (21902, .lst Tag.t_api_Replica xh21902_9h)]⟩ ∧ group_Group_clone.l9 K p0 k xt16_9h xh21902_9h = some o1) ?_ ⟨_, _, rfl, hp1⟩) ?_
  · clear h hp1
    intro k S hS
    obtain ⟨xt16_9h, xh21902_9h, rfl, h⟩ := hS
    cases k with
    | zero => cases h
    | succ k =>
    unfold group_Group_clone.l9 at h
    refine awp_seq ?_
    refine awp_region L 219 [] [] [] [1, 2, 14, 15, 16, 17] [21900, 21901, 21902] (cs := []) (S' := ⟨[(1, .P 21900), (2, .P 21901), (14, .cv (.own Tag.t_api_Replica 21902)), (15, .I (p0.Replicas.length : Int)), (16, .I xt16_9h), (17, .B ((decide (xt16_9h < (p0.Replicas.length : Int)))))], [(21900, .raw [.own Tag.t_api_Replica 21902, .ro Tag.t_bool a1, .I p0.Leader, .I p0.Epoch]), (21901, .raw [.N, .N, .I 0, .I 0]), (21902, .lst Tag.t_api_Replica xh21902_9h)]⟩) (by kernel_rfl) trivial ?_
    refine awp_seq ?_
    rcases ite_some h with ⟨c1, h⟩ | ⟨c1, h⟩
    · refine awp_true (b := (decide (xt16_9h < (p0.Replicas.length : Int)))) (by kernel_rfl) (decide_eq_true c1) ?_
      refine awp_skip [1, 2, 14, 15, 16] [21900, 21901, 21902] (S' := ⟨[(1, .P 21900), (2, .P 21901), (14, .cv (.own Tag.t_api_Replica 21902)), (15, .I (p0.Replicas.length : Int)), (16, .I xt16_9h)], [(21900, .raw [.own Tag.t_api_Replica 21902, .ro Tag.t_bool a1, .I p0.Leader, .I p0.Epoch]), (21901, .raw [.N, .N, .I 0, .I 0]), (21902, .lst Tag.t_api_Replica xh21902_9h)]⟩) (by kernel_rfl) ?_
      refine awp_seq ?_
      refine awp_block ?_
      refine awp_seq ?_
      obtain ⟨g2, h⟩ := guard_some h
      obtain ⟨g3, h⟩ := guard_some h
      refine awp_region L 221 [] [] [] [1, 2, 3, 4, 14, 15, 16] [224, 21900, 21901, 21902] (cs := [(0 : Int) ≤ xt16_9h, (xt16_9h : Int) < (xh21902_9h.length : Int), (Int.toNat xt16_9h) < xh21902_9h.length]) (S' := ⟨[(1, .P 21900), (2, .P 21901), (3, .I xt16_9h), (4, .P 224), (14, .cv (.own Tag.t_api_Replica 21902)), (15, .I (p0.Replicas.length : Int)), (16, .I xt16_9h)], [(224, .raw [.I (((xh21902_9h.getD (Int.toNat xt16_9h) z_api_Replica)).Epoch), .I (((xh21902_9h.getD (Int.toNat xt16_9h) z_api_Replica)).Vote), .I (((xh21902_9h.getD (Int.toNat xt16_9h) z_api_Replica)).Commit), .ro Tag.t_api_Entry (((xh21902_9h.getD (Int.toNat xt16_9h) z_api_Replica)).Log)]), (21900, .raw [.own Tag.t_api_Replica 21902, .ro Tag.t_bool a1, .I p0.Leader, .I p0.Epoch]), (21901, .raw [.N, .N, .I 0, .I 0]), (21902, .lst Tag.t_api_Replica xh21902_9h)]⟩) (by kernel_rfl) (And.intro g2.1 (And.intro g2.2 g3)) ?_
      obtain ⟨a2, h1, h⟩ := bind_some h
      refine awp_draw L mixed 228 [] [(4, .agg [.I ((a2).Epoch), .I ((a2).Vote), .I ((a2).Commit), .ro Tag.t_api_Entry ((a2).Log)])] [] [] 6 [1, 2, 14, 15, 16] [21900, 21901, 21902] (cs := [PCall V P 50 [.agg [.I (((xh21902_9h.getD (Int.toNat xt16_9h) z_api_Replica)).Epoch), .I (((xh21902_9h.getD (Int.toNat xt16_9h) z_api_Replica)).Vote), .I (((xh21902_9h.getD (Int.toNat xt16_9h) z_api_Replica)).Commit), .ro Tag.t_api_Entry (((xh21902_9h.getD (Int.toNat xt16_9h) z_api_Replica)).Log)]] (.agg [.I ((a2).Epoch), .I ((a2).Vote), .I ((a2).Commit), .ro Tag.t_api_Entry ((a2).Log)]), True, (0 : Int) ≤ xt16_9h, (xt16_9h : Int) < (xh21902_9h.length : Int), (Int.toNat xt16_9h) < xh21902_9h.length, True]) (S' := ⟨[(1, .P 21900), (2, .P 21901), (14, .cv (.own Tag.t_api_Replica 21902)), (15, .I (p0.Replicas.length : Int)), (16, .I xt16_9h)], [(21900, .raw [.own Tag.t_api_Replica 21902, .ro Tag.t_bool a1, .I p0.Leader, .I p0.Epoch]), (21901, .raw [.N, .N, .I 0, .I 0]), (21902, .lst Tag.t_api_Replica ((xh21902_9h.set (Int.toNat xt16_9h) ((⟨(a2).Epoch, (a2).Vote, (a2).Commit, (a2).Log⟩ : api_Replica)))))]⟩) (by kernel_rfl) (And.intro (group_copied.ok h1) (And.intro trivial (And.intro g2.1 (And.intro g2.2 (And.intro g3 trivial))))) ?_
      refine awp_region L 236 [] [] [] [1, 2, 14, 15, 16] [21900, 21901, 21902] (cs := []) (S' := ⟨[(1, .P 21900), (2, .P 21901), (14, .cv (.own Tag.t_api_Replica 21902)), (15, .I (p0.Replicas.length : Int)), (16, .I ((IntKind.i64.wrap (xt16_9h + 1))))], [(21900, .raw [.own Tag.t_api_Replica 21902, .ro Tag.t_bool a1, .I p0.Leader, .I p0.Epoch]), (21901, .raw [.N, .N, .I 0, .I 0]), (21902, .lst Tag.t_api_Replica ((xh21902_9h.set (Int.toNat xt16_9h) ((⟨(a2).Epoch, (a2).Vote, (a2).Commit, (a2).Log⟩ : api_Replica)))))]⟩) (by kernel_rfl) trivial ?_
      exact ⟨k, Nat.lt_succ_self k, _, _, rfl, h⟩
    · refine awp_false (b := (decide (xt16_9h < (p0.Replicas.length : Int)))) (by kernel_rfl) (decide_eq_false c1) ?_
      refine awp_turn (Turns.trans (Turns.keep [1, 2] [21900, 21901, 21902] (S' := ⟨[(1, .P 21900), (2, .P 21901)], [(21900, .raw [.own Tag.t_api_Replica 21902, .ro Tag.t_bool a1, .I p0.Leader, .I p0.Epoch]), (21901, .raw [.N, .N, .I 0, .I 0]), (21902, .lst Tag.t_api_Replica xh21902_9h)]⟩) (by kernel_rfl)) (Turns.ren [(21900, 21800), (21901, 21801), (21902, 21802)] (S' := ⟨[(1, .P 21800), (2, .P 21801)], [(21800, .raw [.own Tag.t_api_Replica 21802, .ro Tag.t_bool a1, .I p0.Leader, .I p0.Epoch]), (21801, .raw [.N, .N, .I 0, .I 0]), (21802, .lst Tag.t_api_Replica xh21902_9h)]⟩) (by kernel_rfl) (by kernel_rfl))) ?_
      refine awp_exit [1, 2] [21800, 21801, 21802] (S' := ⟨[(1, .P 21800), (2, .P 21801)], [(21800, .raw [.own Tag.t_api_Replica 21802, .ro Tag.t_bool a1, .I p0.Leader, .I p0.Epoch]), (21801, .raw [.N, .N, .I 0, .I 0]), (21802, .lst Tag.t_api_Replica xh21902_9h)]⟩) (by kernel_rfl) ?_
      have hr := Option.some.inj h
      subst hr
      exact ⟨rfl, _, rfl, rfl⟩
  · rintro e S ⟨rfl, xh21802_9, rfl, rfl⟩
    refine ⟨_, Turns.refl, ?_⟩
    refine awp_seq ?_
    refine awp_region L 239 [] [] [] [2] [21801, 21802] (cs := []) (S' := ⟨[(2, .P 21801)], [(21801, .raw [.own Tag.t_api_Replica 21802, .ro Tag.t_bool a1, .I p0.Leader, .I p0.Epoch]), (21802, .lst Tag.t_api_Replica xh21802_9)]⟩) (by kernel_rfl) trivial ?_
    refine awp_turn (Turns.trans (Turns.keep [2] [21801, 21802] (S' := ⟨[(2, .P 21801)], [(21801, .raw [.own Tag.t_api_Replica 21802, .ro Tag.t_bool a1, .I p0.Leader, .I p0.Epoch]), (21802, .lst Tag.t_api_Replica xh21802_9)]⟩) (by kernel_rfl)) (Turns.trans (Turns.frz 21802 (blk0 := .lst Tag.t_api_Replica xh21802_9) (by kernel_rfl) (by kernel_rfl) (S' := ⟨[(2, .P 21801)], [(21801, .raw [.ro Tag.t_api_Replica xh21802_9, .ro Tag.t_bool a1, .I p0.Leader, .I p0.Epoch])]⟩) (by kernel_rfl)) (Turns.trans (Turns.keep [2] [21801] (S' := ⟨[(2, .P 21801)], [(21801, .raw [.ro Tag.t_api_Replica xh21802_9, .ro Tag.t_bool a1, .I p0.Leader, .I p0.Epoch])]⟩) (by kernel_rfl)) (Turns.ren [(21801, 100)] (S' := ⟨[(2, .P 100)], [(100, .raw [.ro Tag.t_api_Replica xh21802_9, .ro Tag.t_bool a1, .I p0.Leader, .I p0.Epoch])]⟩) (by kernel_rfl) (by kernel_rfl))))) ?_
    refine awp_ret ?_
    have hr := Option.some.inj h
    subst hr
    exact ⟨.inr rfl, .agg [.ro Tag.t_api_Replica xh21802_9, .ro Tag.t_bool a1, .I p0.Leader, .I p0.Epoch], by kernel_rfl, by kernel_rfl, by kernel_rfl⟩

theorem group_Group_clone.okE {K : Nat} {p0 : group_Group} {r : group_Group} (h : group_Group_clone K p0 = some r) : ECall V P 30 [.agg [.ro Tag.t_api_Replica p0.Replicas, .ro Tag.t_bool p0.Up, .I p0.Leader, .I p0.Epoch]] [] [] (.agg [.ro Tag.t_api_Replica ((r).Replicas), .ro Tag.t_bool ((r).Up), .I ((r).Leader), .I ((r).Epoch)]) [] :=
  ecall_of (fn := Try.f30) (n := 29) (m := 100) (by kernel_rfl) (by kernel_rfl) (by kernel_rfl) rfl (by kernel_rfl) (by kernel_rfl) fun Γ => group_Group_clone.body h

theorem group_Group_clone.ok {K : Nat} {p0 : group_Group} {r : group_Group} (h : group_Group_clone K p0 = some r) : PCall V P 30 [.agg [.ro Tag.t_api_Replica p0.Replicas, .ro Tag.t_bool p0.Up, .I p0.Leader, .I p0.Epoch]] (.agg [.ro Tag.t_api_Replica ((r).Replicas), .ro Tag.t_bool ((r).Up), .I ((r).Leader), .I ((r).Epoch)]) := (group_Group_clone.okE h).pcall (by kernel_rfl)

def group_Group_clone_v2.l9 (K : Nat) (p0 : group_Group) : Nat → Int → (List api_Replica) → Option (List api_Replica)
  | 0, _, _ => none
  | k + 1, xt16_9h, xh21902_9h => (if xt16_9h < (p0.Replicas.length : Int) then (if (0 : Int) ≤ xt16_9h ∧ (xt16_9h : Int) < (xh21902_9h.length : Int) then (if (Int.toNat xt16_9h) < xh21902_9h.length then (Option.bind (group_copied K ((xh21902_9h.getD (Int.toNat xt16_9h) z_api_Replica))) (fun a2 => group_Group_clone_v2.l9 K p0 k ((IntKind.i64.wrap (xt16_9h + 1))) ((xh21902_9h.set (Int.toNat xt16_9h) ((⟨(a2).Epoch, (a2).Vote, (a2).Commit, (a2).Log⟩ : api_Replica)))))) else none) else none) else some xh21902_9h)

def group_Group_clone_v2 (K : Nat) (p0 : group_Group) : Option ((List Bool) × (List api_Replica)) := (if p0.Replicas.length * 48 ≤ 140737488355328 then (Option.bind (slices_Clone_49 K p0.Up) (fun a1 => (Option.bind (group_Group_clone_v2.l9 K p0 K 0 p0.Replicas : Option (List api_Replica)) (fun xh21802_9 => some (a1, xh21802_9))))) else none)

theorem group_Group_clone_v2.body {Γ : Ent} {K : Nat} {p0 : group_Group} {r : (List Bool) × (List api_Replica)} (h : group_Group_clone_v2 K p0 = some r) : AWp V P 29 100 Γ (Try.f30.body.getD .skip) (EndsE P V Try.f30 (.agg [.own Tag.t_api_Replica 100, .ro Tag.t_bool r.1, .I p0.Leader, .I p0.Epoch]) [(100, .lst Tag.t_api_Replica r.2)]) ⟨args0 0 [.agg [.ro Tag.t_api_Replica p0.Replicas, .ro Tag.t_bool p0.Up, .I p0.Leader, .I p0.Epoch]], []⟩ := by
  unfold group_Group_clone_v2 at h
  refine awp_seq ?_
  refine awp_region L 200 [] [] [] [1, 2] [200, 201] (cs := []) (S' := ⟨[(1, .P 200), (2, .P 201)], [(200, .raw [.ro Tag.t_api_Replica p0.Replicas, .ro Tag.t_bool p0.Up, .I p0.Leader, .I p0.Epoch]), (201, .raw [.N, .N, .I 0, .I 0])]⟩) (by kernel_rfl) trivial ?_
  refine awp_seq ?_
  obtain ⟨g1, h⟩ := guard_some h
  obtain ⟨a1, ha1, h⟩ := bind_some h
  refine awp_draw L mixed 203 [] [(2, .cv (.ron Tag.t_api_Replica p0.Replicas)), (5, .cv (.ro Tag.t_bool a1))] [] [] 7 [1, 2] [200, 201, 205] (cs := [FCall V P 48 [.cv (.ro Tag.t_api_Replica p0.Replicas)] Tag.t_api_Replica p0.Replicas, PCall V P 49 [.cv (.ro Tag.t_bool p0.Up)] (.cv (.ro Tag.t_bool a1)), True]) (S' := ⟨[(1, .P 200), (2, .P 201)], [(200, .raw [.own Tag.t_api_Replica 205, .ro Tag.t_bool a1, .I p0.Leader, .I p0.Epoch]), (201, .raw [.N, .N, .I 0, .I 0]), (205, .lst Tag.t_api_Replica p0.Replicas)]⟩) (by kernel_rfl) (And.intro (slices_Clone_48.okF (show slices_Clone_48 0 p0.Replicas = some p0.Replicas from if_pos g1)) (And.intro (slices_Clone_49.ok ha1) trivial)) ?_
  refine awp_seq ?_
  refine awp_seq ?_
  refine awp_region L 214 [] [] [] [1, 2, 14, 15, 16] [200, 201, 205] (cs := []) (S' := ⟨[(1, .P 200), (2, .P 201), (14, .cv (.own Tag.t_api_Replica 205)), (15, .I (p0.Replicas.length : Int)), (16, .I 0)], [(200, .raw [.own Tag.t_api_Replica 205, .ro Tag.t_bool a1, .I p0.Leader, .I p0.Epoch]), (201, .raw [.N, .N, .I 0, .I 0]), (205, .lst Tag.t_api_Replica p0.Replicas)]⟩) (by kernel_rfl) trivial ?_
  refine awp_block ?_
  refine awp_turn (Turns.trans (Turns.keep [1, 2, 14, 15, 16] [200, 201, 205] (S' := ⟨[(1, .P 200), (2, .P 201), (14, .cv (.own Tag.t_api_Replica 205)), (15, .I (p0.Replicas.length : Int)), (16, .I 0)], [(200, .raw [.own Tag.t_api_Replica 205, .ro Tag.t_bool a1, .I p0.Leader, .I p0.Epoch]), (201, .raw [.N, .N, .I 0, .I 0]), (205, .lst Tag.t_api_Replica p0.Replicas)]⟩) (by kernel_rfl)) (Turns.ren [(200, 21900), (201, 21901), (205, 21902)] (S' := ⟨[(1, .P 21900), (2, .P 21901), (14, .cv (.own Tag.t_api_Replica 21902)), (15, .I (p0.Replicas.length : Int)), (16, .I 0)], [(21900, .raw [.own Tag.t_api_Replica 21902, .ro Tag.t_bool a1, .I p0.Leader, .I p0.Epoch]), (21901, .raw [.N, .N, .I 0, .I 0]), (21902, .lst Tag.t_api_Replica p0.Replicas)]⟩) (by kernel_rfl) (by kernel_rfl))) ?_
  refine awp_keep (ts := [1, 2, 14, 15, 16]) (ids := [21900, 21901, 21902]) (S' := ⟨[(1, .P 21900), (2, .P 21901), (14, .cv (.own Tag.t_api_Replica 21902)), (15, .I (p0.Replicas.length : Int)), (16, .I 0)], [(21900, .raw [.own Tag.t_api_Replica 21902, .ro Tag.t_bool a1, .I p0.Leader, .I p0.Epoch]), (21901, .raw [.N, .N, .I 0, .I 0]), (21902, .lst Tag.t_api_Replica p0.Replicas)]⟩) (by kernel_rfl) ?_
  obtain ⟨o1, hp1, h⟩ := bind_some h
  refine awp_conseq (Q' := fun e S => (e = .exit 0 ∧ ∃ xh21802_9 : List api_Replica, S = ⟨[(1, .P 21800), (2, .P 21801)], [(21800, .raw [.own Tag.t_api_Replica 21802, .ro Tag.t_bool a1, .I p0.Leader, .I p0.Epoch]), (21801, .raw [.N, .N, .I 0, .I 0]), (21802, .lst Tag.t_api_Replica xh21802_9)]⟩ ∧ xh21802_9 = o1)) (awp_loop (fun k S => ∃ xt16_9h : Int, ∃ xh21902_9h : List api_Replica, S = ⟨[(1, .P 21900), (2, .P 21901), (14, .cv (.own Tag.t_api_Replica 21902)), (15, .I (p0.Replicas.length : Int)), (16, .I xt16_9h)], [(21900, .raw [.own Tag.t_api_Replica 21902, .ro Tag.t_bool a1, .I p0.Leader, .I p0.Epoch]), (21901, .raw [.N, .N, .I 0, .I 0]), (21902, .lst Tag.t_api_Replica xh21902_9h)]⟩ ∧ group_Group_clone_v2.l9 K p0 k xt16_9h xh21902_9h = some o1) ?_ ⟨_, _, rfl, hp1⟩) ?_
  · clear h hp1
    intro k S hS
    obtain ⟨xt16_9h, xh21902_9h, rfl, h⟩ := hS
    cases k with
    | zero => cases h
    | succ k =>
    unfold group_Group_clone_v2.l9 at h
    refine awp_seq ?_
    refine awp_region L 219 [] [] [] [1, 2, 14, 15, 16, 17] [21900, 21901, 21902] (cs := []) (S' := ⟨[(1, .P 21900), (2, .P 21901), (14, .cv (.own Tag.t_api_Replica 21902)), (15, .I (p0.Replicas.length : Int)), (16, .I xt16_9h), (17, .B ((decide (xt16_9h < (p0.Replicas.length : Int)))))], [(21900, .raw [.own Tag.t_api_Replica 21902, .ro Tag.t_bool a1, .I p0.Leader, .I p0.Epoch]), (21901, .raw [.N, .N, .I 0, .I 0]), (21902, .lst Tag.t_api_Replica xh21902_9h)]⟩) (by kernel_rfl) trivial ?_
    refine awp_seq ?_
    rcases ite_some h with ⟨c1, h⟩ | ⟨c1, h⟩
    · refine awp_true (b := (decide (xt16_9h < (p0.Replicas.length : Int)))) (by kernel_rfl) (decide_eq_true c1) ?_
      refine awp_skip [1, 2, 14, 15, 16] [21900, 21901, 21902] (S' := ⟨[(1, .P 21900), (2, .P 21901), (14, .cv (.own Tag.t_api_Replica 21902)), (15, .I (p0.Replicas.length : Int)), (16, .I xt16_9h)], [(21900, .raw [.own Tag.t_api_Replica 21902, .ro Tag.t_bool a1, .I p0.Leader, .I p0.Epoch]), (21901, .raw [.N, .N, .I 0, .I 0]), (21902, .lst Tag.t_api_Replica xh21902_9h)]⟩) (by kernel_rfl) ?_
      refine awp_seq ?_
      refine awp_block ?_
      refine awp_seq ?_
      obtain ⟨g2, h⟩ := guard_some h
      obtain ⟨g3, h⟩ := guard_some h
      refine awp_region L 221 [] [] [] [1, 2, 3, 4, 14, 15, 16] [224, 21900, 21901, 21902] (cs := [(0 : Int) ≤ xt16_9h, (xt16_9h : Int) < (xh21902_9h.length : Int), (Int.toNat xt16_9h) < xh21902_9h.length]) (S' := ⟨[(1, .P 21900), (2, .P 21901), (3, .I xt16_9h), (4, .P 224), (14, .cv (.own Tag.t_api_Replica 21902)), (15, .I (p0.Replicas.length : Int)), (16, .I xt16_9h)], [(224, .raw [.I (((xh21902_9h.getD (Int.toNat xt16_9h) z_api_Replica)).Epoch), .I (((xh21902_9h.getD (Int.toNat xt16_9h) z_api_Replica)).Vote), .I (((xh21902_9h.getD (Int.toNat xt16_9h) z_api_Replica)).Commit), .ro Tag.t_api_Entry (((xh21902_9h.getD (Int.toNat xt16_9h) z_api_Replica)).Log)]), (21900, .raw [.own Tag.t_api_Replica 21902, .ro Tag.t_bool a1, .I p0.Leader, .I p0.Epoch]), (21901, .raw [.N, .N, .I 0, .I 0]), (21902, .lst Tag.t_api_Replica xh21902_9h)]⟩) (by kernel_rfl) (And.intro g2.1 (And.intro g2.2 g3)) ?_
      obtain ⟨a2, h1, h⟩ := bind_some h
      refine awp_draw L mixed 228 [] [(4, .agg [.I ((a2).Epoch), .I ((a2).Vote), .I ((a2).Commit), .ro Tag.t_api_Entry ((a2).Log)])] [] [] 6 [1, 2, 14, 15, 16] [21900, 21901, 21902] (cs := [PCall V P 50 [.agg [.I (((xh21902_9h.getD (Int.toNat xt16_9h) z_api_Replica)).Epoch), .I (((xh21902_9h.getD (Int.toNat xt16_9h) z_api_Replica)).Vote), .I (((xh21902_9h.getD (Int.toNat xt16_9h) z_api_Replica)).Commit), .ro Tag.t_api_Entry (((xh21902_9h.getD (Int.toNat xt16_9h) z_api_Replica)).Log)]] (.agg [.I ((a2).Epoch), .I ((a2).Vote), .I ((a2).Commit), .ro Tag.t_api_Entry ((a2).Log)]), True, (0 : Int) ≤ xt16_9h, (xt16_9h : Int) < (xh21902_9h.length : Int), (Int.toNat xt16_9h) < xh21902_9h.length, True]) (S' := ⟨[(1, .P 21900), (2, .P 21901), (14, .cv (.own Tag.t_api_Replica 21902)), (15, .I (p0.Replicas.length : Int)), (16, .I xt16_9h)], [(21900, .raw [.own Tag.t_api_Replica 21902, .ro Tag.t_bool a1, .I p0.Leader, .I p0.Epoch]), (21901, .raw [.N, .N, .I 0, .I 0]), (21902, .lst Tag.t_api_Replica ((xh21902_9h.set (Int.toNat xt16_9h) ((⟨(a2).Epoch, (a2).Vote, (a2).Commit, (a2).Log⟩ : api_Replica)))))]⟩) (by kernel_rfl) (And.intro (group_copied.ok h1) (And.intro trivial (And.intro g2.1 (And.intro g2.2 (And.intro g3 trivial))))) ?_
      refine awp_region L 236 [] [] [] [1, 2, 14, 15, 16] [21900, 21901, 21902] (cs := []) (S' := ⟨[(1, .P 21900), (2, .P 21901), (14, .cv (.own Tag.t_api_Replica 21902)), (15, .I (p0.Replicas.length : Int)), (16, .I ((IntKind.i64.wrap (xt16_9h + 1))))], [(21900, .raw [.own Tag.t_api_Replica 21902, .ro Tag.t_bool a1, .I p0.Leader, .I p0.Epoch]), (21901, .raw [.N, .N, .I 0, .I 0]), (21902, .lst Tag.t_api_Replica ((xh21902_9h.set (Int.toNat xt16_9h) ((⟨(a2).Epoch, (a2).Vote, (a2).Commit, (a2).Log⟩ : api_Replica)))))]⟩) (by kernel_rfl) trivial ?_
      exact ⟨k, Nat.lt_succ_self k, _, _, rfl, h⟩
    · refine awp_false (b := (decide (xt16_9h < (p0.Replicas.length : Int)))) (by kernel_rfl) (decide_eq_false c1) ?_
      refine awp_turn (Turns.trans (Turns.keep [1, 2] [21900, 21901, 21902] (S' := ⟨[(1, .P 21900), (2, .P 21901)], [(21900, .raw [.own Tag.t_api_Replica 21902, .ro Tag.t_bool a1, .I p0.Leader, .I p0.Epoch]), (21901, .raw [.N, .N, .I 0, .I 0]), (21902, .lst Tag.t_api_Replica xh21902_9h)]⟩) (by kernel_rfl)) (Turns.ren [(21900, 21800), (21901, 21801), (21902, 21802)] (S' := ⟨[(1, .P 21800), (2, .P 21801)], [(21800, .raw [.own Tag.t_api_Replica 21802, .ro Tag.t_bool a1, .I p0.Leader, .I p0.Epoch]), (21801, .raw [.N, .N, .I 0, .I 0]), (21802, .lst Tag.t_api_Replica xh21902_9h)]⟩) (by kernel_rfl) (by kernel_rfl))) ?_
      refine awp_exit [1, 2] [21800, 21801, 21802] (S' := ⟨[(1, .P 21800), (2, .P 21801)], [(21800, .raw [.own Tag.t_api_Replica 21802, .ro Tag.t_bool a1, .I p0.Leader, .I p0.Epoch]), (21801, .raw [.N, .N, .I 0, .I 0]), (21802, .lst Tag.t_api_Replica xh21902_9h)]⟩) (by kernel_rfl) ?_
      have hr := Option.some.inj h
      subst hr
      exact ⟨rfl, _, rfl, rfl⟩
  · rintro e S ⟨rfl, xh21802_9, rfl, rfl⟩
    refine ⟨_, Turns.refl, ?_⟩
    refine awp_seq ?_
    refine awp_region L 239 [] [] [] [2] [21801, 21802] (cs := []) (S' := ⟨[(2, .P 21801)], [(21801, .raw [.own Tag.t_api_Replica 21802, .ro Tag.t_bool a1, .I p0.Leader, .I p0.Epoch]), (21802, .lst Tag.t_api_Replica xh21802_9)]⟩) (by kernel_rfl) trivial ?_
    refine awp_turn (Turns.trans (Turns.keep [2] [21801, 21802] (S' := ⟨[(2, .P 21801)], [(21801, .raw [.own Tag.t_api_Replica 21802, .ro Tag.t_bool a1, .I p0.Leader, .I p0.Epoch]), (21802, .lst Tag.t_api_Replica xh21802_9)]⟩) (by kernel_rfl)) (Turns.ren [(21801, 101), (21802, 100)] (S' := ⟨[(2, .P 101)], [(101, .raw [.own Tag.t_api_Replica 100, .ro Tag.t_bool a1, .I p0.Leader, .I p0.Epoch]), (100, .lst Tag.t_api_Replica xh21802_9)]⟩) (by kernel_rfl) (by kernel_rfl))) ?_
    refine awp_ret ?_
    have hr := Option.some.inj h
    subst hr
    exact ⟨.inr rfl, .agg [.own Tag.t_api_Replica 100, .ro Tag.t_bool a1, .I p0.Leader, .I p0.Epoch], by kernel_rfl, by kernel_rfl, by kernel_rfl⟩

theorem group_Group_clone_v2.okE {K : Nat} {p0 : group_Group} {r : (List Bool) × (List api_Replica)} (h : group_Group_clone_v2 K p0 = some r) : ECall V P 30 [.agg [.ro Tag.t_api_Replica p0.Replicas, .ro Tag.t_bool p0.Up, .I p0.Leader, .I p0.Epoch]] [] [] (.agg [.own Tag.t_api_Replica 100, .ro Tag.t_bool r.1, .I p0.Leader, .I p0.Epoch]) [(100, .lst Tag.t_api_Replica r.2)] :=
  ecall_of (fn := Try.f30) (n := 29) (m := 100) (by kernel_rfl) (by kernel_rfl) (by kernel_rfl) rfl (by kernel_rfl) (by kernel_rfl) fun Γ => group_Group_clone_v2.body h

def replog_Last (K : Nat) (p0 : api_Replica) : Option (Int × Int) := (if (p0.Log.length : Int) = 0 then some (0, 0) else (if (0 : Int) ≤ (IntKind.i64.wrap ((p0.Log.length : Int) - 1)) ∧ ((IntKind.i64.wrap ((p0.Log.length : Int) - 1)) : Int) < (p0.Log.length : Int) then some (((p0.Log.length : Int), ((p0.Log.getD (Int.toNat ((IntKind.i64.wrap ((p0.Log.length : Int) - 1)))) z_api_Entry)).Epoch)) else none))

theorem replog_Last.body {Γ : Ent} {K : Nat} {p0 : api_Replica} {r : Int × Int} (h : replog_Last K p0 = some r) : AWp V P 18 100 Γ (Try.f31.body.getD .skip) (EndsE P V Try.f31 (.tup [.I r.1, .I r.2]) []) ⟨args0 0 [.agg [.I p0.Epoch, .I p0.Vote, .I p0.Commit, .ro Tag.t_api_Entry p0.Log]], []⟩ := by
  unfold replog_Last at h
  refine awp_seq ?_
  refine awp_region L 200 [] [] [] [1] [200] (cs := []) (S' := ⟨[(1, .P 200)], [(200, .raw [.I p0.Epoch, .I p0.Vote, .I p0.Commit, .ro Tag.t_api_Entry p0.Log])]⟩) (by kernel_rfl) trivial ?_
  refine awp_seq ?_
  refine awp_region L 204 [] [] [] [1, 4] [200] (cs := []) (S' := ⟨[(1, .P 200), (4, .I (p0.Log.length : Int))], [(200, .raw [.I p0.Epoch, .I p0.Vote, .I p0.Commit, .ro Tag.t_api_Entry p0.Log])]⟩) (by kernel_rfl) trivial ?_
  refine awp_seq ?_
  refine awp_seq ?_
  refine awp_region L 209 [] [] [] [1, 4, 9] [200] (cs := []) (S' := ⟨[(1, .P 200), (4, .I (p0.Log.length : Int)), (9, .B ((decide ((p0.Log.length : Int) = 0))))], [(200, .raw [.I p0.Epoch, .I p0.Vote, .I p0.Commit, .ro Tag.t_api_Entry p0.Log])]⟩) (by kernel_rfl) trivial ?_
  rcases ite_some h with ⟨c1, h⟩ | ⟨c1, h⟩
  · refine awp_true (b := (decide ((p0.Log.length : Int) = 0))) (by kernel_rfl) (decide_eq_true c1) ?_
    refine awp_seq ?_
    refine awp_region L 212 [] [] [] [2, 3] [] (cs := []) (S' := ⟨[(2, .I 0), (3, .I 0)], []⟩) (by kernel_rfl) trivial ?_
    refine awp_ret ?_
    have hr := Option.some.inj h
    subst hr
    exact ⟨.inr rfl, .tup [.I 0, .I 0], by kernel_rfl, by kernel_rfl, by kernel_rfl⟩
  · refine awp_false (b := (decide ((p0.Log.length : Int) = 0))) (by kernel_rfl) (decide_eq_false c1) ?_
    refine awp_skip [1, 4] [200] (S' := ⟨[(1, .P 200), (4, .I (p0.Log.length : Int))], [(200, .raw [.I p0.Epoch, .I p0.Vote, .I p0.Commit, .ro Tag.t_api_Entry p0.Log])]⟩) (by kernel_rfl) ?_
    refine awp_seq ?_
    obtain ⟨g1, h⟩ := guard_some h
    refine awp_draw L mixed 215 [] [] [] [] 10 [2, 3] [] (cs := [(0 : Int) ≤ (IntKind.i64.wrap ((p0.Log.length : Int) - 1)), ((IntKind.i64.wrap ((p0.Log.length : Int) - 1)) : Int) < (p0.Log.length : Int)]) (S' := ⟨[(2, .I (p0.Log.length : Int)), (3, .I (((p0.Log.getD (Int.toNat ((IntKind.i64.wrap ((p0.Log.length : Int) - 1)))) z_api_Entry)).Epoch))], []⟩) (by kernel_rfl) (And.intro g1.1 g1.2) ?_
    refine awp_ret ?_
    have hr := Option.some.inj h
    subst hr
    exact ⟨.inr rfl, .tup [.I (p0.Log.length : Int), .I (((p0.Log.getD (Int.toNat ((IntKind.i64.wrap ((p0.Log.length : Int) - 1)))) z_api_Entry)).Epoch)], by kernel_rfl, by kernel_rfl, by kernel_rfl⟩

theorem replog_Last.okE {K : Nat} {p0 : api_Replica} {r : Int × Int} (h : replog_Last K p0 = some r) : ECall V P 31 [.agg [.I p0.Epoch, .I p0.Vote, .I p0.Commit, .ro Tag.t_api_Entry p0.Log]] [] [] (.tup [.I r.1, .I r.2]) [] :=
  ecall_of (fn := Try.f31) (n := 18) (m := 100) (by kernel_rfl) (by kernel_rfl) (by kernel_rfl) rfl (by kernel_rfl) (by kernel_rfl) fun Γ => replog_Last.body h

theorem replog_Last.ok {K : Nat} {p0 : api_Replica} {r : Int × Int} (h : replog_Last K p0 = some r) : PCall V P 31 [.agg [.I p0.Epoch, .I p0.Vote, .I p0.Commit, .ro Tag.t_api_Entry p0.Log]] (.tup [.I r.1, .I r.2]) := (replog_Last.okE h).pcall (by kernel_rfl)

def slices_Index_66.l7 (K : Nat) (p0 : List Int) (p1 : Int) : Nat → Int → Option (Out Int Unit)
  | 0, _ => none
  | k + 1, xt8_7h => (if xt8_7h < (p0.length : Int) then (if (0 : Int) ≤ xt8_7h ∧ (xt8_7h : Int) < (p0.length : Int) then (if p1 = (p0.getD (Int.toNat xt8_7h) (0 : Int)) then some (Out.done xt8_7h) else slices_Index_66.l7 K p0 p1 k ((IntKind.i64.wrap (xt8_7h + 1)))) else none) else some (Out.go ()))

def slices_Index_66 (K : Nat) (p0 : List Int) (p1 : Int) : Option Int := (obind (slices_Index_66.l7 K p0 p1 K 0 : Option (Out Int Unit)) (fun r => r) (fun _ => some (-1)))

theorem slices_Index_66.body {Γ : Ent} {K : Nat} {p0 : List Int} {p1 : Int} {r : Int} (h : slices_Index_66 K p0 p1 = some r) : AWp V P 19 100 Γ (Try.f66.body.getD .skip) (EndsE P V Try.f66 (.I r) []) ⟨args0 0 [.cv (.ro Tag.t_int p0), .I p1], []⟩ := by
  unfold slices_Index_66 at h
  refine awp_seq ?_
  refine awp_region L 200 [] [] [] [0, 1] [] (cs := []) (S' := ⟨[(0, .cv (.ro Tag.t_int p0)), (1, .I p1)], []⟩) (by kernel_rfl) trivial ?_
  refine awp_seq ?_
  refine awp_seq ?_
  refine awp_region L 202 [] [] [] [0, 1, 7, 8] [] (cs := []) (S' := ⟨[(0, .cv (.ro Tag.t_int p0)), (1, .I p1), (7, .I (p0.length : Int)), (8, .I 0)], []⟩) (by kernel_rfl) trivial ?_
  refine awp_block ?_
  refine awp_keep (ts := [0, 1, 7, 8]) (ids := []) (S' := ⟨[(0, .cv (.ro Tag.t_int p0)), (1, .I p1), (7, .I (p0.length : Int)), (8, .I 0)], []⟩) (by kernel_rfl) ?_
  obtain ⟨o1, hp1, h⟩ := obind_some h
  refine awp_conseq (Q' := fun e S => (e = .exit 0 ∧ S = ⟨[], []⟩ ∧ Out.go () = o1) ∨ (e = .ret ∧ ∃ a, Out.done a = o1 ∧ EndsE P V Try.f66 (.I a) [] .ret S)) (awp_loop (fun k S => ∃ xt8_7h : Int, S = ⟨[(0, .cv (.ro Tag.t_int p0)), (1, .I p1), (7, .I (p0.length : Int)), (8, .I xt8_7h)], []⟩ ∧ slices_Index_66.l7 K p0 p1 k xt8_7h = some o1) ?_ ⟨_, rfl, hp1⟩) ?_
  · clear h hp1
    intro k S hS
    obtain ⟨xt8_7h, rfl, h⟩ := hS
    cases k with
    | zero => cases h
    | succ k =>
    unfold slices_Index_66.l7 at h
    refine awp_seq ?_
    refine awp_region L 206 [] [] [] [0, 1, 7, 8, 9] [] (cs := []) (S' := ⟨[(0, .cv (.ro Tag.t_int p0)), (1, .I p1), (7, .I (p0.length : Int)), (8, .I xt8_7h), (9, .B ((decide (xt8_7h < (p0.length : Int)))))], []⟩) (by kernel_rfl) trivial ?_
    refine awp_seq ?_
    rcases ite_some h with ⟨c1, h⟩ | ⟨c1, h⟩
    · refine awp_true (b := (decide (xt8_7h < (p0.length : Int)))) (by kernel_rfl) (decide_eq_true c1) ?_
      refine awp_skip [0, 1, 7, 8] [] (S' := ⟨[(0, .cv (.ro Tag.t_int p0)), (1, .I p1), (7, .I (p0.length : Int)), (8, .I xt8_7h)], []⟩) (by kernel_rfl) ?_
      refine awp_seq ?_
      refine awp_block ?_
      refine awp_seq ?_
      refine awp_region L 208 [] [] [] [0, 1, 5, 7, 8] [] (cs := []) (S' := ⟨[(0, .cv (.ro Tag.t_int p0)), (1, .I p1), (5, .I xt8_7h), (7, .I (p0.length : Int)), (8, .I xt8_7h)], []⟩) (by kernel_rfl) trivial ?_
      refine awp_seq ?_
      obtain ⟨g1, h⟩ := guard_some h
      refine awp_region L 211 [] [] [] [0, 1, 5, 7, 8, 16] [] (cs := [(0 : Int) ≤ xt8_7h, (xt8_7h : Int) < (p0.length : Int)]) (S' := ⟨[(0, .cv (.ro Tag.t_int p0)), (1, .I p1), (5, .I xt8_7h), (7, .I (p0.length : Int)), (8, .I xt8_7h), (16, .B ((decide (p1 = (p0.getD (Int.toNat xt8_7h) (0 : Int))))))], []⟩) (by kernel_rfl) (And.intro g1.1 g1.2) ?_
      rcases ite_some h with ⟨c2, h⟩ | ⟨c2, h⟩
      · refine awp_true (b := (decide (p1 = (p0.getD (Int.toNat xt8_7h) (0 : Int))))) (by kernel_rfl) (decide_eq_true c2) ?_
        refine awp_seq ?_
        refine awp_region L 218 [] [] [] [4] [] (cs := []) (S' := ⟨[(4, .I xt8_7h)], []⟩) (by kernel_rfl) trivial ?_
        refine awp_ret ?_
        have hr := Option.some.inj h
        subst hr
        exact .inr ⟨rfl, _, rfl, ⟨.inr rfl, .I xt8_7h, by kernel_rfl, by kernel_rfl, by kernel_rfl⟩⟩
      · refine awp_false (b := (decide (p1 = (p0.getD (Int.toNat xt8_7h) (0 : Int))))) (by kernel_rfl) (decide_eq_false c2) ?_
        refine awp_skip [0, 1, 7, 8] [] (S' := ⟨[(0, .cv (.ro Tag.t_int p0)), (1, .I p1), (7, .I (p0.length : Int)), (8, .I xt8_7h)], []⟩) (by kernel_rfl) ?_
        refine awp_region L 221 [] [] [] [0, 1, 7, 8] [] (cs := []) (S' := ⟨[(0, .cv (.ro Tag.t_int p0)), (1, .I p1), (7, .I (p0.length : Int)), (8, .I ((IntKind.i64.wrap (xt8_7h + 1))))], []⟩) (by kernel_rfl) trivial ?_
        exact ⟨k, Nat.lt_succ_self k, _, rfl, h⟩
    · refine awp_false (b := (decide (xt8_7h < (p0.length : Int)))) (by kernel_rfl) (decide_eq_false c1) ?_
      refine awp_exit [] [] (S' := ⟨[], []⟩) (by kernel_rfl) ?_
      have hr := Option.some.inj h
      subst hr
      exact .inl ⟨rfl, rfl, rfl⟩
  · rintro e S (⟨rfl, rfl, rfl⟩ | ⟨rfl, a, rfl, hr⟩)
    · rcases h with ⟨_, e1, h⟩ | ⟨_, e1, h⟩
      · cases e1
      · have e2 := Out.go.inj e1
        subst e2
        refine ⟨_, Turns.refl, ?_⟩
        refine awp_seq ?_
        refine awp_region L 224 [] [] [] [4] [] (cs := []) (S' := ⟨[(4, .I (-1))], []⟩) (by kernel_rfl) trivial ?_
        refine awp_ret ?_
        have hr := Option.some.inj h
        subst hr
        exact ⟨.inr rfl, .I (-1), by kernel_rfl, by kernel_rfl, by kernel_rfl⟩
    · rcases h with ⟨_, e1, h⟩ | ⟨_, e1, h⟩
      · have e2 := Out.done.inj e1
        subst e2
        subst h
        exact ⟨_, Turns.refl, hr⟩
      · cases e1

theorem slices_Index_66.okE {K : Nat} {p0 : List Int} {p1 : Int} {r : Int} (h : slices_Index_66 K p0 p1 = some r) : ECall V P 66 [.cv (.ro Tag.t_int p0), .I p1] [] [] (.I r) [] :=
  ecall_of (fn := Try.f66) (n := 19) (m := 100) (by kernel_rfl) (by kernel_rfl) (by kernel_rfl) rfl (by kernel_rfl) (by kernel_rfl) fun Γ => slices_Index_66.body h

theorem slices_Index_66.ok {K : Nat} {p0 : List Int} {p1 : Int} {r : Int} (h : slices_Index_66 K p0 p1 = some r) : PCall V P 66 [.cv (.ro Tag.t_int p0), .I p1] (.I r) := (slices_Index_66.okE h).pcall (by kernel_rfl)

def slices_Contains_51 (K : Nat) (p0 : List Int) (p1 : Int) : Option Bool := (Option.bind (slices_Index_66 K p0 p1) (fun a1 => some ((decide (a1 ≥ 0)))))

theorem slices_Contains_51.body {Γ : Ent} {K : Nat} {p0 : List Int} {p1 : Int} {r : Bool} (h : slices_Contains_51 K p0 p1 = some r) : AWp V P 9 100 Γ (Try.f51.body.getD .skip) (EndsE P V Try.f51 (.B r) []) ⟨args0 0 [.cv (.ro Tag.t_int p0), .I p1], []⟩ := by
  unfold slices_Contains_51 at h
  refine awp_seq ?_
  refine awp_region L 200 [] [] [] [0, 1] [] (cs := []) (S' := ⟨[(0, .cv (.ro Tag.t_int p0)), (1, .I p1)], []⟩) (by kernel_rfl) trivial ?_
  refine awp_seq ?_
  obtain ⟨a1, h1, h⟩ := bind_some h
  refine awp_region L 202 [] [(2, .I a1)] [] [4] [] (cs := [PCall V P 66 [.cv (.ro Tag.t_int p0), .I p1] (.I a1), True]) (S' := ⟨[(4, .B ((decide (a1 ≥ 0))))], []⟩) (by kernel_rfl) (And.intro (slices_Index_66.ok h1) trivial) ?_
  refine awp_ret ?_
  have hr := Option.some.inj h
  subst hr
  exact ⟨.inr rfl, .B ((decide (a1 ≥ 0))), by kernel_rfl, by kernel_rfl, by kernel_rfl⟩

theorem slices_Contains_51.okE {K : Nat} {p0 : List Int} {p1 : Int} {r : Bool} (h : slices_Contains_51 K p0 p1 = some r) : ECall V P 51 [.cv (.ro Tag.t_int p0), .I p1] [] [] (.B r) [] :=
  ecall_of (fn := Try.f51) (n := 9) (m := 100) (by kernel_rfl) (by kernel_rfl) (by kernel_rfl) rfl (by kernel_rfl) (by kernel_rfl) fun Γ => slices_Contains_51.body h

theorem slices_Contains_51.ok {K : Nat} {p0 : List Int} {p1 : Int} {r : Bool} (h : slices_Contains_51 K p0 p1 = some r) : PCall V P 51 [.cv (.ro Tag.t_int p0), .I p1] (.B r) := (slices_Contains_51.okE h).pcall (by kernel_rfl)

def group_Group_others.l9 (K : Nat) (p0 : group_Group) (p1 : Int) (p2 : List Int) : Nat → Int → (List Int) → Option (List Int)
  | 0, _, _ => none
  | k + 1, xt12_9h, xh21901_9h => (if xt12_9h < (p0.Replicas.length : Int) then (if xt12_9h ≠ p1 then (if (0 : Int) ≤ xt12_9h ∧ (xt12_9h : Int) < (p0.Up.length : Int) then (if ((p0.Up.getD (Int.toNat xt12_9h) false)) = true then (Option.bind (slices_Contains_51 K p2 xt12_9h) (fun a1 => (if a1 = true then (if (xh21901_9h.length + ([xt12_9h] : List Int).length) * 8 ≤ 140737488355328 then group_Group_others.l9 K p0 p1 p2 k ((IntKind.i64.wrap (xt12_9h + 1))) ((xh21901_9h ++ ([xt12_9h] : List Int))) else none) else group_Group_others.l9 K p0 p1 p2 k ((IntKind.i64.wrap (xt12_9h + 1))) xh21901_9h))) else group_Group_others.l9 K p0 p1 p2 k ((IntKind.i64.wrap (xt12_9h + 1))) xh21901_9h) else none) else group_Group_others.l9 K p0 p1 p2 k ((IntKind.i64.wrap (xt12_9h + 1))) xh21901_9h) else some xh21901_9h)

def group_Group_others (K : Nat) (p0 : group_Group) (p1 : Int) (p2 : List Int) : Option (List Int) := (Option.bind (group_Group_others.l9 K p0 p1 p2 K 0 ([] : List Int) : Option (List Int)) (fun xh21800_9 => some xh21800_9))

theorem group_Group_others.body {Γ : Ent} {K : Nat} {p0 : group_Group} {p1 : Int} {p2 : List Int} {r : List Int} (h : group_Group_others K p0 p1 p2 = some r) : AWp V P 36 100 Γ (Try.f32.body.getD .skip) (EndsE P V Try.f32 (.cv (.ro Tag.t_int r)) []) ⟨args0 0 [.agg [.ro Tag.t_api_Replica p0.Replicas, .ro Tag.t_bool p0.Up, .I p0.Leader, .I p0.Epoch], .I p1, .cv (.ro Tag.t_int p2)], []⟩ := by
  unfold group_Group_others at h
  refine awp_seq ?_
  refine awp_region L 200 [] [] [] [1, 2, 3] [200] (cs := []) (S' := ⟨[(1, .I p1), (2, .cv (.ro Tag.t_int p2)), (3, .P 200)], [(200, .raw [.ro Tag.t_api_Replica p0.Replicas, .ro Tag.t_bool p0.Up, .I p0.Leader, .I p0.Epoch])]⟩) (by kernel_rfl) trivial ?_
  refine awp_seq ?_
  refine awp_region L 203 [] [] [] [1, 2, 3, 7] [200] (cs := []) (S' := ⟨[(1, .I p1), (2, .cv (.ro Tag.t_int p2)), (3, .P 200), (7, .N)], [(200, .raw [.ro Tag.t_api_Replica p0.Replicas, .ro Tag.t_bool p0.Up, .I p0.Leader, .I p0.Epoch])]⟩) (by kernel_rfl) trivial ?_
  refine awp_seq ?_
  refine awp_seq ?_
  refine awp_region L 205 [] [] [] [1, 2, 3, 7, 11, 12] [200] (cs := []) (S' := ⟨[(1, .I p1), (2, .cv (.ro Tag.t_int p2)), (3, .P 200), (7, .N), (11, .I (p0.Replicas.length : Int)), (12, .I 0)], [(200, .raw [.ro Tag.t_api_Replica p0.Replicas, .ro Tag.t_bool p0.Up, .I p0.Leader, .I p0.Epoch])]⟩) (by kernel_rfl) trivial ?_
  refine awp_block ?_
  refine awp_turn (Turns.trans (Turns.keep [1, 2, 3, 7, 11, 12] [200] (S' := ⟨[(1, .I p1), (2, .cv (.ro Tag.t_int p2)), (3, .P 200), (7, .N), (11, .I (p0.Replicas.length : Int)), (12, .I 0)], [(200, .raw [.ro Tag.t_api_Replica p0.Replicas, .ro Tag.t_bool p0.Up, .I p0.Leader, .I p0.Epoch])]⟩) (by kernel_rfl)) (Turns.trans (Turns.nilown 7 9500 Tag.t_int (by kernel_rfl) (by kernel_rfl) (S' := ⟨[(7, .cv (.own Tag.t_int 9500)), (1, .I p1), (2, .cv (.ro Tag.t_int p2)), (3, .P 200), (11, .I (p0.Replicas.length : Int)), (12, .I 0)], [(9500, .lst Tag.t_int ([] : List Int)), (200, .raw [.ro Tag.t_api_Replica p0.Replicas, .ro Tag.t_bool p0.Up, .I p0.Leader, .I p0.Epoch])]⟩) (by kernel_rfl)) (Turns.trans (Turns.keep [1, 2, 3, 7, 11, 12] [200, 9500] (S' := ⟨[(1, .I p1), (2, .cv (.ro Tag.t_int p2)), (3, .P 200), (7, .cv (.own Tag.t_int 9500)), (11, .I (p0.Replicas.length : Int)), (12, .I 0)], [(200, .raw [.ro Tag.t_api_Replica p0.Replicas, .ro Tag.t_bool p0.Up, .I p0.Leader, .I p0.Epoch]), (9500, .lst Tag.t_int ([] : List Int))]⟩) (by kernel_rfl)) (Turns.ren [(200, 21900), (9500, 21901)] (S' := ⟨[(1, .I p1), (2, .cv (.ro Tag.t_int p2)), (3, .P 21900), (7, .cv (.own Tag.t_int 21901)), (11, .I (p0.Replicas.length : Int)), (12, .I 0)], [(21900, .raw [.ro Tag.t_api_Replica p0.Replicas, .ro Tag.t_bool p0.Up, .I p0.Leader, .I p0.Epoch]), (21901, .lst Tag.t_int ([] : List Int))]⟩) (by kernel_rfl) (by kernel_rfl))))) ?_
  refine awp_keep (ts := [1, 2, 3, 7, 11, 12]) (ids := [21900, 21901]) (S' := ⟨[(1, .I p1), (2, .cv (.ro Tag.t_int p2)), (3, .P 21900), (7, .cv (.own Tag.t_int 21901)), (11, .I (p0.Replicas.length : Int)), (12, .I 0)], [(21900, .raw [.ro Tag.t_api_Replica p0.Replicas, .ro Tag.t_bool p0.Up, .I p0.Leader, .I p0.Epoch]), (21901, .lst Tag.t_int ([] : List Int))]⟩) (by kernel_rfl) ?_
  obtain ⟨o1, hp1, h⟩ := bind_some h
  refine awp_conseq (Q' := fun e S => (e = .exit 0 ∧ ∃ xh21800_9 : List Int, S = ⟨[(7, .cv (.own Tag.t_int 21800))], [(21800, .lst Tag.t_int xh21800_9)]⟩ ∧ xh21800_9 = o1)) (awp_loop (fun k S => ∃ xt12_9h : Int, ∃ xh21901_9h : List Int, S = ⟨[(1, .I p1), (2, .cv (.ro Tag.t_int p2)), (3, .P 21900), (7, .cv (.own Tag.t_int 21901)), (11, .I (p0.Replicas.length : Int)), (12, .I xt12_9h)], [(21900, .raw [.ro Tag.t_api_Replica p0.Replicas, .ro Tag.t_bool p0.Up, .I p0.Leader, .I p0.Epoch]), (21901, .lst Tag.t_int xh21901_9h)]⟩ ∧ group_Group_others.l9 K p0 p1 p2 k xt12_9h xh21901_9h = some o1) ?_ ⟨_, _, rfl, hp1⟩) ?_
  · clear h hp1
    intro k S hS
    obtain ⟨xt12_9h, xh21901_9h, rfl, h⟩ := hS
    cases k with
    | zero => cases h
    | succ k =>
    unfold group_Group_others.l9 at h
    refine awp_seq ?_
    refine awp_region L 210 [] [] [] [1, 2, 3, 7, 11, 12, 13] [21900, 21901] (cs := []) (S' := ⟨[(1, .I p1), (2, .cv (.ro Tag.t_int p2)), (3, .P 21900), (7, .cv (.own Tag.t_int 21901)), (11, .I (p0.Replicas.length : Int)), (12, .I xt12_9h), (13, .B ((decide (xt12_9h < (p0.Replicas.length : Int)))))], [(21900, .raw [.ro Tag.t_api_Replica p0.Replicas, .ro Tag.t_bool p0.Up, .I p0.Leader, .I p0.Epoch]), (21901, .lst Tag.t_int xh21901_9h)]⟩) (by kernel_rfl) trivial ?_
    refine awp_seq ?_
    rcases ite_some h with ⟨c1, h⟩ | ⟨c1, h⟩
    · refine awp_true (b := (decide (xt12_9h < (p0.Replicas.length : Int)))) (by kernel_rfl) (decide_eq_true c1) ?_
      refine awp_skip [1, 2, 3, 7, 11, 12] [21900, 21901] (S' := ⟨[(1, .I p1), (2, .cv (.ro Tag.t_int p2)), (3, .P 21900), (7, .cv (.own Tag.t_int 21901)), (11, .I (p0.Replicas.length : Int)), (12, .I xt12_9h)], [(21900, .raw [.ro Tag.t_api_Replica p0.Replicas, .ro Tag.t_bool p0.Up, .I p0.Leader, .I p0.Epoch]), (21901, .lst Tag.t_int xh21901_9h)]⟩) (by kernel_rfl) ?_
      refine awp_seq ?_
      refine awp_block ?_
      refine awp_seq ?_
      refine awp_region L 212 [] [] [] [1, 2, 3, 7, 8, 11, 12] [21900, 21901] (cs := []) (S' := ⟨[(1, .I p1), (2, .cv (.ro Tag.t_int p2)), (3, .P 21900), (7, .cv (.own Tag.t_int 21901)), (8, .I xt12_9h), (11, .I (p0.Replicas.length : Int)), (12, .I xt12_9h)], [(21900, .raw [.ro Tag.t_api_Replica p0.Replicas, .ro Tag.t_bool p0.Up, .I p0.Leader, .I p0.Epoch]), (21901, .lst Tag.t_int xh21901_9h)]⟩) (by kernel_rfl) trivial ?_
      refine awp_seq ?_
      rcases ite_some h with ⟨c2, h⟩ | ⟨c2, h⟩
      · obtain ⟨g1, h⟩ := guard_some h
        rcases ite_some h with ⟨c3, h⟩ | ⟨c3, h⟩
        · obtain ⟨a1, h1, h⟩ := bind_some h
          refine awp_region L 215 [(3, true), (10, true)] [(13, .B a1)] [] [1, 2, 3, 7, 8, 11, 12, 29] [21900, 21901] (cs := [(decide (xt12_9h ≠ p1)) = true, (0 : Int) ≤ xt12_9h, (xt12_9h : Int) < (p0.Up.length : Int), (p0.Up.getD (Int.toNat xt12_9h) false) = true, PCall V P 51 [.cv (.ro Tag.t_int p2), .I xt12_9h] (.B a1), True]) (S' := ⟨[(1, .I p1), (2, .cv (.ro Tag.t_int p2)), (3, .P 21900), (7, .cv (.own Tag.t_int 21901)), (8, .I xt12_9h), (11, .I (p0.Replicas.length : Int)), (12, .I xt12_9h), (29, .B a1)], [(21900, .raw [.ro Tag.t_api_Replica p0.Replicas, .ro Tag.t_bool p0.Up, .I p0.Leader, .I p0.Epoch]), (21901, .lst Tag.t_int xh21901_9h)]⟩) (by kernel_rfl) (And.intro (decide_eq_true c2) (And.intro g1.1 (And.intro g1.2 (And.intro c3 (And.intro (slices_Contains_51.ok h1) trivial))))) ?_
          rcases ite_some h with ⟨c4, h⟩ | ⟨c4, h⟩
          · refine awp_true (b := a1) (by kernel_rfl) (c4) ?_
            obtain ⟨g2, h⟩ := guard_some h
            refine awp_region L 231 [] [] [] [1, 2, 3, 7, 11, 12] [21900, 21901] (cs := [(xh21901_9h.length + ([xt12_9h] : List Int).length) * 8 ≤ 140737488355328, True]) (S' := ⟨[(1, .I p1), (2, .cv (.ro Tag.t_int p2)), (3, .P 21900), (7, .cv (.own Tag.t_int 21901)), (11, .I (p0.Replicas.length : Int)), (12, .I xt12_9h)], [(21900, .raw [.ro Tag.t_api_Replica p0.Replicas, .ro Tag.t_bool p0.Up, .I p0.Leader, .I p0.Epoch]), (21901, .lst Tag.t_int ((xh21901_9h ++ ([xt12_9h] : List Int))))]⟩) (by kernel_rfl) (And.intro g2 trivial) ?_
            refine awp_region L 237 [] [] [] [1, 2, 3, 7, 11, 12] [21900, 21901] (cs := []) (S' := ⟨[(1, .I p1), (2, .cv (.ro Tag.t_int p2)), (3, .P 21900), (7, .cv (.own Tag.t_int 21901)), (11, .I (p0.Replicas.length : Int)), (12, .I ((IntKind.i64.wrap (xt12_9h + 1))))], [(21900, .raw [.ro Tag.t_api_Replica p0.Replicas, .ro Tag.t_bool p0.Up, .I p0.Leader, .I p0.Epoch]), (21901, .lst Tag.t_int ((xh21901_9h ++ ([xt12_9h] : List Int))))]⟩) (by kernel_rfl) trivial ?_
            exact ⟨k, Nat.lt_succ_self k, _, _, rfl, h⟩
          · refine awp_false (b := a1) (by kernel_rfl) (eq_false_of_ne_true c4) ?_
            refine awp_skip [1, 2, 3, 7, 11, 12] [21900, 21901] (S' := ⟨[(1, .I p1), (2, .cv (.ro Tag.t_int p2)), (3, .P 21900), (7, .cv (.own Tag.t_int 21901)), (11, .I (p0.Replicas.length : Int)), (12, .I xt12_9h)], [(21900, .raw [.ro Tag.t_api_Replica p0.Replicas, .ro Tag.t_bool p0.Up, .I p0.Leader, .I p0.Epoch]), (21901, .lst Tag.t_int xh21901_9h)]⟩) (by kernel_rfl) ?_
            refine awp_region L 237 [] [] [] [1, 2, 3, 7, 11, 12] [21900, 21901] (cs := []) (S' := ⟨[(1, .I p1), (2, .cv (.ro Tag.t_int p2)), (3, .P 21900), (7, .cv (.own Tag.t_int 21901)), (11, .I (p0.Replicas.length : Int)), (12, .I ((IntKind.i64.wrap (xt12_9h + 1))))], [(21900, .raw [.ro Tag.t_api_Replica p0.Replicas, .ro Tag.t_bool p0.Up, .I p0.Leader, .I p0.Epoch]), (21901, .lst Tag.t_int xh21901_9h)]⟩) (by kernel_rfl) trivial ?_
            exact ⟨k, Nat.lt_succ_self k, _, _, rfl, h⟩
        · refine awp_region L 215 [(3, true), (10, false)] [] [] [1, 2, 3, 7, 8, 11, 12, 29] [21900, 21901] (cs := [(decide (xt12_9h ≠ p1)) = true, (0 : Int) ≤ xt12_9h, (xt12_9h : Int) < (p0.Up.length : Int), (p0.Up.getD (Int.toNat xt12_9h) false) = false]) (S' := ⟨[(1, .I p1), (2, .cv (.ro Tag.t_int p2)), (3, .P 21900), (7, .cv (.own Tag.t_int 21901)), (8, .I xt12_9h), (11, .I (p0.Replicas.length : Int)), (12, .I xt12_9h), (29, .B false)], [(21900, .raw [.ro Tag.t_api_Replica p0.Replicas, .ro Tag.t_bool p0.Up, .I p0.Leader, .I p0.Epoch]), (21901, .lst Tag.t_int xh21901_9h)]⟩) (by kernel_rfl) (And.intro (decide_eq_true c2) (And.intro g1.1 (And.intro g1.2 (eq_false_of_ne_true c3)))) ?_
          refine awp_false (b := false) (by kernel_rfl) (rfl) ?_
          refine awp_skip [1, 2, 3, 7, 11, 12] [21900, 21901] (S' := ⟨[(1, .I p1), (2, .cv (.ro Tag.t_int p2)), (3, .P 21900), (7, .cv (.own Tag.t_int 21901)), (11, .I (p0.Replicas.length : Int)), (12, .I xt12_9h)], [(21900, .raw [.ro Tag.t_api_Replica p0.Replicas, .ro Tag.t_bool p0.Up, .I p0.Leader, .I p0.Epoch]), (21901, .lst Tag.t_int xh21901_9h)]⟩) (by kernel_rfl) ?_
          refine awp_region L 237 [] [] [] [1, 2, 3, 7, 11, 12] [21900, 21901] (cs := []) (S' := ⟨[(1, .I p1), (2, .cv (.ro Tag.t_int p2)), (3, .P 21900), (7, .cv (.own Tag.t_int 21901)), (11, .I (p0.Replicas.length : Int)), (12, .I ((IntKind.i64.wrap (xt12_9h + 1))))], [(21900, .raw [.ro Tag.t_api_Replica p0.Replicas, .ro Tag.t_bool p0.Up, .I p0.Leader, .I p0.Epoch]), (21901, .lst Tag.t_int xh21901_9h)]⟩) (by kernel_rfl) trivial ?_
          exact ⟨k, Nat.lt_succ_self k, _, _, rfl, h⟩
      · refine awp_region L 215 [(3, false)] [] [] [1, 2, 3, 7, 8, 11, 12, 29] [21900, 21901] (cs := [(decide (xt12_9h ≠ p1)) = false]) (S' := ⟨[(1, .I p1), (2, .cv (.ro Tag.t_int p2)), (3, .P 21900), (7, .cv (.own Tag.t_int 21901)), (8, .I xt12_9h), (11, .I (p0.Replicas.length : Int)), (12, .I xt12_9h), (29, .B false)], [(21900, .raw [.ro Tag.t_api_Replica p0.Replicas, .ro Tag.t_bool p0.Up, .I p0.Leader, .I p0.Epoch]), (21901, .lst Tag.t_int xh21901_9h)]⟩) (by kernel_rfl) (decide_eq_false c2) ?_
        refine awp_false (b := false) (by kernel_rfl) (rfl) ?_
        refine awp_skip [1, 2, 3, 7, 11, 12] [21900, 21901] (S' := ⟨[(1, .I p1), (2, .cv (.ro Tag.t_int p2)), (3, .P 21900), (7, .cv (.own Tag.t_int 21901)), (11, .I (p0.Replicas.length : Int)), (12, .I xt12_9h)], [(21900, .raw [.ro Tag.t_api_Replica p0.Replicas, .ro Tag.t_bool p0.Up, .I p0.Leader, .I p0.Epoch]), (21901, .lst Tag.t_int xh21901_9h)]⟩) (by kernel_rfl) ?_
        refine awp_region L 237 [] [] [] [1, 2, 3, 7, 11, 12] [21900, 21901] (cs := []) (S' := ⟨[(1, .I p1), (2, .cv (.ro Tag.t_int p2)), (3, .P 21900), (7, .cv (.own Tag.t_int 21901)), (11, .I (p0.Replicas.length : Int)), (12, .I ((IntKind.i64.wrap (xt12_9h + 1))))], [(21900, .raw [.ro Tag.t_api_Replica p0.Replicas, .ro Tag.t_bool p0.Up, .I p0.Leader, .I p0.Epoch]), (21901, .lst Tag.t_int xh21901_9h)]⟩) (by kernel_rfl) trivial ?_
        exact ⟨k, Nat.lt_succ_self k, _, _, rfl, h⟩
    · refine awp_false (b := (decide (xt12_9h < (p0.Replicas.length : Int)))) (by kernel_rfl) (decide_eq_false c1) ?_
      refine awp_turn (Turns.trans (Turns.keep [7] [21901] (S' := ⟨[(7, .cv (.own Tag.t_int 21901))], [(21901, .lst Tag.t_int xh21901_9h)]⟩) (by kernel_rfl)) (Turns.ren [(21901, 21800)] (S' := ⟨[(7, .cv (.own Tag.t_int 21800))], [(21800, .lst Tag.t_int xh21901_9h)]⟩) (by kernel_rfl) (by kernel_rfl))) ?_
      refine awp_exit [7] [21800] (S' := ⟨[(7, .cv (.own Tag.t_int 21800))], [(21800, .lst Tag.t_int xh21901_9h)]⟩) (by kernel_rfl) ?_
      have hr := Option.some.inj h
      subst hr
      exact ⟨rfl, _, rfl, rfl⟩
  · rintro e S ⟨rfl, xh21800_9, rfl, rfl⟩
    refine ⟨_, Turns.refl, ?_⟩
    refine awp_seq ?_
    refine awp_region L 240 [] [] [] [6] [21800] (cs := []) (S' := ⟨[(6, .cv (.own Tag.t_int 21800))], [(21800, .lst Tag.t_int xh21800_9)]⟩) (by kernel_rfl) trivial ?_
    refine awp_turn (Turns.trans (Turns.keep [6] [21800] (S' := ⟨[(6, .cv (.own Tag.t_int 21800))], [(21800, .lst Tag.t_int xh21800_9)]⟩) (by kernel_rfl)) (Turns.trans (Turns.frz 21800 (blk0 := .lst Tag.t_int xh21800_9) (by kernel_rfl) (by kernel_rfl) (S' := ⟨[(6, .cv (.ro Tag.t_int xh21800_9))], []⟩) (by kernel_rfl)) (Turns.keep [6] [] (S' := ⟨[(6, .cv (.ro Tag.t_int xh21800_9))], []⟩) (by kernel_rfl)))) ?_
    refine awp_ret ?_
    have hr := Option.some.inj h
    subst hr
    exact ⟨.inr rfl, .cv (.ro Tag.t_int xh21800_9), by kernel_rfl, by kernel_rfl, by kernel_rfl⟩

theorem group_Group_others.okE {K : Nat} {p0 : group_Group} {p1 : Int} {p2 : List Int} {r : List Int} (h : group_Group_others K p0 p1 p2 = some r) : ECall V P 32 [.agg [.ro Tag.t_api_Replica p0.Replicas, .ro Tag.t_bool p0.Up, .I p0.Leader, .I p0.Epoch], .I p1, .cv (.ro Tag.t_int p2)] [] [] (.cv (.ro Tag.t_int r)) [] :=
  ecall_of (fn := Try.f32) (n := 36) (m := 100) (by kernel_rfl) (by kernel_rfl) (by kernel_rfl) rfl (by kernel_rfl) (by kernel_rfl) fun Γ => group_Group_others.body h

theorem group_Group_others.ok {K : Nat} {p0 : group_Group} {p1 : Int} {p2 : List Int} {r : List Int} (h : group_Group_others K p0 p1 p2 = some r) : PCall V P 32 [.agg [.ro Tag.t_api_Replica p0.Replicas, .ro Tag.t_bool p0.Up, .I p0.Leader, .I p0.Epoch], .I p1, .cv (.ro Tag.t_int p2)] (.cv (.ro Tag.t_int r)) := (group_Group_others.okE h).pcall (by kernel_rfl)

def group_Group_others_v2.l9 (K : Nat) (p0 : group_Group) (p1 : Int) (p2 : List Int) : Nat → Int → (List Int) → Option (List Int)
  | 0, _, _ => none
  | k + 1, xt12_9h, xh21901_9h => (if xt12_9h < (p0.Replicas.length : Int) then (if xt12_9h ≠ p1 then (if (0 : Int) ≤ xt12_9h ∧ (xt12_9h : Int) < (p0.Up.length : Int) then (if ((p0.Up.getD (Int.toNat xt12_9h) false)) = true then (Option.bind (slices_Contains_51 K p2 xt12_9h) (fun a1 => (if a1 = true then (if (xh21901_9h.length + ([xt12_9h] : List Int).length) * 8 ≤ 140737488355328 then group_Group_others_v2.l9 K p0 p1 p2 k ((IntKind.i64.wrap (xt12_9h + 1))) ((xh21901_9h ++ ([xt12_9h] : List Int))) else none) else group_Group_others_v2.l9 K p0 p1 p2 k ((IntKind.i64.wrap (xt12_9h + 1))) xh21901_9h))) else group_Group_others_v2.l9 K p0 p1 p2 k ((IntKind.i64.wrap (xt12_9h + 1))) xh21901_9h) else none) else group_Group_others_v2.l9 K p0 p1 p2 k ((IntKind.i64.wrap (xt12_9h + 1))) xh21901_9h) else some xh21901_9h)

def group_Group_others_v2 (K : Nat) (p0 : group_Group) (p1 : Int) (p2 : List Int) : Option (List Int) := (Option.bind (group_Group_others_v2.l9 K p0 p1 p2 K 0 ([] : List Int) : Option (List Int)) (fun xh21800_9 => some xh21800_9))

theorem group_Group_others_v2.body {Γ : Ent} {K : Nat} {p0 : group_Group} {p1 : Int} {p2 : List Int} {r : List Int} (h : group_Group_others_v2 K p0 p1 p2 = some r) : AWp V P 36 100 Γ (Try.f32.body.getD .skip) (EndsE P V Try.f32 (.cv (.own Tag.t_int 100)) [(100, .lst Tag.t_int r)]) ⟨args0 0 [.agg [.ro Tag.t_api_Replica p0.Replicas, .ro Tag.t_bool p0.Up, .I p0.Leader, .I p0.Epoch], .I p1, .cv (.ro Tag.t_int p2)], []⟩ := by
  unfold group_Group_others_v2 at h
  refine awp_seq ?_
  refine awp_region L 200 [] [] [] [1, 2, 3] [200] (cs := []) (S' := ⟨[(1, .I p1), (2, .cv (.ro Tag.t_int p2)), (3, .P 200)], [(200, .raw [.ro Tag.t_api_Replica p0.Replicas, .ro Tag.t_bool p0.Up, .I p0.Leader, .I p0.Epoch])]⟩) (by kernel_rfl) trivial ?_
  refine awp_seq ?_
  refine awp_region L 203 [] [] [] [1, 2, 3, 7] [200] (cs := []) (S' := ⟨[(1, .I p1), (2, .cv (.ro Tag.t_int p2)), (3, .P 200), (7, .N)], [(200, .raw [.ro Tag.t_api_Replica p0.Replicas, .ro Tag.t_bool p0.Up, .I p0.Leader, .I p0.Epoch])]⟩) (by kernel_rfl) trivial ?_
  refine awp_seq ?_
  refine awp_seq ?_
  refine awp_region L 205 [] [] [] [1, 2, 3, 7, 11, 12] [200] (cs := []) (S' := ⟨[(1, .I p1), (2, .cv (.ro Tag.t_int p2)), (3, .P 200), (7, .N), (11, .I (p0.Replicas.length : Int)), (12, .I 0)], [(200, .raw [.ro Tag.t_api_Replica p0.Replicas, .ro Tag.t_bool p0.Up, .I p0.Leader, .I p0.Epoch])]⟩) (by kernel_rfl) trivial ?_
  refine awp_block ?_
  refine awp_turn (Turns.trans (Turns.keep [1, 2, 3, 7, 11, 12] [200] (S' := ⟨[(1, .I p1), (2, .cv (.ro Tag.t_int p2)), (3, .P 200), (7, .N), (11, .I (p0.Replicas.length : Int)), (12, .I 0)], [(200, .raw [.ro Tag.t_api_Replica p0.Replicas, .ro Tag.t_bool p0.Up, .I p0.Leader, .I p0.Epoch])]⟩) (by kernel_rfl)) (Turns.trans (Turns.nilown 7 9500 Tag.t_int (by kernel_rfl) (by kernel_rfl) (S' := ⟨[(7, .cv (.own Tag.t_int 9500)), (1, .I p1), (2, .cv (.ro Tag.t_int p2)), (3, .P 200), (11, .I (p0.Replicas.length : Int)), (12, .I 0)], [(9500, .lst Tag.t_int ([] : List Int)), (200, .raw [.ro Tag.t_api_Replica p0.Replicas, .ro Tag.t_bool p0.Up, .I p0.Leader, .I p0.Epoch])]⟩) (by kernel_rfl)) (Turns.trans (Turns.keep [1, 2, 3, 7, 11, 12] [200, 9500] (S' := ⟨[(1, .I p1), (2, .cv (.ro Tag.t_int p2)), (3, .P 200), (7, .cv (.own Tag.t_int 9500)), (11, .I (p0.Replicas.length : Int)), (12, .I 0)], [(200, .raw [.ro Tag.t_api_Replica p0.Replicas, .ro Tag.t_bool p0.Up, .I p0.Leader, .I p0.Epoch]), (9500, .lst Tag.t_int ([] : List Int))]⟩) (by kernel_rfl)) (Turns.ren [(200, 21900), (9500, 21901)] (S' := ⟨[(1, .I p1), (2, .cv (.ro Tag.t_int p2)), (3, .P 21900), (7, .cv (.own Tag.t_int 21901)), (11, .I (p0.Replicas.length : Int)), (12, .I 0)], [(21900, .raw [.ro Tag.t_api_Replica p0.Replicas, .ro Tag.t_bool p0.Up, .I p0.Leader, .I p0.Epoch]), (21901, .lst Tag.t_int ([] : List Int))]⟩) (by kernel_rfl) (by kernel_rfl))))) ?_
  refine awp_keep (ts := [1, 2, 3, 7, 11, 12]) (ids := [21900, 21901]) (S' := ⟨[(1, .I p1), (2, .cv (.ro Tag.t_int p2)), (3, .P 21900), (7, .cv (.own Tag.t_int 21901)), (11, .I (p0.Replicas.length : Int)), (12, .I 0)], [(21900, .raw [.ro Tag.t_api_Replica p0.Replicas, .ro Tag.t_bool p0.Up, .I p0.Leader, .I p0.Epoch]), (21901, .lst Tag.t_int ([] : List Int))]⟩) (by kernel_rfl) ?_
  obtain ⟨o1, hp1, h⟩ := bind_some h
  refine awp_conseq (Q' := fun e S => (e = .exit 0 ∧ ∃ xh21800_9 : List Int, S = ⟨[(7, .cv (.own Tag.t_int 21800))], [(21800, .lst Tag.t_int xh21800_9)]⟩ ∧ xh21800_9 = o1)) (awp_loop (fun k S => ∃ xt12_9h : Int, ∃ xh21901_9h : List Int, S = ⟨[(1, .I p1), (2, .cv (.ro Tag.t_int p2)), (3, .P 21900), (7, .cv (.own Tag.t_int 21901)), (11, .I (p0.Replicas.length : Int)), (12, .I xt12_9h)], [(21900, .raw [.ro Tag.t_api_Replica p0.Replicas, .ro Tag.t_bool p0.Up, .I p0.Leader, .I p0.Epoch]), (21901, .lst Tag.t_int xh21901_9h)]⟩ ∧ group_Group_others_v2.l9 K p0 p1 p2 k xt12_9h xh21901_9h = some o1) ?_ ⟨_, _, rfl, hp1⟩) ?_
  · clear h hp1
    intro k S hS
    obtain ⟨xt12_9h, xh21901_9h, rfl, h⟩ := hS
    cases k with
    | zero => cases h
    | succ k =>
    unfold group_Group_others_v2.l9 at h
    refine awp_seq ?_
    refine awp_region L 210 [] [] [] [1, 2, 3, 7, 11, 12, 13] [21900, 21901] (cs := []) (S' := ⟨[(1, .I p1), (2, .cv (.ro Tag.t_int p2)), (3, .P 21900), (7, .cv (.own Tag.t_int 21901)), (11, .I (p0.Replicas.length : Int)), (12, .I xt12_9h), (13, .B ((decide (xt12_9h < (p0.Replicas.length : Int)))))], [(21900, .raw [.ro Tag.t_api_Replica p0.Replicas, .ro Tag.t_bool p0.Up, .I p0.Leader, .I p0.Epoch]), (21901, .lst Tag.t_int xh21901_9h)]⟩) (by kernel_rfl) trivial ?_
    refine awp_seq ?_
    rcases ite_some h with ⟨c1, h⟩ | ⟨c1, h⟩
    · refine awp_true (b := (decide (xt12_9h < (p0.Replicas.length : Int)))) (by kernel_rfl) (decide_eq_true c1) ?_
      refine awp_skip [1, 2, 3, 7, 11, 12] [21900, 21901] (S' := ⟨[(1, .I p1), (2, .cv (.ro Tag.t_int p2)), (3, .P 21900), (7, .cv (.own Tag.t_int 21901)), (11, .I (p0.Replicas.length : Int)), (12, .I xt12_9h)], [(21900, .raw [.ro Tag.t_api_Replica p0.Replicas, .ro Tag.t_bool p0.Up, .I p0.Leader, .I p0.Epoch]), (21901, .lst Tag.t_int xh21901_9h)]⟩) (by kernel_rfl) ?_
      refine awp_seq ?_
      refine awp_block ?_
      refine awp_seq ?_
      refine awp_region L 212 [] [] [] [1, 2, 3, 7, 8, 11, 12] [21900, 21901] (cs := []) (S' := ⟨[(1, .I p1), (2, .cv (.ro Tag.t_int p2)), (3, .P 21900), (7, .cv (.own Tag.t_int 21901)), (8, .I xt12_9h), (11, .I (p0.Replicas.length : Int)), (12, .I xt12_9h)], [(21900, .raw [.ro Tag.t_api_Replica p0.Replicas, .ro Tag.t_bool p0.Up, .I p0.Leader, .I p0.Epoch]), (21901, .lst Tag.t_int xh21901_9h)]⟩) (by kernel_rfl) trivial ?_
      refine awp_seq ?_
      rcases ite_some h with ⟨c2, h⟩ | ⟨c2, h⟩
      · obtain ⟨g1, h⟩ := guard_some h
        rcases ite_some h with ⟨c3, h⟩ | ⟨c3, h⟩
        · obtain ⟨a1, h1, h⟩ := bind_some h
          refine awp_region L 215 [(3, true), (10, true)] [(13, .B a1)] [] [1, 2, 3, 7, 8, 11, 12, 29] [21900, 21901] (cs := [(decide (xt12_9h ≠ p1)) = true, (0 : Int) ≤ xt12_9h, (xt12_9h : Int) < (p0.Up.length : Int), (p0.Up.getD (Int.toNat xt12_9h) false) = true, PCall V P 51 [.cv (.ro Tag.t_int p2), .I xt12_9h] (.B a1), True]) (S' := ⟨[(1, .I p1), (2, .cv (.ro Tag.t_int p2)), (3, .P 21900), (7, .cv (.own Tag.t_int 21901)), (8, .I xt12_9h), (11, .I (p0.Replicas.length : Int)), (12, .I xt12_9h), (29, .B a1)], [(21900, .raw [.ro Tag.t_api_Replica p0.Replicas, .ro Tag.t_bool p0.Up, .I p0.Leader, .I p0.Epoch]), (21901, .lst Tag.t_int xh21901_9h)]⟩) (by kernel_rfl) (And.intro (decide_eq_true c2) (And.intro g1.1 (And.intro g1.2 (And.intro c3 (And.intro (slices_Contains_51.ok h1) trivial))))) ?_
          rcases ite_some h with ⟨c4, h⟩ | ⟨c4, h⟩
          · refine awp_true (b := a1) (by kernel_rfl) (c4) ?_
            obtain ⟨g2, h⟩ := guard_some h
            refine awp_region L 231 [] [] [] [1, 2, 3, 7, 11, 12] [21900, 21901] (cs := [(xh21901_9h.length + ([xt12_9h] : List Int).length) * 8 ≤ 140737488355328, True]) (S' := ⟨[(1, .I p1), (2, .cv (.ro Tag.t_int p2)), (3, .P 21900), (7, .cv (.own Tag.t_int 21901)), (11, .I (p0.Replicas.length : Int)), (12, .I xt12_9h)], [(21900, .raw [.ro Tag.t_api_Replica p0.Replicas, .ro Tag.t_bool p0.Up, .I p0.Leader, .I p0.Epoch]), (21901, .lst Tag.t_int ((xh21901_9h ++ ([xt12_9h] : List Int))))]⟩) (by kernel_rfl) (And.intro g2 trivial) ?_
            refine awp_region L 237 [] [] [] [1, 2, 3, 7, 11, 12] [21900, 21901] (cs := []) (S' := ⟨[(1, .I p1), (2, .cv (.ro Tag.t_int p2)), (3, .P 21900), (7, .cv (.own Tag.t_int 21901)), (11, .I (p0.Replicas.length : Int)), (12, .I ((IntKind.i64.wrap (xt12_9h + 1))))], [(21900, .raw [.ro Tag.t_api_Replica p0.Replicas, .ro Tag.t_bool p0.Up, .I p0.Leader, .I p0.Epoch]), (21901, .lst Tag.t_int ((xh21901_9h ++ ([xt12_9h] : List Int))))]⟩) (by kernel_rfl) trivial ?_
            exact ⟨k, Nat.lt_succ_self k, _, _, rfl, h⟩
          · refine awp_false (b := a1) (by kernel_rfl) (eq_false_of_ne_true c4) ?_
            refine awp_skip [1, 2, 3, 7, 11, 12] [21900, 21901] (S' := ⟨[(1, .I p1), (2, .cv (.ro Tag.t_int p2)), (3, .P 21900), (7, .cv (.own Tag.t_int 21901)), (11, .I (p0.Replicas.length : Int)), (12, .I xt12_9h)], [(21900, .raw [.ro Tag.t_api_Replica p0.Replicas, .ro Tag.t_bool p0.Up, .I p0.Leader, .I p0.Epoch]), (21901, .lst Tag.t_int xh21901_9h)]⟩) (by kernel_rfl) ?_
            refine awp_region L 237 [] [] [] [1, 2, 3, 7, 11, 12] [21900, 21901] (cs := []) (S' := ⟨[(1, .I p1), (2, .cv (.ro Tag.t_int p2)), (3, .P 21900), (7, .cv (.own Tag.t_int 21901)), (11, .I (p0.Replicas.length : Int)), (12, .I ((IntKind.i64.wrap (xt12_9h + 1))))], [(21900, .raw [.ro Tag.t_api_Replica p0.Replicas, .ro Tag.t_bool p0.Up, .I p0.Leader, .I p0.Epoch]), (21901, .lst Tag.t_int xh21901_9h)]⟩) (by kernel_rfl) trivial ?_
            exact ⟨k, Nat.lt_succ_self k, _, _, rfl, h⟩
        · refine awp_region L 215 [(3, true), (10, false)] [] [] [1, 2, 3, 7, 8, 11, 12, 29] [21900, 21901] (cs := [(decide (xt12_9h ≠ p1)) = true, (0 : Int) ≤ xt12_9h, (xt12_9h : Int) < (p0.Up.length : Int), (p0.Up.getD (Int.toNat xt12_9h) false) = false]) (S' := ⟨[(1, .I p1), (2, .cv (.ro Tag.t_int p2)), (3, .P 21900), (7, .cv (.own Tag.t_int 21901)), (8, .I xt12_9h), (11, .I (p0.Replicas.length : Int)), (12, .I xt12_9h), (29, .B false)], [(21900, .raw [.ro Tag.t_api_Replica p0.Replicas, .ro Tag.t_bool p0.Up, .I p0.Leader, .I p0.Epoch]), (21901, .lst Tag.t_int xh21901_9h)]⟩) (by kernel_rfl) (And.intro (decide_eq_true c2) (And.intro g1.1 (And.intro g1.2 (eq_false_of_ne_true c3)))) ?_
          refine awp_false (b := false) (by kernel_rfl) (rfl) ?_
          refine awp_skip [1, 2, 3, 7, 11, 12] [21900, 21901] (S' := ⟨[(1, .I p1), (2, .cv (.ro Tag.t_int p2)), (3, .P 21900), (7, .cv (.own Tag.t_int 21901)), (11, .I (p0.Replicas.length : Int)), (12, .I xt12_9h)], [(21900, .raw [.ro Tag.t_api_Replica p0.Replicas, .ro Tag.t_bool p0.Up, .I p0.Leader, .I p0.Epoch]), (21901, .lst Tag.t_int xh21901_9h)]⟩) (by kernel_rfl) ?_
          refine awp_region L 237 [] [] [] [1, 2, 3, 7, 11, 12] [21900, 21901] (cs := []) (S' := ⟨[(1, .I p1), (2, .cv (.ro Tag.t_int p2)), (3, .P 21900), (7, .cv (.own Tag.t_int 21901)), (11, .I (p0.Replicas.length : Int)), (12, .I ((IntKind.i64.wrap (xt12_9h + 1))))], [(21900, .raw [.ro Tag.t_api_Replica p0.Replicas, .ro Tag.t_bool p0.Up, .I p0.Leader, .I p0.Epoch]), (21901, .lst Tag.t_int xh21901_9h)]⟩) (by kernel_rfl) trivial ?_
          exact ⟨k, Nat.lt_succ_self k, _, _, rfl, h⟩
      · refine awp_region L 215 [(3, false)] [] [] [1, 2, 3, 7, 8, 11, 12, 29] [21900, 21901] (cs := [(decide (xt12_9h ≠ p1)) = false]) (S' := ⟨[(1, .I p1), (2, .cv (.ro Tag.t_int p2)), (3, .P 21900), (7, .cv (.own Tag.t_int 21901)), (8, .I xt12_9h), (11, .I (p0.Replicas.length : Int)), (12, .I xt12_9h), (29, .B false)], [(21900, .raw [.ro Tag.t_api_Replica p0.Replicas, .ro Tag.t_bool p0.Up, .I p0.Leader, .I p0.Epoch]), (21901, .lst Tag.t_int xh21901_9h)]⟩) (by kernel_rfl) (decide_eq_false c2) ?_
        refine awp_false (b := false) (by kernel_rfl) (rfl) ?_
        refine awp_skip [1, 2, 3, 7, 11, 12] [21900, 21901] (S' := ⟨[(1, .I p1), (2, .cv (.ro Tag.t_int p2)), (3, .P 21900), (7, .cv (.own Tag.t_int 21901)), (11, .I (p0.Replicas.length : Int)), (12, .I xt12_9h)], [(21900, .raw [.ro Tag.t_api_Replica p0.Replicas, .ro Tag.t_bool p0.Up, .I p0.Leader, .I p0.Epoch]), (21901, .lst Tag.t_int xh21901_9h)]⟩) (by kernel_rfl) ?_
        refine awp_region L 237 [] [] [] [1, 2, 3, 7, 11, 12] [21900, 21901] (cs := []) (S' := ⟨[(1, .I p1), (2, .cv (.ro Tag.t_int p2)), (3, .P 21900), (7, .cv (.own Tag.t_int 21901)), (11, .I (p0.Replicas.length : Int)), (12, .I ((IntKind.i64.wrap (xt12_9h + 1))))], [(21900, .raw [.ro Tag.t_api_Replica p0.Replicas, .ro Tag.t_bool p0.Up, .I p0.Leader, .I p0.Epoch]), (21901, .lst Tag.t_int xh21901_9h)]⟩) (by kernel_rfl) trivial ?_
        exact ⟨k, Nat.lt_succ_self k, _, _, rfl, h⟩
    · refine awp_false (b := (decide (xt12_9h < (p0.Replicas.length : Int)))) (by kernel_rfl) (decide_eq_false c1) ?_
      refine awp_turn (Turns.trans (Turns.keep [7] [21901] (S' := ⟨[(7, .cv (.own Tag.t_int 21901))], [(21901, .lst Tag.t_int xh21901_9h)]⟩) (by kernel_rfl)) (Turns.ren [(21901, 21800)] (S' := ⟨[(7, .cv (.own Tag.t_int 21800))], [(21800, .lst Tag.t_int xh21901_9h)]⟩) (by kernel_rfl) (by kernel_rfl))) ?_
      refine awp_exit [7] [21800] (S' := ⟨[(7, .cv (.own Tag.t_int 21800))], [(21800, .lst Tag.t_int xh21901_9h)]⟩) (by kernel_rfl) ?_
      have hr := Option.some.inj h
      subst hr
      exact ⟨rfl, _, rfl, rfl⟩
  · rintro e S ⟨rfl, xh21800_9, rfl, rfl⟩
    refine ⟨_, Turns.refl, ?_⟩
    refine awp_seq ?_
    refine awp_region L 240 [] [] [] [6] [21800] (cs := []) (S' := ⟨[(6, .cv (.own Tag.t_int 21800))], [(21800, .lst Tag.t_int xh21800_9)]⟩) (by kernel_rfl) trivial ?_
    refine awp_turn (Turns.trans (Turns.keep [6] [21800] (S' := ⟨[(6, .cv (.own Tag.t_int 21800))], [(21800, .lst Tag.t_int xh21800_9)]⟩) (by kernel_rfl)) (Turns.ren [(21800, 100)] (S' := ⟨[(6, .cv (.own Tag.t_int 100))], [(100, .lst Tag.t_int xh21800_9)]⟩) (by kernel_rfl) (by kernel_rfl))) ?_
    refine awp_ret ?_
    have hr := Option.some.inj h
    subst hr
    exact ⟨.inr rfl, .cv (.own Tag.t_int 100), by kernel_rfl, by kernel_rfl, by kernel_rfl⟩

theorem group_Group_others_v2.okE {K : Nat} {p0 : group_Group} {p1 : Int} {p2 : List Int} {r : List Int} (h : group_Group_others_v2 K p0 p1 p2 = some r) : ECall V P 32 [.agg [.ro Tag.t_api_Replica p0.Replicas, .ro Tag.t_bool p0.Up, .I p0.Leader, .I p0.Epoch], .I p1, .cv (.ro Tag.t_int p2)] [] [] (.cv (.own Tag.t_int 100)) [(100, .lst Tag.t_int r)] :=
  ecall_of (fn := Try.f32) (n := 36) (m := 100) (by kernel_rfl) (by kernel_rfl) (by kernel_rfl) rfl (by kernel_rfl) (by kernel_rfl) fun Γ => group_Group_others_v2.body h

theorem group_Group_others_v2.okF {K : Nat} {p0 : group_Group} {p1 : Int} {p2 : List Int} {r : List Int} (h : group_Group_others_v2 K p0 p1 p2 = some r) : FCall V P 32 [.agg [.ro Tag.t_api_Replica p0.Replicas, .ro Tag.t_bool p0.Up, .I p0.Leader, .I p0.Epoch], .I p1, .cv (.ro Tag.t_int p2)] Tag.t_int r := (group_Group_others_v2.okE h).fcall

def ballot_Observe (K : Nat) (p0 : api_Replica) (p1 : Int) : Option api_Replica := (Option.bind (ballot_replica K p0) (fun a1 => (if p1 > (a1).Epoch then some ((⟨p1, (-1), (a1).Commit, (a1).Log⟩ : api_Replica)) else some ((⟨(a1).Epoch, (a1).Vote, (a1).Commit, (a1).Log⟩ : api_Replica)))))

theorem ballot_Observe.body {Γ : Ent} {K : Nat} {p0 : api_Replica} {p1 : Int} {r : api_Replica} (h : ballot_Observe K p0 p1 = some r) : AWp V P 15 100 Γ (Try.f52.body.getD .skip) (EndsE P V Try.f52 (.agg [.I ((r).Epoch), .I ((r).Vote), .I ((r).Commit), .ro Tag.t_api_Entry ((r).Log)]) []) ⟨args0 0 [.agg [.I p0.Epoch, .I p0.Vote, .I p0.Commit, .ro Tag.t_api_Entry p0.Log], .I p1], []⟩ := by
  unfold ballot_Observe at h
  refine awp_seq ?_
  refine awp_region L 200 [] [] [] [1, 2, 4] [200, 201] (cs := []) (S' := ⟨[(1, .I p1), (2, .P 200), (4, .P 201)], [(200, .raw [.I p0.Epoch, .I p0.Vote, .I p0.Commit, .ro Tag.t_api_Entry p0.Log]), (201, .raw [.I 0, .I 0, .I 0, .N])]⟩) (by kernel_rfl) trivial ?_
  refine awp_seq ?_
  obtain ⟨a1, h1, h⟩ := bind_some h
  refine awp_region L 203 [] [(1, .agg [.I ((a1).Epoch), .I ((a1).Vote), .I ((a1).Commit), .ro Tag.t_api_Entry ((a1).Log)])] [] [1, 2, 4] [200, 201] (cs := [PCall V P 47 [.agg [.I p0.Epoch, .I p0.Vote, .I p0.Commit, .ro Tag.t_api_Entry p0.Log]] (.agg [.I ((a1).Epoch), .I ((a1).Vote), .I ((a1).Commit), .ro Tag.t_api_Entry ((a1).Log)]), True]) (S' := ⟨[(1, .I p1), (2, .P 200), (4, .P 201)], [(200, .raw [.I ((a1).Epoch), .I ((a1).Vote), .I ((a1).Commit), .ro Tag.t_api_Entry ((a1).Log)]), (201, .raw [.I 0, .I 0, .I 0, .N])]⟩) (by kernel_rfl) (And.intro (ballot_replica.ok h1) trivial) ?_
  refine awp_seq ?_
  refine awp_seq ?_
  refine awp_region L 207 [] [] [] [1, 2, 4, 10] [200, 201] (cs := []) (S' := ⟨[(1, .I p1), (2, .P 200), (4, .P 201), (10, .B ((decide (p1 > (a1).Epoch))))], [(200, .raw [.I ((a1).Epoch), .I ((a1).Vote), .I ((a1).Commit), .ro Tag.t_api_Entry ((a1).Log)]), (201, .raw [.I 0, .I 0, .I 0, .N])]⟩) (by kernel_rfl) trivial ?_
  rcases ite_some h with ⟨c1, h⟩ | ⟨c1, h⟩
  · refine awp_true (b := (decide (p1 > (a1).Epoch))) (by kernel_rfl) (decide_eq_true c1) ?_
    refine awp_region L 212 [] [] [] [2, 4] [200, 201] (cs := []) (S' := ⟨[(2, .P 200), (4, .P 201)], [(200, .raw [.I p1, .I (-1), .I ((a1).Commit), .ro Tag.t_api_Entry ((a1).Log)]), (201, .raw [.I 0, .I 0, .I 0, .N])]⟩) (by kernel_rfl) trivial ?_
    refine awp_seq ?_
    refine awp_region L 218 [] [] [] [4] [201] (cs := []) (S' := ⟨[(4, .P 201)], [(201, .raw [.I p1, .I (-1), .I ((a1).Commit), .ro Tag.t_api_Entry ((a1).Log)])]⟩) (by kernel_rfl) trivial ?_
    refine awp_turn (Turns.trans (Turns.keep [4] [201] (S' := ⟨[(4, .P 201)], [(201, .raw [.I p1, .I (-1), .I ((a1).Commit), .ro Tag.t_api_Entry ((a1).Log)])]⟩) (by kernel_rfl)) (Turns.ren [(201, 100)] (S' := ⟨[(4, .P 100)], [(100, .raw [.I p1, .I (-1), .I ((a1).Commit), .ro Tag.t_api_Entry ((a1).Log)])]⟩) (by kernel_rfl) (by kernel_rfl))) ?_
    refine awp_ret ?_
    have hr := Option.some.inj h
    subst hr
    exact ⟨.inr rfl, .agg [.I p1, .I (-1), .I ((a1).Commit), .ro Tag.t_api_Entry ((a1).Log)], by kernel_rfl, by kernel_rfl, by kernel_rfl⟩
  · refine awp_false (b := (decide (p1 > (a1).Epoch))) (by kernel_rfl) (decide_eq_false c1) ?_
    refine awp_skip [2, 4] [200, 201] (S' := ⟨[(2, .P 200), (4, .P 201)], [(200, .raw [.I ((a1).Epoch), .I ((a1).Vote), .I ((a1).Commit), .ro Tag.t_api_Entry ((a1).Log)]), (201, .raw [.I 0, .I 0, .I 0, .N])]⟩) (by kernel_rfl) ?_
    refine awp_seq ?_
    refine awp_region L 218 [] [] [] [4] [201] (cs := []) (S' := ⟨[(4, .P 201)], [(201, .raw [.I ((a1).Epoch), .I ((a1).Vote), .I ((a1).Commit), .ro Tag.t_api_Entry ((a1).Log)])]⟩) (by kernel_rfl) trivial ?_
    refine awp_turn (Turns.trans (Turns.keep [4] [201] (S' := ⟨[(4, .P 201)], [(201, .raw [.I ((a1).Epoch), .I ((a1).Vote), .I ((a1).Commit), .ro Tag.t_api_Entry ((a1).Log)])]⟩) (by kernel_rfl)) (Turns.ren [(201, 100)] (S' := ⟨[(4, .P 100)], [(100, .raw [.I ((a1).Epoch), .I ((a1).Vote), .I ((a1).Commit), .ro Tag.t_api_Entry ((a1).Log)])]⟩) (by kernel_rfl) (by kernel_rfl))) ?_
    refine awp_ret ?_
    have hr := Option.some.inj h
    subst hr
    exact ⟨.inr rfl, .agg [.I ((a1).Epoch), .I ((a1).Vote), .I ((a1).Commit), .ro Tag.t_api_Entry ((a1).Log)], by kernel_rfl, by kernel_rfl, by kernel_rfl⟩

theorem ballot_Observe.okE {K : Nat} {p0 : api_Replica} {p1 : Int} {r : api_Replica} (h : ballot_Observe K p0 p1 = some r) : ECall V P 52 [.agg [.I p0.Epoch, .I p0.Vote, .I p0.Commit, .ro Tag.t_api_Entry p0.Log], .I p1] [] [] (.agg [.I ((r).Epoch), .I ((r).Vote), .I ((r).Commit), .ro Tag.t_api_Entry ((r).Log)]) [] :=
  ecall_of (fn := Try.f52) (n := 15) (m := 100) (by kernel_rfl) (by kernel_rfl) (by kernel_rfl) rfl (by kernel_rfl) (by kernel_rfl) fun Γ => ballot_Observe.body h

theorem ballot_Observe.ok {K : Nat} {p0 : api_Replica} {p1 : Int} {r : api_Replica} (h : ballot_Observe K p0 p1 = some r) : PCall V P 52 [.agg [.I p0.Epoch, .I p0.Vote, .I p0.Commit, .ro Tag.t_api_Entry p0.Log], .I p1] (.agg [.I ((r).Epoch), .I ((r).Vote), .I ((r).Commit), .ro Tag.t_api_Entry ((r).Log)]) := (ballot_Observe.okE h).pcall (by kernel_rfl)

def ballot_Newer (K : Nat) (p0 : Int) (p1 : Int) (p2 : Int) (p3 : Int) : Option Bool := (if p1 ≠ p3 then some ((decide (p1 > p3))) else some ((decide (p0 ≥ p2))))

theorem ballot_Newer.body {Γ : Ent} {K : Nat} {p0 : Int} {p1 : Int} {p2 : Int} {p3 : Int} {r : Bool} (h : ballot_Newer K p0 p1 p2 p3 = some r) : AWp V P 18 100 Γ (Try.f53.body.getD .skip) (EndsE P V Try.f53 (.B r) []) ⟨args0 0 [.I p0, .I p1, .I p2, .I p3], []⟩ := by
  unfold ballot_Newer at h
  refine awp_seq ?_
  refine awp_region L 200 [] [] [] [0, 1, 2, 3] [] (cs := []) (S' := ⟨[(0, .I p0), (1, .I p1), (2, .I p2), (3, .I p3)], []⟩) (by kernel_rfl) trivial ?_
  refine awp_seq ?_
  refine awp_seq ?_
  refine awp_region L 202 [] [] [] [0, 1, 2, 3, 11] [] (cs := []) (S' := ⟨[(0, .I p0), (1, .I p1), (2, .I p2), (3, .I p3), (11, .B ((decide (p1 ≠ p3))))], []⟩) (by kernel_rfl) trivial ?_
  rcases ite_some h with ⟨c1, h⟩ | ⟨c1, h⟩
  · refine awp_true (b := (decide (p1 ≠ p3))) (by kernel_rfl) (decide_eq_true c1) ?_
    refine awp_seq ?_
    refine awp_region L 206 [] [] [] [8] [] (cs := []) (S' := ⟨[(8, .B ((decide (p1 > p3))))], []⟩) (by kernel_rfl) trivial ?_
    refine awp_ret ?_
    have hr := Option.some.inj h
    subst hr
    exact ⟨.inr rfl, .B ((decide (p1 > p3))), by kernel_rfl, by kernel_rfl, by kernel_rfl⟩
  · refine awp_false (b := (decide (p1 ≠ p3))) (by kernel_rfl) (decide_eq_false c1) ?_
    refine awp_skip [0, 2] [] (S' := ⟨[(0, .I p0), (2, .I p2)], []⟩) (by kernel_rfl) ?_
    refine awp_seq ?_
    refine awp_region L 211 [] [] [] [8] [] (cs := []) (S' := ⟨[(8, .B ((decide (p0 ≥ p2))))], []⟩) (by kernel_rfl) trivial ?_
    refine awp_ret ?_
    have hr := Option.some.inj h
    subst hr
    exact ⟨.inr rfl, .B ((decide (p0 ≥ p2))), by kernel_rfl, by kernel_rfl, by kernel_rfl⟩

theorem ballot_Newer.okE {K : Nat} {p0 : Int} {p1 : Int} {p2 : Int} {p3 : Int} {r : Bool} (h : ballot_Newer K p0 p1 p2 p3 = some r) : ECall V P 53 [.I p0, .I p1, .I p2, .I p3] [] [] (.B r) [] :=
  ecall_of (fn := Try.f53) (n := 18) (m := 100) (by kernel_rfl) (by kernel_rfl) (by kernel_rfl) rfl (by kernel_rfl) (by kernel_rfl) fun Γ => ballot_Newer.body h

theorem ballot_Newer.ok {K : Nat} {p0 : Int} {p1 : Int} {p2 : Int} {p3 : Int} {r : Bool} (h : ballot_Newer K p0 p1 p2 p3 = some r) : PCall V P 53 [.I p0, .I p1, .I p2, .I p3] (.B r) := (ballot_Newer.okE h).pcall (by kernel_rfl)

def ballot_Ask (K : Nat) (p0 : api_Replica) (p1 : Int) (p2 : Int) (p3 : Int) (p4 : Int) : Option (api_Replica × Bool × Int) := (Option.bind (replog_Right K p0) (fun a1 => (if a1 = true then (if p1 < 1 then some (((⟨0, 0, 0, ([] : List api_Entry)⟩ : api_Replica), false, 2)) else (if p1 > 1099511627776 then some (((⟨0, 0, 0, ([] : List api_Entry)⟩ : api_Replica), false, 2)) else (Option.bind (ballot_candidate K p2) (fun a2 => (if a2 = true then (if p3 < 0 then some (((⟨0, 0, 0, ([] : List api_Entry)⟩ : api_Replica), false, 2)) else (if p4 < 0 then some (((⟨0, 0, 0, ([] : List api_Entry)⟩ : api_Replica), false, 2)) else (if p1 < p0.Epoch then some (((⟨0, 0, 0, ([] : List api_Entry)⟩ : api_Replica), false, 25)) else (Option.bind (ballot_Observe K p0 p1) (fun a3 => (Option.bind (replog_Last K ((⟨(a3).Epoch, (a3).Vote, (a3).Commit, (a3).Log⟩ : api_Replica))) (fun (a4_0, a4_1) => (if (a3).Vote ≠ (-1) then (if (a3).Vote ≠ p2 then some (((⟨(a3).Epoch, (a3).Vote, (a3).Commit, (a3).Log⟩ : api_Replica), false, 0)) else (Option.bind (ballot_Newer K p3 p4 a4_0 a4_1) (fun a5 => (if a5 = true then some (((⟨(a3).Epoch, p2, (a3).Commit, (a3).Log⟩ : api_Replica), true, 0)) else some (((⟨(a3).Epoch, (a3).Vote, (a3).Commit, (a3).Log⟩ : api_Replica), false, 0)))))) else (Option.bind (ballot_Newer K p3 p4 a4_0 a4_1) (fun a6 => (if a6 = true then some (((⟨(a3).Epoch, p2, (a3).Commit, (a3).Log⟩ : api_Replica), true, 0)) else some (((⟨(a3).Epoch, (a3).Vote, (a3).Commit, (a3).Log⟩ : api_Replica), false, 0))))))))))))) else some (((⟨0, 0, 0, ([] : List api_Entry)⟩ : api_Replica), false, 2))))))) else some (((⟨0, 0, 0, ([] : List api_Entry)⟩ : api_Replica), false, 2)))))

theorem ballot_Ask.body {Γ : Ent} {K : Nat} {p0 : api_Replica} {p1 : Int} {p2 : Int} {p3 : Int} {p4 : Int} {r : api_Replica × Bool × Int} (h : ballot_Ask K p0 p1 p2 p3 p4 = some r) : AWp V P 75 100 Γ (Try.f33.body.getD .skip) (EndsE P V Try.f33 (.tup [.agg [.I ((r.1).Epoch), .I ((r.1).Vote), .I ((r.1).Commit), .ro Tag.t_api_Entry ((r.1).Log)], .B r.2.1, .I r.2.2]) []) ⟨args0 0 [.agg [.I p0.Epoch, .I p0.Vote, .I p0.Commit, .ro Tag.t_api_Entry p0.Log], .I p1, .I p2, .I p3, .I p4], []⟩ := by
  unfold ballot_Ask at h
  refine awp_seq ?_
  refine awp_region L 200 [] [] [] [1, 2, 3, 4, 5, 10] [200, 201] (cs := []) (S' := ⟨[(1, .I p1), (2, .I p2), (3, .I p3), (4, .I p4), (5, .P 200), (10, .P 201)], [(200, .raw [.I p0.Epoch, .I p0.Vote, .I p0.Commit, .ro Tag.t_api_Entry p0.Log]), (201, .raw [.I 0, .I 0, .I 0, .N])]⟩) (by kernel_rfl) trivial ?_
  refine awp_seq ?_
  refine awp_seq ?_
  obtain ⟨a1, h1, h⟩ := bind_some h
  rcases ite_some h with ⟨c1, h⟩ | ⟨c1, h⟩
  · rcases ite_some h with ⟨c2, h⟩ | ⟨c2, h⟩
    · refine awp_region L 205 [(3, false), (7, true)] [(1, .B a1)] [] [1, 2, 3, 4, 5, 10, 39] [200, 201] (cs := [PCall V P 45 [.agg [.I p0.Epoch, .I p0.Vote, .I p0.Commit, .ro Tag.t_api_Entry p0.Log]] (.B a1), True, (!a1) = false, (decide (p1 < 1)) = true]) (S' := ⟨[(1, .I p1), (2, .I p2), (3, .I p3), (4, .I p4), (5, .P 200), (10, .P 201), (39, .B true)], [(200, .raw [.I p0.Epoch, .I p0.Vote, .I p0.Commit, .ro Tag.t_api_Entry p0.Log]), (201, .raw [.I 0, .I 0, .I 0, .N])]⟩) (by kernel_rfl) (And.intro (replog_Right.ok h1) (And.intro trivial (And.intro (congrArg Bool.not (c1)) (decide_eq_true c2)))) ?_
      refine awp_true (b := true) (by kernel_rfl) (rfl) ?_
      refine awp_seq ?_
      refine awp_region L 230 [] [] [] [10, 11, 12] [201] (cs := []) (S' := ⟨[(10, .P 201), (11, .B false), (12, .I 2)], [(201, .raw [.I 0, .I 0, .I 0, .N])]⟩) (by kernel_rfl) trivial ?_
      refine awp_turn (Turns.trans (Turns.keep [10, 11, 12] [201] (S' := ⟨[(10, .P 201), (11, .B false), (12, .I 2)], [(201, .raw [.I 0, .I 0, .I 0, .N])]⟩) (by kernel_rfl)) (Turns.ren [(201, 100)] (S' := ⟨[(10, .P 100), (11, .B false), (12, .I 2)], [(100, .raw [.I 0, .I 0, .I 0, .N])]⟩) (by kernel_rfl) (by kernel_rfl))) ?_
      refine awp_ret ?_
      have hr := Option.some.inj h
      subst hr
      exact ⟨.inr rfl, .tup [.agg [.I 0, .I 0, .I 0, .N], .B false, .I 2], by kernel_rfl, by kernel_rfl, by kernel_rfl⟩
    · rcases ite_some h with ⟨c3, h⟩ | ⟨c3, h⟩
      · refine awp_region L 205 [(3, false), (7, false), (11, true)] [(1, .B a1)] [] [1, 2, 3, 4, 5, 10, 39] [200, 201] (cs := [PCall V P 45 [.agg [.I p0.Epoch, .I p0.Vote, .I p0.Commit, .ro Tag.t_api_Entry p0.Log]] (.B a1), True, (!a1) = false, (decide (p1 < 1)) = false, (decide (p1 > 1099511627776)) = true]) (S' := ⟨[(1, .I p1), (2, .I p2), (3, .I p3), (4, .I p4), (5, .P 200), (10, .P 201), (39, .B true)], [(200, .raw [.I p0.Epoch, .I p0.Vote, .I p0.Commit, .ro Tag.t_api_Entry p0.Log]), (201, .raw [.I 0, .I 0, .I 0, .N])]⟩) (by kernel_rfl) (And.intro (replog_Right.ok h1) (And.intro trivial (And.intro (congrArg Bool.not (c1)) (And.intro (decide_eq_false c2) (decide_eq_true c3))))) ?_
        refine awp_true (b := true) (by kernel_rfl) (rfl) ?_
        refine awp_seq ?_
        refine awp_region L 230 [] [] [] [10, 11, 12] [201] (cs := []) (S' := ⟨[(10, .P 201), (11, .B false), (12, .I 2)], [(201, .raw [.I 0, .I 0, .I 0, .N])]⟩) (by kernel_rfl) trivial ?_
        refine awp_turn (Turns.trans (Turns.keep [10, 11, 12] [201] (S' := ⟨[(10, .P 201), (11, .B false), (12, .I 2)], [(201, .raw [.I 0, .I 0, .I 0, .N])]⟩) (by kernel_rfl)) (Turns.ren [(201, 100)] (S' := ⟨[(10, .P 100), (11, .B false), (12, .I 2)], [(100, .raw [.I 0, .I 0, .I 0, .N])]⟩) (by kernel_rfl) (by kernel_rfl))) ?_
        refine awp_ret ?_
        have hr := Option.some.inj h
        subst hr
        exact ⟨.inr rfl, .tup [.agg [.I 0, .I 0, .I 0, .N], .B false, .I 2], by kernel_rfl, by kernel_rfl, by kernel_rfl⟩
      · obtain ⟨a2, h2, h⟩ := bind_some h
        rcases ite_some h with ⟨c4, h⟩ | ⟨c4, h⟩
        · rcases ite_some h with ⟨c5, h⟩ | ⟨c5, h⟩
          · refine awp_region L 205 [(3, false), (7, false), (11, false), (16, false), (20, true)] [(1, .B a1), (13, .B a2)] [] [1, 2, 3, 4, 5, 10, 39] [200, 201] (cs := [PCall V P 45 [.agg [.I p0.Epoch, .I p0.Vote, .I p0.Commit, .ro Tag.t_api_Entry p0.Log]] (.B a1), True, (!a1) = false, (decide (p1 < 1)) = false, (decide (p1 > 1099511627776)) = false, PCall V P 46 [.I p2] (.B a2), True, (!a2) = false, (decide (p3 < 0)) = true]) (S' := ⟨[(1, .I p1), (2, .I p2), (3, .I p3), (4, .I p4), (5, .P 200), (10, .P 201), (39, .B true)], [(200, .raw [.I p0.Epoch, .I p0.Vote, .I p0.Commit, .ro Tag.t_api_Entry p0.Log]), (201, .raw [.I 0, .I 0, .I 0, .N])]⟩) (by kernel_rfl) (And.intro (replog_Right.ok h1) (And.intro trivial (And.intro (congrArg Bool.not (c1)) (And.intro (decide_eq_false c2) (And.intro (decide_eq_false c3) (And.intro (ballot_candidate.ok h2) (And.intro trivial (And.intro (congrArg Bool.not (c4)) (decide_eq_true c5))))))))) ?_
            refine awp_true (b := true) (by kernel_rfl) (rfl) ?_
            refine awp_seq ?_
            refine awp_region L 230 [] [] [] [10, 11, 12] [201] (cs := []) (S' := ⟨[(10, .P 201), (11, .B false), (12, .I 2)], [(201, .raw [.I 0, .I 0, .I 0, .N])]⟩) (by kernel_rfl) trivial ?_
            refine awp_turn (Turns.trans (Turns.keep [10, 11, 12] [201] (S' := ⟨[(10, .P 201), (11, .B false), (12, .I 2)], [(201, .raw [.I 0, .I 0, .I 0, .N])]⟩) (by kernel_rfl)) (Turns.ren [(201, 100)] (S' := ⟨[(10, .P 100), (11, .B false), (12, .I 2)], [(100, .raw [.I 0, .I 0, .I 0, .N])]⟩) (by kernel_rfl) (by kernel_rfl))) ?_
            refine awp_ret ?_
            have hr := Option.some.inj h
            subst hr
            exact ⟨.inr rfl, .tup [.agg [.I 0, .I 0, .I 0, .N], .B false, .I 2], by kernel_rfl, by kernel_rfl, by kernel_rfl⟩
          · refine awp_region L 205 [(3, false), (7, false), (11, false), (16, false), (20, false)] [(1, .B a1), (13, .B a2)] [] [1, 2, 3, 4, 5, 10, 39] [200, 201] (cs := [PCall V P 45 [.agg [.I p0.Epoch, .I p0.Vote, .I p0.Commit, .ro Tag.t_api_Entry p0.Log]] (.B a1), True, (!a1) = false, (decide (p1 < 1)) = false, (decide (p1 > 1099511627776)) = false, PCall V P 46 [.I p2] (.B a2), True, (!a2) = false, (decide (p3 < 0)) = false]) (S' := ⟨[(1, .I p1), (2, .I p2), (3, .I p3), (4, .I p4), (5, .P 200), (10, .P 201), (39, .B ((decide (p4 < 0))))], [(200, .raw [.I p0.Epoch, .I p0.Vote, .I p0.Commit, .ro Tag.t_api_Entry p0.Log]), (201, .raw [.I 0, .I 0, .I 0, .N])]⟩) (by kernel_rfl) (And.intro (replog_Right.ok h1) (And.intro trivial (And.intro (congrArg Bool.not (c1)) (And.intro (decide_eq_false c2) (And.intro (decide_eq_false c3) (And.intro (ballot_candidate.ok h2) (And.intro trivial (And.intro (congrArg Bool.not (c4)) (decide_eq_false c5))))))))) ?_
            rcases ite_some h with ⟨c6, h⟩ | ⟨c6, h⟩
            · refine awp_true (b := (decide (p4 < 0))) (by kernel_rfl) (decide_eq_true c6) ?_
              refine awp_seq ?_
              refine awp_region L 230 [] [] [] [10, 11, 12] [201] (cs := []) (S' := ⟨[(10, .P 201), (11, .B false), (12, .I 2)], [(201, .raw [.I 0, .I 0, .I 0, .N])]⟩) (by kernel_rfl) trivial ?_
              refine awp_turn (Turns.trans (Turns.keep [10, 11, 12] [201] (S' := ⟨[(10, .P 201), (11, .B false), (12, .I 2)], [(201, .raw [.I 0, .I 0, .I 0, .N])]⟩) (by kernel_rfl)) (Turns.ren [(201, 100)] (S' := ⟨[(10, .P 100), (11, .B false), (12, .I 2)], [(100, .raw [.I 0, .I 0, .I 0, .N])]⟩) (by kernel_rfl) (by kernel_rfl))) ?_
              refine awp_ret ?_
              have hr := Option.some.inj h
              subst hr
              exact ⟨.inr rfl, .tup [.agg [.I 0, .I 0, .I 0, .N], .B false, .I 2], by kernel_rfl, by kernel_rfl, by kernel_rfl⟩
            · refine awp_false (b := (decide (p4 < 0))) (by kernel_rfl) (decide_eq_false c6) ?_
              refine awp_skip [1, 2, 3, 4, 5, 10] [200, 201] (S' := ⟨[(1, .I p1), (2, .I p2), (3, .I p3), (4, .I p4), (5, .P 200), (10, .P 201)], [(200, .raw [.I p0.Epoch, .I p0.Vote, .I p0.Commit, .ro Tag.t_api_Entry p0.Log]), (201, .raw [.I 0, .I 0, .I 0, .N])]⟩) (by kernel_rfl) ?_
              refine awp_seq ?_
              refine awp_seq ?_
              refine awp_region L 235 [] [] [] [1, 2, 3, 4, 5, 10, 44] [200, 201] (cs := []) (S' := ⟨[(1, .I p1), (2, .I p2), (3, .I p3), (4, .I p4), (5, .P 200), (10, .P 201), (44, .B ((decide (p1 < p0.Epoch))))], [(200, .raw [.I p0.Epoch, .I p0.Vote, .I p0.Commit, .ro Tag.t_api_Entry p0.Log]), (201, .raw [.I 0, .I 0, .I 0, .N])]⟩) (by kernel_rfl) trivial ?_
              rcases ite_some h with ⟨c7, h⟩ | ⟨c7, h⟩
              · refine awp_true (b := (decide (p1 < p0.Epoch))) (by kernel_rfl) (decide_eq_true c7) ?_
                refine awp_seq ?_
                refine awp_region L 240 [] [] [] [10, 11, 12] [201] (cs := []) (S' := ⟨[(10, .P 201), (11, .B false), (12, .I 25)], [(201, .raw [.I 0, .I 0, .I 0, .N])]⟩) (by kernel_rfl) trivial ?_
                refine awp_turn (Turns.trans (Turns.keep [10, 11, 12] [201] (S' := ⟨[(10, .P 201), (11, .B false), (12, .I 25)], [(201, .raw [.I 0, .I 0, .I 0, .N])]⟩) (by kernel_rfl)) (Turns.ren [(201, 100)] (S' := ⟨[(10, .P 100), (11, .B false), (12, .I 25)], [(100, .raw [.I 0, .I 0, .I 0, .N])]⟩) (by kernel_rfl) (by kernel_rfl))) ?_
                refine awp_ret ?_
                have hr := Option.some.inj h
                subst hr
                exact ⟨.inr rfl, .tup [.agg [.I 0, .I 0, .I 0, .N], .B false, .I 25], by kernel_rfl, by kernel_rfl, by kernel_rfl⟩
              · refine awp_false (b := (decide (p1 < p0.Epoch))) (by kernel_rfl) (decide_eq_false c7) ?_
                refine awp_skip [1, 2, 3, 4, 5, 10] [200, 201] (S' := ⟨[(1, .I p1), (2, .I p2), (3, .I p3), (4, .I p4), (5, .P 200), (10, .P 201)], [(200, .raw [.I p0.Epoch, .I p0.Vote, .I p0.Commit, .ro Tag.t_api_Entry p0.Log]), (201, .raw [.I 0, .I 0, .I 0, .N])]⟩) (by kernel_rfl) ?_
                refine awp_seq ?_
                obtain ⟨a3, h3, h⟩ := bind_some h
                refine awp_region L 245 [] [(2, .agg [.I ((a3).Epoch), .I ((a3).Vote), .I ((a3).Commit), .ro Tag.t_api_Entry ((a3).Log)])] [] [2, 3, 4, 10, 13] [201, 248] (cs := [PCall V P 52 [.agg [.I p0.Epoch, .I p0.Vote, .I p0.Commit, .ro Tag.t_api_Entry p0.Log], .I p1] (.agg [.I ((a3).Epoch), .I ((a3).Vote), .I ((a3).Commit), .ro Tag.t_api_Entry ((a3).Log)]), True]) (S' := ⟨[(2, .I p2), (3, .I p3), (4, .I p4), (10, .P 201), (13, .P 248)], [(201, .raw [.I 0, .I 0, .I 0, .N]), (248, .raw [.I ((a3).Epoch), .I ((a3).Vote), .I ((a3).Commit), .ro Tag.t_api_Entry ((a3).Log)])]⟩) (by kernel_rfl) (And.intro (ballot_Observe.ok h3) trivial) ?_
                refine awp_seq ?_
                obtain ⟨⟨a4_0, a4_1⟩, h4, h⟩ := bind_some h
                dsimp only at h
                refine awp_region L 251 [] [(1, .tup [.I a4_0, .I a4_1])] [] [2, 3, 4, 10, 13, 14, 15] [201, 248] (cs := [PCall V P 31 [.agg [.I ((a3).Epoch), .I ((a3).Vote), .I ((a3).Commit), .ro Tag.t_api_Entry ((a3).Log)]] (.tup [.I a4_0, .I a4_1]), True]) (S' := ⟨[(2, .I p2), (3, .I p3), (4, .I p4), (10, .P 201), (13, .P 248), (14, .I a4_0), (15, .I a4_1)], [(201, .raw [.I 0, .I 0, .I 0, .N]), (248, .raw [.I ((a3).Epoch), .I ((a3).Vote), .I ((a3).Commit), .ro Tag.t_api_Entry ((a3).Log)])]⟩) (by kernel_rfl) (And.intro (replog_Last.ok h4) trivial) ?_
                refine awp_seq ?_
                refine awp_seq ?_
                rcases ite_some h with ⟨c8, h⟩ | ⟨c8, h⟩
                · rcases ite_some h with ⟨c9, h⟩ | ⟨c9, h⟩
                  · refine awp_region L 259 [(3, true), (9, true)] [] [] [2, 10, 13, 70] [201, 248] (cs := [(decide ((a3).Vote ≠ (-1))) = true, (decide ((a3).Vote ≠ p2)) = true]) (S' := ⟨[(2, .I p2), (10, .P 201), (13, .P 248), (70, .B true)], [(201, .raw [.I 0, .I 0, .I 0, .N]), (248, .raw [.I ((a3).Epoch), .I ((a3).Vote), .I ((a3).Commit), .ro Tag.t_api_Entry ((a3).Log)])]⟩) (by kernel_rfl) (And.intro (decide_eq_true c8) (decide_eq_true c9)) ?_
                    refine awp_true (b := true) (by kernel_rfl) (rfl) ?_
                    refine awp_seq ?_
                    refine awp_region L 277 [] [] [] [10, 11, 12] [201] (cs := []) (S' := ⟨[(10, .P 201), (11, .B false), (12, .I 0)], [(201, .raw [.I ((a3).Epoch), .I ((a3).Vote), .I ((a3).Commit), .ro Tag.t_api_Entry ((a3).Log)])]⟩) (by kernel_rfl) trivial ?_
                    refine awp_turn (Turns.trans (Turns.keep [10, 11, 12] [201] (S' := ⟨[(10, .P 201), (11, .B false), (12, .I 0)], [(201, .raw [.I ((a3).Epoch), .I ((a3).Vote), .I ((a3).Commit), .ro Tag.t_api_Entry ((a3).Log)])]⟩) (by kernel_rfl)) (Turns.ren [(201, 100)] (S' := ⟨[(10, .P 100), (11, .B false), (12, .I 0)], [(100, .raw [.I ((a3).Epoch), .I ((a3).Vote), .I ((a3).Commit), .ro Tag.t_api_Entry ((a3).Log)])]⟩) (by kernel_rfl) (by kernel_rfl))) ?_
                    refine awp_ret ?_
                    have hr := Option.some.inj h
                    subst hr
                    exact ⟨.inr rfl, .tup [.agg [.I ((a3).Epoch), .I ((a3).Vote), .I ((a3).Commit), .ro Tag.t_api_Entry ((a3).Log)], .B false, .I 0], by kernel_rfl, by kernel_rfl, by kernel_rfl⟩
                  · obtain ⟨a5, h5, h⟩ := bind_some h
                    refine awp_region L 259 [(3, true), (9, false)] [(14, .B a5)] [] [2, 10, 13, 70] [201, 248] (cs := [(decide ((a3).Vote ≠ (-1))) = true, (decide ((a3).Vote ≠ p2)) = false, PCall V P 53 [.I p3, .I p4, .I a4_0, .I a4_1] (.B a5), True]) (S' := ⟨[(2, .I p2), (10, .P 201), (13, .P 248), (70, .B (!a5))], [(201, .raw [.I 0, .I 0, .I 0, .N]), (248, .raw [.I ((a3).Epoch), .I ((a3).Vote), .I ((a3).Commit), .ro Tag.t_api_Entry ((a3).Log)])]⟩) (by kernel_rfl) (And.intro (decide_eq_true c8) (And.intro (decide_eq_false c9) (And.intro (ballot_Newer.ok h5) trivial))) ?_
                    rcases ite_some h with ⟨c10, h⟩ | ⟨c10, h⟩
                    · refine awp_false (b := (!a5)) (by kernel_rfl) (congrArg Bool.not (c10)) ?_
                      refine awp_skip [2, 10, 13] [201, 248] (S' := ⟨[(2, .I p2), (10, .P 201), (13, .P 248)], [(201, .raw [.I 0, .I 0, .I 0, .N]), (248, .raw [.I ((a3).Epoch), .I ((a3).Vote), .I ((a3).Commit), .ro Tag.t_api_Entry ((a3).Log)])]⟩) (by kernel_rfl) ?_
                      refine awp_seq ?_
                      refine awp_region L 282 [] [] [] [10, 13] [201, 248] (cs := []) (S' := ⟨[(10, .P 201), (13, .P 248)], [(201, .raw [.I 0, .I 0, .I 0, .N]), (248, .raw [.I ((a3).Epoch), .I p2, .I ((a3).Commit), .ro Tag.t_api_Entry ((a3).Log)])]⟩) (by kernel_rfl) trivial ?_
                      refine awp_seq ?_
                      refine awp_region L 286 [] [] [] [10, 11, 12] [201] (cs := []) (S' := ⟨[(10, .P 201), (11, .B true), (12, .I 0)], [(201, .raw [.I ((a3).Epoch), .I p2, .I ((a3).Commit), .ro Tag.t_api_Entry ((a3).Log)])]⟩) (by kernel_rfl) trivial ?_
                      refine awp_turn (Turns.trans (Turns.keep [10, 11, 12] [201] (S' := ⟨[(10, .P 201), (11, .B true), (12, .I 0)], [(201, .raw [.I ((a3).Epoch), .I p2, .I ((a3).Commit), .ro Tag.t_api_Entry ((a3).Log)])]⟩) (by kernel_rfl)) (Turns.ren [(201, 100)] (S' := ⟨[(10, .P 100), (11, .B true), (12, .I 0)], [(100, .raw [.I ((a3).Epoch), .I p2, .I ((a3).Commit), .ro Tag.t_api_Entry ((a3).Log)])]⟩) (by kernel_rfl) (by kernel_rfl))) ?_
                      refine awp_ret ?_
                      have hr := Option.some.inj h
                      subst hr
                      exact ⟨.inr rfl, .tup [.agg [.I ((a3).Epoch), .I p2, .I ((a3).Commit), .ro Tag.t_api_Entry ((a3).Log)], .B true, .I 0], by kernel_rfl, by kernel_rfl, by kernel_rfl⟩
                    · refine awp_true (b := (!a5)) (by kernel_rfl) (congrArg Bool.not (eq_false_of_ne_true c10)) ?_
                      refine awp_seq ?_
                      refine awp_region L 277 [] [] [] [10, 11, 12] [201] (cs := []) (S' := ⟨[(10, .P 201), (11, .B false), (12, .I 0)], [(201, .raw [.I ((a3).Epoch), .I ((a3).Vote), .I ((a3).Commit), .ro Tag.t_api_Entry ((a3).Log)])]⟩) (by kernel_rfl) trivial ?_
                      refine awp_turn (Turns.trans (Turns.keep [10, 11, 12] [201] (S' := ⟨[(10, .P 201), (11, .B false), (12, .I 0)], [(201, .raw [.I ((a3).Epoch), .I ((a3).Vote), .I ((a3).Commit), .ro Tag.t_api_Entry ((a3).Log)])]⟩) (by kernel_rfl)) (Turns.ren [(201, 100)] (S' := ⟨[(10, .P 100), (11, .B false), (12, .I 0)], [(100, .raw [.I ((a3).Epoch), .I ((a3).Vote), .I ((a3).Commit), .ro Tag.t_api_Entry ((a3).Log)])]⟩) (by kernel_rfl) (by kernel_rfl))) ?_
                      refine awp_ret ?_
                      have hr := Option.some.inj h
                      subst hr
                      exact ⟨.inr rfl, .tup [.agg [.I ((a3).Epoch), .I ((a3).Vote), .I ((a3).Commit), .ro Tag.t_api_Entry ((a3).Log)], .B false, .I 0], by kernel_rfl, by kernel_rfl, by kernel_rfl⟩
                · obtain ⟨a6, h6, h⟩ := bind_some h
                  refine awp_region L 259 [(3, false)] [(14, .B a6)] [] [2, 10, 13, 70] [201, 248] (cs := [(decide ((a3).Vote ≠ (-1))) = false, PCall V P 53 [.I p3, .I p4, .I a4_0, .I a4_1] (.B a6), True]) (S' := ⟨[(2, .I p2), (10, .P 201), (13, .P 248), (70, .B (!a6))], [(201, .raw [.I 0, .I 0, .I 0, .N]), (248, .raw [.I ((a3).Epoch), .I ((a3).Vote), .I ((a3).Commit), .ro Tag.t_api_Entry ((a3).Log)])]⟩) (by kernel_rfl) (And.intro (decide_eq_false c8) (And.intro (ballot_Newer.ok h6) trivial)) ?_
                  rcases ite_some h with ⟨c11, h⟩ | ⟨c11, h⟩
                  · refine awp_false (b := (!a6)) (by kernel_rfl) (congrArg Bool.not (c11)) ?_
                    refine awp_skip [2, 10, 13] [201, 248] (S' := ⟨[(2, .I p2), (10, .P 201), (13, .P 248)], [(201, .raw [.I 0, .I 0, .I 0, .N]), (248, .raw [.I ((a3).Epoch), .I ((a3).Vote), .I ((a3).Commit), .ro Tag.t_api_Entry ((a3).Log)])]⟩) (by kernel_rfl) ?_
                    refine awp_seq ?_
                    refine awp_region L 282 [] [] [] [10, 13] [201, 248] (cs := []) (S' := ⟨[(10, .P 201), (13, .P 248)], [(201, .raw [.I 0, .I 0, .I 0, .N]), (248, .raw [.I ((a3).Epoch), .I p2, .I ((a3).Commit), .ro Tag.t_api_Entry ((a3).Log)])]⟩) (by kernel_rfl) trivial ?_
                    refine awp_seq ?_
                    refine awp_region L 286 [] [] [] [10, 11, 12] [201] (cs := []) (S' := ⟨[(10, .P 201), (11, .B true), (12, .I 0)], [(201, .raw [.I ((a3).Epoch), .I p2, .I ((a3).Commit), .ro Tag.t_api_Entry ((a3).Log)])]⟩) (by kernel_rfl) trivial ?_
                    refine awp_turn (Turns.trans (Turns.keep [10, 11, 12] [201] (S' := ⟨[(10, .P 201), (11, .B true), (12, .I 0)], [(201, .raw [.I ((a3).Epoch), .I p2, .I ((a3).Commit), .ro Tag.t_api_Entry ((a3).Log)])]⟩) (by kernel_rfl)) (Turns.ren [(201, 100)] (S' := ⟨[(10, .P 100), (11, .B true), (12, .I 0)], [(100, .raw [.I ((a3).Epoch), .I p2, .I ((a3).Commit), .ro Tag.t_api_Entry ((a3).Log)])]⟩) (by kernel_rfl) (by kernel_rfl))) ?_
                    refine awp_ret ?_
                    have hr := Option.some.inj h
                    subst hr
                    exact ⟨.inr rfl, .tup [.agg [.I ((a3).Epoch), .I p2, .I ((a3).Commit), .ro Tag.t_api_Entry ((a3).Log)], .B true, .I 0], by kernel_rfl, by kernel_rfl, by kernel_rfl⟩
                  · refine awp_true (b := (!a6)) (by kernel_rfl) (congrArg Bool.not (eq_false_of_ne_true c11)) ?_
                    refine awp_seq ?_
                    refine awp_region L 277 [] [] [] [10, 11, 12] [201] (cs := []) (S' := ⟨[(10, .P 201), (11, .B false), (12, .I 0)], [(201, .raw [.I ((a3).Epoch), .I ((a3).Vote), .I ((a3).Commit), .ro Tag.t_api_Entry ((a3).Log)])]⟩) (by kernel_rfl) trivial ?_
                    refine awp_turn (Turns.trans (Turns.keep [10, 11, 12] [201] (S' := ⟨[(10, .P 201), (11, .B false), (12, .I 0)], [(201, .raw [.I ((a3).Epoch), .I ((a3).Vote), .I ((a3).Commit), .ro Tag.t_api_Entry ((a3).Log)])]⟩) (by kernel_rfl)) (Turns.ren [(201, 100)] (S' := ⟨[(10, .P 100), (11, .B false), (12, .I 0)], [(100, .raw [.I ((a3).Epoch), .I ((a3).Vote), .I ((a3).Commit), .ro Tag.t_api_Entry ((a3).Log)])]⟩) (by kernel_rfl) (by kernel_rfl))) ?_
                    refine awp_ret ?_
                    have hr := Option.some.inj h
                    subst hr
                    exact ⟨.inr rfl, .tup [.agg [.I ((a3).Epoch), .I ((a3).Vote), .I ((a3).Commit), .ro Tag.t_api_Entry ((a3).Log)], .B false, .I 0], by kernel_rfl, by kernel_rfl, by kernel_rfl⟩
        · refine awp_region L 205 [(3, false), (7, false), (11, false), (16, true)] [(1, .B a1), (13, .B a2)] [] [1, 2, 3, 4, 5, 10, 39] [200, 201] (cs := [PCall V P 45 [.agg [.I p0.Epoch, .I p0.Vote, .I p0.Commit, .ro Tag.t_api_Entry p0.Log]] (.B a1), True, (!a1) = false, (decide (p1 < 1)) = false, (decide (p1 > 1099511627776)) = false, PCall V P 46 [.I p2] (.B a2), True, (!a2) = true]) (S' := ⟨[(1, .I p1), (2, .I p2), (3, .I p3), (4, .I p4), (5, .P 200), (10, .P 201), (39, .B true)], [(200, .raw [.I p0.Epoch, .I p0.Vote, .I p0.Commit, .ro Tag.t_api_Entry p0.Log]), (201, .raw [.I 0, .I 0, .I 0, .N])]⟩) (by kernel_rfl) (And.intro (replog_Right.ok h1) (And.intro trivial (And.intro (congrArg Bool.not (c1)) (And.intro (decide_eq_false c2) (And.intro (decide_eq_false c3) (And.intro (ballot_candidate.ok h2) (And.intro trivial (congrArg Bool.not (eq_false_of_ne_true c4))))))))) ?_
          refine awp_true (b := true) (by kernel_rfl) (rfl) ?_
          refine awp_seq ?_
          refine awp_region L 230 [] [] [] [10, 11, 12] [201] (cs := []) (S' := ⟨[(10, .P 201), (11, .B false), (12, .I 2)], [(201, .raw [.I 0, .I 0, .I 0, .N])]⟩) (by kernel_rfl) trivial ?_
          refine awp_turn (Turns.trans (Turns.keep [10, 11, 12] [201] (S' := ⟨[(10, .P 201), (11, .B false), (12, .I 2)], [(201, .raw [.I 0, .I 0, .I 0, .N])]⟩) (by kernel_rfl)) (Turns.ren [(201, 100)] (S' := ⟨[(10, .P 100), (11, .B false), (12, .I 2)], [(100, .raw [.I 0, .I 0, .I 0, .N])]⟩) (by kernel_rfl) (by kernel_rfl))) ?_
          refine awp_ret ?_
          have hr := Option.some.inj h
          subst hr
          exact ⟨.inr rfl, .tup [.agg [.I 0, .I 0, .I 0, .N], .B false, .I 2], by kernel_rfl, by kernel_rfl, by kernel_rfl⟩
  · refine awp_region L 205 [(3, true)] [(1, .B a1)] [] [1, 2, 3, 4, 5, 10, 39] [200, 201] (cs := [PCall V P 45 [.agg [.I p0.Epoch, .I p0.Vote, .I p0.Commit, .ro Tag.t_api_Entry p0.Log]] (.B a1), True, (!a1) = true]) (S' := ⟨[(1, .I p1), (2, .I p2), (3, .I p3), (4, .I p4), (5, .P 200), (10, .P 201), (39, .B true)], [(200, .raw [.I p0.Epoch, .I p0.Vote, .I p0.Commit, .ro Tag.t_api_Entry p0.Log]), (201, .raw [.I 0, .I 0, .I 0, .N])]⟩) (by kernel_rfl) (And.intro (replog_Right.ok h1) (And.intro trivial (congrArg Bool.not (eq_false_of_ne_true c1)))) ?_
    refine awp_true (b := true) (by kernel_rfl) (rfl) ?_
    refine awp_seq ?_
    refine awp_region L 230 [] [] [] [10, 11, 12] [201] (cs := []) (S' := ⟨[(10, .P 201), (11, .B false), (12, .I 2)], [(201, .raw [.I 0, .I 0, .I 0, .N])]⟩) (by kernel_rfl) trivial ?_
    refine awp_turn (Turns.trans (Turns.keep [10, 11, 12] [201] (S' := ⟨[(10, .P 201), (11, .B false), (12, .I 2)], [(201, .raw [.I 0, .I 0, .I 0, .N])]⟩) (by kernel_rfl)) (Turns.ren [(201, 100)] (S' := ⟨[(10, .P 100), (11, .B false), (12, .I 2)], [(100, .raw [.I 0, .I 0, .I 0, .N])]⟩) (by kernel_rfl) (by kernel_rfl))) ?_
    refine awp_ret ?_
    have hr := Option.some.inj h
    subst hr
    exact ⟨.inr rfl, .tup [.agg [.I 0, .I 0, .I 0, .N], .B false, .I 2], by kernel_rfl, by kernel_rfl, by kernel_rfl⟩

theorem ballot_Ask.okE {K : Nat} {p0 : api_Replica} {p1 : Int} {p2 : Int} {p3 : Int} {p4 : Int} {r : api_Replica × Bool × Int} (h : ballot_Ask K p0 p1 p2 p3 p4 = some r) : ECall V P 33 [.agg [.I p0.Epoch, .I p0.Vote, .I p0.Commit, .ro Tag.t_api_Entry p0.Log], .I p1, .I p2, .I p3, .I p4] [] [] (.tup [.agg [.I ((r.1).Epoch), .I ((r.1).Vote), .I ((r.1).Commit), .ro Tag.t_api_Entry ((r.1).Log)], .B r.2.1, .I r.2.2]) [] :=
  ecall_of (fn := Try.f33) (n := 75) (m := 100) (by kernel_rfl) (by kernel_rfl) (by kernel_rfl) rfl (by kernel_rfl) (by kernel_rfl) fun Γ => ballot_Ask.body h

theorem ballot_Ask.ok {K : Nat} {p0 : api_Replica} {p1 : Int} {p2 : Int} {p3 : Int} {p4 : Int} {r : api_Replica × Bool × Int} (h : ballot_Ask K p0 p1 p2 p3 p4 = some r) : PCall V P 33 [.agg [.I p0.Epoch, .I p0.Vote, .I p0.Commit, .ro Tag.t_api_Entry p0.Log], .I p1, .I p2, .I p3, .I p4] (.tup [.agg [.I ((r.1).Epoch), .I ((r.1).Vote), .I ((r.1).Commit), .ro Tag.t_api_Entry ((r.1).Log)], .B r.2.1, .I r.2.2]) := (ballot_Ask.okE h).pcall (by kernel_rfl)

def quorum_Majority (K : Nat) (p0 : Int) : Option Int := (if p0 < 1 then some 0 else some ((IntKind.i64.wrap ((IntKind.i64.wrap (Int.tdiv p0 2)) + 1))))

theorem quorum_Majority.body {Γ : Ent} {K : Nat} {p0 : Int} {r : Int} (h : quorum_Majority K p0 = some r) : AWp V P 8 100 Γ (Try.f54.body.getD .skip) (EndsE P V Try.f54 (.I r) []) ⟨args0 0 [.I p0], []⟩ := by
  unfold quorum_Majority at h
  refine awp_seq ?_
  refine awp_region L 200 [] [] [] [0] [] (cs := []) (S' := ⟨[(0, .I p0)], []⟩) (by kernel_rfl) trivial ?_
  refine awp_seq ?_
  refine awp_seq ?_
  refine awp_region L 202 [] [] [] [0, 4] [] (cs := []) (S' := ⟨[(0, .I p0), (4, .B ((decide (p0 < 1))))], []⟩) (by kernel_rfl) trivial ?_
  rcases ite_some h with ⟨c1, h⟩ | ⟨c1, h⟩
  · refine awp_true (b := (decide (p0 < 1))) (by kernel_rfl) (decide_eq_true c1) ?_
    refine awp_seq ?_
    refine awp_region L 205 [] [] [] [2] [] (cs := []) (S' := ⟨[(2, .I 0)], []⟩) (by kernel_rfl) trivial ?_
    refine awp_ret ?_
    have hr := Option.some.inj h
    subst hr
    exact ⟨.inr rfl, .I 0, by kernel_rfl, by kernel_rfl, by kernel_rfl⟩
  · refine awp_false (b := (decide (p0 < 1))) (by kernel_rfl) (decide_eq_false c1) ?_
    refine awp_skip [0] [] (S' := ⟨[(0, .I p0)], []⟩) (by kernel_rfl) ?_
    refine awp_seq ?_
    refine awp_region L 207 [] [] [] [2] [] (cs := [2 ≠ (0 : Int)]) (S' := ⟨[(2, .I ((IntKind.i64.wrap ((IntKind.i64.wrap (Int.tdiv p0 2)) + 1))))], []⟩) (by kernel_rfl) (show 2 ≠ (0 : Int) from by decide) ?_
    refine awp_ret ?_
    have hr := Option.some.inj h
    subst hr
    exact ⟨.inr rfl, .I ((IntKind.i64.wrap ((IntKind.i64.wrap (Int.tdiv p0 2)) + 1))), by kernel_rfl, by kernel_rfl, by kernel_rfl⟩

theorem quorum_Majority.okE {K : Nat} {p0 : Int} {r : Int} (h : quorum_Majority K p0 = some r) : ECall V P 54 [.I p0] [] [] (.I r) [] :=
  ecall_of (fn := Try.f54) (n := 8) (m := 100) (by kernel_rfl) (by kernel_rfl) (by kernel_rfl) rfl (by kernel_rfl) (by kernel_rfl) fun Γ => quorum_Majority.body h

theorem quorum_Majority.ok {K : Nat} {p0 : Int} {r : Int} (h : quorum_Majority K p0 = some r) : PCall V P 54 [.I p0] (.I r) := (quorum_Majority.okE h).pcall (by kernel_rfl)

def quorum_Won (K : Nat) (p0 : Int) (p1 : Int) : Option Bool := (if p1 ≥ 1 then (Option.bind (quorum_Majority K p1) (fun a1 => some ((decide (p0 ≥ a1))))) else some false)

theorem quorum_Won.body {Γ : Ent} {K : Nat} {p0 : Int} {p1 : Int} {r : Bool} (h : quorum_Won K p0 p1 = some r) : AWp V P 13 100 Γ (Try.f34.body.getD .skip) (EndsE P V Try.f34 (.B r) []) ⟨args0 0 [.I p0, .I p1], []⟩ := by
  unfold quorum_Won at h
  refine awp_seq ?_
  refine awp_region L 200 [] [] [] [0, 1] [] (cs := []) (S' := ⟨[(0, .I p0), (1, .I p1)], []⟩) (by kernel_rfl) trivial ?_
  refine awp_seq ?_
  rcases ite_some h with ⟨c1, h⟩ | ⟨c1, h⟩
  · obtain ⟨a1, h1, h⟩ := bind_some h
    refine awp_region L 202 [(2, true)] [(5, .I a1)] [] [4] [] (cs := [(decide (p1 ≥ 1)) = true, PCall V P 54 [.I p1] (.I a1), True]) (S' := ⟨[(4, .B ((decide (p0 ≥ a1))))], []⟩) (by kernel_rfl) (And.intro (decide_eq_true c1) (And.intro (quorum_Majority.ok h1) trivial)) ?_
    refine awp_ret ?_
    have hr := Option.some.inj h
    subst hr
    exact ⟨.inr rfl, .B ((decide (p0 ≥ a1))), by kernel_rfl, by kernel_rfl, by kernel_rfl⟩
  · refine awp_region L 202 [(2, false)] [] [] [4] [] (cs := [(decide (p1 ≥ 1)) = false]) (S' := ⟨[(4, .B false)], []⟩) (by kernel_rfl) (decide_eq_false c1) ?_
    refine awp_ret ?_
    have hr := Option.some.inj h
    subst hr
    exact ⟨.inr rfl, .B false, by kernel_rfl, by kernel_rfl, by kernel_rfl⟩

theorem quorum_Won.okE {K : Nat} {p0 : Int} {p1 : Int} {r : Bool} (h : quorum_Won K p0 p1 = some r) : ECall V P 34 [.I p0, .I p1] [] [] (.B r) [] :=
  ecall_of (fn := Try.f34) (n := 13) (m := 100) (by kernel_rfl) (by kernel_rfl) (by kernel_rfl) rfl (by kernel_rfl) (by kernel_rfl) fun Γ => quorum_Won.body h

theorem quorum_Won.ok {K : Nat} {p0 : Int} {p1 : Int} {r : Bool} (h : quorum_Won K p0 p1 = some r) : PCall V P 34 [.I p0, .I p1] (.B r) := (quorum_Won.okE h).pcall (by kernel_rfl)


end Go.Proofs.Ytmafcdkdcfaajaa
