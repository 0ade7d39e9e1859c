/- What functions of the program compute, as Lean functions, and that they compute it. -/
import Derived.Test.YtmafcdkdcfaajaaGreatSvc
set_option linter.unusedVariables false
set_option maxHeartbeats 0
namespace Go.Proofs.YtmafcdkdcfaajaaGreat
open Eng
def slices_Clone_87 (K : Nat) (p0 : List aEnt) : Option (List aEnt) := if p0.length * 32 ≤ 140737488355328 then some p0 else none
theorem slices_Clone_87.body {Γ : Ent} {K : Nat} {p0 : List aEnt} {r : List aEnt} (h : slices_Clone_87 K p0 = some r) : AWp V P 8 0 Γ (Tryz.f87.body.getD .skip) (EndsF P V Tryz.f87 Tag.t_aEnt r) ⟨args0 0 [.cv (.ro .t_aEnt p0)], []⟩ := by
 unfold slices_Clone_87 at h
 obtain ⟨g, h⟩ := guard_some h
 cases h
 refine awp_nilsplit 0 (tg := Tag.t_aEnt) (xs := p0) (by kernel_rfl) (fun cap hx => ?_) ?_
 ·subst hx
  refine kp (S' := ⟨[(0, .cv (.lit (.slice none 0 cap)))], []⟩) ?_
  refine sr0 L 0 [] [] [] (S' := ⟨[(0, .cv (.lit (.slice none 0 cap))), (2, .cv (.lit (.slice none 0 0)))], []⟩) ?_
  refine awp_seq ?_
  refine sr0 L 10 [] [] [] (S' := ⟨[(4, .cv (.lit (.bool true)))], []⟩) ?_
  refine tt (b := true) rfl ?_
  refine sr0 L 20 [] [] [] (S' := ⟨[(2, .cv (.lit (.slice none 0 0)))], []⟩) ?_
  refine awp_ret ?_
  exact ⟨.inr rfl, .inl ⟨by kernel_rfl, rfl⟩⟩
 ·refine kp (S' := ⟨[(0, .cv (.ron .t_aEnt p0))], []⟩) ?_
  refine sr0 L 0 [] [] [] (S' := ⟨[(0, .cv (.ron .t_aEnt p0))], []⟩) ?_
  refine awp_seq ?_
  refine sr0 L 10 [] [] [] (S' := ⟨[(0, .cv (.ron .t_aEnt p0)), (4, .cv (.lit (.bool false)))], []⟩) ?_
  refine ff (b := false) rfl ?_
  refine sk (S' := ⟨[(0, .cv (.ron .t_aEnt p0))], []⟩) ?_
  refine sr L 30 [] [] [] (cs := [(([] : List aEnt).length + p0.length) * 32 ≤ 140737488355328, True]) (S' := ⟨[(2, .cv (.own .t_aEnt 30))], [(30, .lst .t_aEnt p0)]⟩) (And.intro (by simpa using g) trivial) ?_
  refine awp_ret ?_
  exact ⟨.inr rfl, .inr ⟨30, by kernel_rfl, by kernel_rfl⟩⟩
theorem slices_Clone_87.okF {K : Nat} {p0 : List aEnt} {r : List aEnt} (h : slices_Clone_87 K p0 = some r) : FCall V P 87 [.cv (.ro .t_aEnt p0)] Tag.t_aEnt r :=
 fcall_of (fn := Tryz.f87) (n := 8) (by kernel_rfl) (by kernel_rfl) (by kernel_rfl) rfl (by kernel_rfl) (by kernel_rfl) fun Γ => slices_Clone_87.body h
theorem slices_Clone_87.ok {K : Nat} {p0 : List aEnt} {r : List aEnt} (h : slices_Clone_87 K p0 = some r) : PCall V P 87 [.cv (.ro .t_aEnt p0)] (.cv (.ro .t_aEnt r)) := (slices_Clone_87.okF h).pcall
def slices_Clone_61 (K : Nat) (p0 : List Bool) : Option (List Bool) := if p0.length * 1 ≤ 140737488355328 then some p0 else none
theorem slices_Clone_61.body {Γ : Ent} {K : Nat} {p0 : List Bool} {r : List Bool} (h : slices_Clone_61 K p0 = some r) : AWp V P 8 0 Γ (Tryz.f61.body.getD .skip) (EndsF P V Tryz.f61 Tag.t_bool r) ⟨args0 0 [.cv (.ro .t_bool p0)], []⟩ := by
 unfold slices_Clone_61 at h
 obtain ⟨g, h⟩ := guard_some h
 cases h
 refine awp_nilsplit 0 (tg := Tag.t_bool) (xs := p0) (by kernel_rfl) (fun cap hx => ?_) ?_
 ·subst hx
  refine kp (S' := ⟨[(0, .cv (.lit (.slice none 0 cap)))], []⟩) ?_
  refine sr0 L 0 [] [] [] (S' := ⟨[(0, .cv (.lit (.slice none 0 cap))), (2, .cv (.lit (.slice none 0 0)))], []⟩) ?_
  refine awp_seq ?_
  refine sr0 L 10 [] [] [] (S' := ⟨[(4, .cv (.lit (.bool true)))], []⟩) ?_
  refine tt (b := true) rfl ?_
  refine sr0 L 20 [] [] [] (S' := ⟨[(2, .cv (.lit (.slice none 0 0)))], []⟩) ?_
  refine awp_ret ?_
  exact ⟨.inr rfl, .inl ⟨by kernel_rfl, rfl⟩⟩
 ·refine kp (S' := ⟨[(0, .cv (.ron .t_bool p0))], []⟩) ?_
  refine sr0 L 0 [] [] [] (S' := ⟨[(0, .cv (.ron .t_bool p0))], []⟩) ?_
  refine awp_seq ?_
  refine sr0 L 10 [] [] [] (S' := ⟨[(0, .cv (.ron .t_bool p0)), (4, .cv (.lit (.bool false)))], []⟩) ?_
  refine ff (b := false) rfl ?_
  refine sk (S' := ⟨[(0, .cv (.ron .t_bool p0))], []⟩) ?_
  refine sr L 30 [] [] [] (cs := [(([] : List Bool).length + p0.length) * 1 ≤ 140737488355328, True]) (S' := ⟨[(2, .cv (.own .t_bool 30))], [(30, .lst .t_bool p0)]⟩) (And.intro (by simpa using g) trivial) ?_
  refine awp_ret ?_
  exact ⟨.inr rfl, .inr ⟨30, by kernel_rfl, by kernel_rfl⟩⟩
theorem slices_Clone_61.okF {K : Nat} {p0 : List Bool} {r : List Bool} (h : slices_Clone_61 K p0 = some r) : FCall V P 61 [.cv (.ro .t_bool p0)] Tag.t_bool r :=
 fcall_of (fn := Tryz.f61) (n := 8) (by kernel_rfl) (by kernel_rfl) (by kernel_rfl) rfl (by kernel_rfl) (by kernel_rfl) fun Γ => slices_Clone_61.body h
theorem slices_Clone_61.ok {K : Nat} {p0 : List Bool} {r : List Bool} (h : slices_Clone_61 K p0 = some r) : PCall V P 61 [.cv (.ro .t_bool p0)] (.cv (.ro .t_bool r)) := (slices_Clone_61.okF h).pcall
def slices_Clone_60 (K : Nat) (p0 : List aRep) : Option (List aRep) := if p0.length * 48 ≤ 140737488355328 then some p0 else none
theorem slices_Clone_60.body {Γ : Ent} {K : Nat} {p0 : List aRep} {r : List aRep} (h : slices_Clone_60 K p0 = some r) : AWp V P 8 0 Γ (Tryz.f60.body.getD .skip) (EndsF P V Tryz.f60 Tag.t_aRep r) ⟨args0 0 [.cv (.ro .t_aRep p0)], []⟩ := by
 unfold slices_Clone_60 at h
 obtain ⟨g, h⟩ := guard_some h
 cases h
 refine awp_nilsplit 0 (tg := Tag.t_aRep) (xs := p0) (by kernel_rfl) (fun cap hx => ?_) ?_
 ·subst hx
  refine kp (S' := ⟨[(0, .cv (.lit (.slice none 0 cap)))], []⟩) ?_
  refine sr0 L 0 [] [] [] (S' := ⟨[(0, .cv (.lit (.slice none 0 cap))), (2, .cv (.lit (.slice none 0 0)))], []⟩) ?_
  refine awp_seq ?_
  refine sr0 L 10 [] [] [] (S' := ⟨[(4, .cv (.lit (.bool true)))], []⟩) ?_
  refine tt (b := true) rfl ?_
  refine sr0 L 20 [] [] [] (S' := ⟨[(2, .cv (.lit (.slice none 0 0)))], []⟩) ?_
  refine awp_ret ?_
  exact ⟨.inr rfl, .inl ⟨by kernel_rfl, rfl⟩⟩
 ·refine kp (S' := ⟨[(0, .cv (.ron .t_aRep p0))], []⟩) ?_
  refine sr0 L 0 [] [] [] (S' := ⟨[(0, .cv (.ron .t_aRep p0))], []⟩) ?_
  refine awp_seq ?_
  refine sr0 L 10 [] [] [] (S' := ⟨[(0, .cv (.ron .t_aRep p0)), (4, .cv (.lit (.bool false)))], []⟩) ?_
  refine ff (b := false) rfl ?_
  refine sk (S' := ⟨[(0, .cv (.ron .t_aRep p0))], []⟩) ?_
  refine sr L 30 [] [] [] (cs := [(([] : List aRep).length + p0.length) * 48 ≤ 140737488355328, True]) (S' := ⟨[(2, .cv (.own .t_aRep 30))], [(30, .lst .t_aRep p0)]⟩) (And.intro (by simpa using g) trivial) ?_
  refine awp_ret ?_
  exact ⟨.inr rfl, .inr ⟨30, by kernel_rfl, by kernel_rfl⟩⟩
theorem slices_Clone_60.okF {K : Nat} {p0 : List aRep} {r : List aRep} (h : slices_Clone_60 K p0 = some r) : FCall V P 60 [.cv (.ro .t_aRep p0)] Tag.t_aRep r :=
 fcall_of (fn := Tryz.f60) (n := 8) (by kernel_rfl) (by kernel_rfl) (by kernel_rfl) rfl (by kernel_rfl) (by kernel_rfl) fun Γ => slices_Clone_60.body h
theorem slices_Clone_60.ok {K : Nat} {p0 : List aRep} {r : List aRep} (h : slices_Clone_60 K p0 = some r) : PCall V P 60 [.cv (.ro .t_aRep p0)] (.cv (.ro .t_aRep r)) := (slices_Clone_60.okF h).pcall
def bytes_Clone_59 (K : Nat) (p0 : List UInt8) : Option (List UInt8) := if p0.length * 1 ≤ 140737488355328 then some p0 else none
theorem bytes_Clone_59.body {Γ : Ent} {K : Nat} {p0 : List UInt8} {r : List UInt8} (h : bytes_Clone_59 K p0 = some r) : AWp V P 8 0 Γ (Tryz.f59.body.getD .skip) (EndsF P V Tryz.f59 Tag.t_uint8 r) ⟨args0 0 [.cv (.ro .t_uint8 p0)], []⟩ := by
 unfold bytes_Clone_59 at h
 obtain ⟨g, h⟩ := guard_some h
 cases h
 refine awp_nilsplit 0 (tg := Tag.t_uint8) (xs := p0) (by kernel_rfl) (fun cap hx => ?_) ?_
 ·subst hx
  refine kp (S' := ⟨[(0, .cv (.lit (.slice none 0 cap)))], []⟩) ?_
  refine sr0 L 0 [] [] [] (S' := ⟨[(0, .cv (.lit (.slice none 0 cap))), (2, .cv (.lit (.slice none 0 0)))], []⟩) ?_
  refine awp_seq ?_
  refine sr0 L 10 [] [] [] (S' := ⟨[(4, .cv (.lit (.bool true)))], []⟩) ?_
  refine tt (b := true) rfl ?_
  refine sr0 L 20 [] [] [] (S' := ⟨[(2, .cv (.lit (.slice none 0 0)))], []⟩) ?_
  refine awp_ret ?_
  exact ⟨.inr rfl, .inl ⟨by kernel_rfl, rfl⟩⟩
 ·refine kp (S' := ⟨[(0, .cv (.ron .t_uint8 p0))], []⟩) ?_
  refine sr0 L 0 [] [] [] (S' := ⟨[(0, .cv (.ron .t_uint8 p0))], []⟩) ?_
  refine awp_seq ?_
  refine sr0 L 10 [] [] [] (S' := ⟨[(0, .cv (.ron .t_uint8 p0)), (4, .cv (.lit (.bool false)))], []⟩) ?_
  refine ff (b := false) rfl ?_
  refine sk (S' := ⟨[(0, .cv (.ron .t_uint8 p0))], []⟩) ?_
  refine sr L 30 [] [] [] (cs := [(([] : List UInt8).length + p0.length) * 1 ≤ 140737488355328, True]) (S' := ⟨[(2, .cv (.own .t_uint8 30))], [(30, .lst .t_uint8 p0)]⟩) (And.intro (by simpa using g) trivial) ?_
  refine awp_ret ?_
  exact ⟨.inr rfl, .inr ⟨30, by kernel_rfl, by kernel_rfl⟩⟩
theorem bytes_Clone_59.okF {K : Nat} {p0 : List UInt8} {r : List UInt8} (h : bytes_Clone_59 K p0 = some r) : FCall V P 59 [.cv (.ro .t_uint8 p0)] Tag.t_uint8 r :=
 fcall_of (fn := Tryz.f59) (n := 8) (by kernel_rfl) (by kernel_rfl) (by kernel_rfl) rfl (by kernel_rfl) (by kernel_rfl) fun Γ => bytes_Clone_59.body h
theorem bytes_Clone_59.ok {K : Nat} {p0 : List UInt8} {r : List UInt8} (h : bytes_Clone_59 K p0 = some r) : PCall V P 59 [.cv (.ro .t_uint8 p0)] (.cv (.ro .t_uint8 r)) := (bytes_Clone_59.okF h).pcall
def wl55_small (K : Nat) (p0 : wl55_Step) : Option Bool := (if (p0.Reach.length : Int) ≤ 30 then some (decide ((p0.Data.length : Int) ≤ 70000)) else some false)
theorem wl55_small.body {Γ : Ent} {K : Nat} {p0 : wl55_Step} {r : Bool} (h : wl55_small K p0 = some r) : AWp V P 13 100 Γ (Tryz.f7.body.getD .skip) (EndsE P V Tryz.f7 (.B r) []) ⟨args0 0 [.agg (d_wl55_Step p0)], []⟩ := by
 unfold wl55_small at h
 refine sr0 L 200 [] [] [] (S' := ⟨[(1, .P 200)], [(200, .raw (d_wl55_Step p0))]⟩) ?_
 refine awp_seq ?_
 rcases ite_some h with ⟨c1, h⟩ | ⟨c1, h⟩
 ·refine ar L 203 [(4, true)] [] [] (cs := [(decide ((p0.Reach.length : Int) ≤ 30)) = true]) (S' := ⟨[(2, .B (decide ((p0.Data.length : Int) ≤ 70000)))], []⟩) (decide_eq_true c1) ?_
  refine awp_ret ?_
  obtain rfl := Option.some.inj h
  exact er (.B (decide ((p0.Data.length : Int) ≤ 70000)))
 refine ar L 203 [(4, false)] [] [] (cs := [(decide ((p0.Reach.length : Int) ≤ 30)) = false]) (S' := ⟨[(2, .B false)], []⟩) (decide_eq_false c1) ?_
 refine awp_ret ?_
 obtain rfl := Option.some.inj h
 exact er (.B false)
theorem wl55_small.ok {K : Nat} {p0 : wl55_Step} {r : Bool} (h : wl55_small K p0 = some r) : PCall V P 7 [.agg (d_wl55_Step p0)] (.B r) := ECall.pcall (eo (fn := Tryz.f7) (n := 13) (m := 100) fun Γ => wl55_small.body h) (by kernel_rfl)
def wl55_of (K : Nat) (p0 : wr55_Group) : Option group_Group := some (⟨p0.Replicas, p0.Up, p0.Leader, p0.Epoch⟩ : group_Group)
theorem wl55_of.body {Γ : Ent} {K : Nat} {p0 : wr55_Group} {r : group_Group} (h : wl55_of K p0 = some r) : AWp V P 12 100 Γ (Tryz.f18.body.getD .skip) (EndsE P V Tryz.f18 (.agg [.ro .t_aRep r.Replicas, .ro .t_bool r.Up, .I r.Leader, .I r.Epoch]) []) ⟨args0 0 [.agg (d_wr55_Group p0)], []⟩ := by
 unfold wl55_of at h
 refine sr0 L 200 [] [] [] (S' := ⟨[(1, .P 200), (2, .P 201)], [(200, .raw (d_wr55_Group p0)), (201, .raw [.N, .N, .I 0, .I 0])]⟩) ?_
 refine sr0 L 203 [] [] [] (S' := ⟨[(2, .P 201)], [(201, .raw (d_wr55_Group p0))]⟩) ?_
 refine awp_turn (Turns.rn [(201, 100)] (S' := ⟨[(2, .P 100)], [(100, .raw (d_wr55_Group p0))]⟩)) ?_
 refine awp_ret ?_
 obtain rfl := Option.some.inj h
 exact er (.agg (d_wr55_Group p0))
theorem wl55_of.ok {K : Nat} {p0 : wr55_Group} {r : group_Group} (h : wl55_of K p0 = some r) : PCall V P 18 [.agg (d_wr55_Group p0)] (.agg [.ro .t_aRep r.Replicas, .ro .t_bool r.Up, .I r.Leader, .I r.Epoch]) := ECall.pcall (eo (fn := Tryz.f18) (n := 12) (m := 100) fun Γ => wl55_of.body h) (by kernel_rfl)
def replog_in (K : Nat) (p0 : Int) (p1 : Int) (p2 : Int) : Option Bool := (if p0 ≥ p1 then some (decide (p0 ≤ p2)) else some false)
theorem replog_in.body {Γ : Ent} {K : Nat} {p0 : Int} {p1 : Int} {p2 : Int} {r : Bool} (h : replog_in K p0 p1 p2 = some r) : AWp V P 15 100 Γ (Tryz.f85.body.getD .skip) (EndsE P V Tryz.f85 (.B r) []) ⟨args0 0 [.I p0, .I p1, .I p2], []⟩ := by
 unfold replog_in at h
 refine sr0 L 200 [] [] [] (S' := ⟨[(0, .I p0), (1, .I p1), (2, .I p2)], []⟩) ?_
 refine awp_seq ?_
 rcases ite_some h with ⟨c1, h⟩ | ⟨c1, h⟩
 ·refine ar L 202 [(3, true)] [] [] (cs := [(decide (p0 ≥ p1)) = true]) (S' := ⟨[(6, .B (decide (p0 ≤ p2)))], []⟩) (decide_eq_true c1) ?_
  refine awp_ret ?_
  obtain rfl := Option.some.inj h
  exact er (.B (decide (p0 ≤ p2)))
 refine ar L 202 [(3, false)] [] [] (cs := [(decide (p0 ≥ p1)) = false]) (S' := ⟨[(6, .B false)], []⟩) (decide_eq_false c1) ?_
 refine awp_ret ?_
 obtain rfl := Option.some.inj h
 exact er (.B false)
theorem replog_in.ok {K : Nat} {p0 : Int} {p1 : Int} {p2 : Int} {r : Bool} (h : replog_in K p0 p1 p2 = some r) : PCall V P 85 [.I p0, .I p1, .I p2] (.B r) := ECall.pcall (eo (fn := Tryz.f85) (n := 15) (m := 100) fun Γ => replog_in.body h) (by kernel_rfl)
def replog_rising.l7 (K : Nat) (p0 : List aEnt) : Nat → Int → Int → Option (Out Bool Int)
 | 0, _, _ => none
 | k + 1, xt1_7h, xt11_7h => (if xt11_7h < (p0.length : Int) then (if (0 : Int) ≤ xt11_7h ∧ (xt11_7h : Int) < (p0.length : Int) then (if (p0.getD (Int.toNat xt11_7h) z_aEnt).Epoch < (if (1 : Int) > xt1_7h then 1 else xt1_7h) then some (Out.done false) else (if (((p0.getD (Int.toNat xt11_7h) z_aEnt).Data).length : Int) > 65536 then some (Out.done false) else replog_rising.l7 K p0 k ((p0.getD (Int.toNat xt11_7h) z_aEnt).Epoch) (IntKind.i64.wrap (xt11_7h + 1)))) else none) else some (Out.go xt1_7h))
def replog_rising (K : Nat) (p0 : List aEnt) (p1 : Int) (p2 : Int) : Option Bool := (obind (replog_rising.l7 K p0 K p1 0 : Option (Out Bool Int)) (fun r => r) (fun xt1_7 => some (decide (xt1_7 ≤ p2))))
theorem replog_rising.body {Γ : Ent} {K : Nat} {p0 : List aEnt} {p1 : Int} {p2 : Int} {r : Bool} (h : replog_rising K p0 p1 p2 = some r) : AWp V P 32 100 Γ (Tryz.f86.body.getD .skip) (EndsE P V Tryz.f86 (.B r) []) ⟨args0 0 [.cv (.ro .t_aEnt p0), .I p1, .I p2], []⟩ := by
 unfold replog_rising at h
 refine sr0 L 200 [] [] [] (S' := ⟨[(0, .cv (.ro .t_aEnt p0)), (1, .I p1), (2, .I p2)], []⟩) ?_
 refine awp_seq ?_
 refine sr0 L 202 [] [] [] (S' := ⟨[(1, .I p1), (2, .I p2), (9, .cv (.ro .t_aEnt p0)), (10, .I (p0.length : Int)), (11, .I 0)], []⟩) ?_
 refine awp_block ?_
 refine kp (S' := ⟨[(1, .I p1), (2, .I p2), (9, .cv (.ro .t_aEnt p0)), (10, .I (p0.length : Int)), (11, .I 0)], []⟩) ?_
 obtain ⟨o1, hp1, h⟩ := obind_some h
 refine awp_conseq (Q' := fun e S => (e = .exit 0 ∧ ∃ xt1_7 : Int, S = ⟨[(1, .I xt1_7), (2, .I p2)], []⟩ ∧ Out.go xt1_7 = o1) ∨ (e = .ret ∧ ∃ a, Out.done a = o1 ∧ EndsE P V Tryz.f86 (.B a) [] .ret S)) (awp_loop (fun k S => ∃ xt1_7h : Int, ∃ xt11_7h : Int, S = ⟨[(1, .I xt1_7h), (2, .I p2), (9, .cv (.ro .t_aEnt p0)), (10, .I (p0.length : Int)), (11, .I xt11_7h)], []⟩ ∧ replog_rising.l7 K p0 k xt1_7h xt11_7h = some o1) ?_ ⟨_, _, rfl, hp1⟩) ?_
 ·clear h hp1
  intro k S hS
  obtain ⟨xt1_7h, xt11_7h, rfl, h⟩ := hS
  cases k with
  | zero => cases h
  | succ k =>
  unfold replog_rising.l7 at h
  refine sr0 L 206 [] [] [] (S' := ⟨[(1, .I xt1_7h), (2, .I p2), (9, .cv (.ro .t_aEnt p0)), (10, .I (p0.length : Int)), (11, .I xt11_7h), (12, .B (decide (xt11_7h < (p0.length : Int))))], []⟩) ?_
  refine awp_seq ?_
  rcases ite_some h with ⟨c1, h⟩ | ⟨c1, h⟩
  ·refine tt (b := (decide (xt11_7h < (p0.length : Int)))) (decide_eq_true c1) ?_
   refine awp_skip' ?_
   refine awp_seq ?_
   refine awp_block ?_
   refine awp_seq ?_
   obtain ⟨g1, h⟩ := guard_some h
   refine ar L 208 [] [] [] (cs := [(0 : Int) ≤ xt11_7h, (xt11_7h : Int) < (p0.length : Int)]) (S' := ⟨[(1, .I xt1_7h), (2, .I p2), (8, .P 210), (9, .cv (.ro .t_aEnt p0)), (10, .I (p0.length : Int)), (11, .I xt11_7h)], [(210, .raw (d_aEnt (p0.getD (Int.toNat xt11_7h) z_aEnt)))]⟩) (And.intro g1.1 g1.2) ?_
   refine awp_seq ?_
   refine awp_seq ?_
   rcases ite_some h with ⟨c2, h⟩ | ⟨c2, h⟩
   ·refine ar L 213 [(5, true)] [] [] (cs := [(decide ((p0.getD (Int.toNat xt11_7h) z_aEnt).Epoch < (if (1 : Int) > xt1_7h then 1 else xt1_7h))) = true]) (S' := ⟨[(2, .I p2), (8, .P 210), (9, .cv (.ro .t_aEnt p0)), (10, .I (p0.length : Int)), (11, .I xt11_7h), (25, .B true)], [(210, .raw (d_aEnt (p0.getD (Int.toNat xt11_7h) z_aEnt)))]⟩) (decide_eq_true c2) ?_
    refine tt (b := true) (rfl) ?_
    refine sr0 L 225 [] [] [] (S' := ⟨[(6, .B false)], []⟩) ?_
    refine awp_ret ?_
    obtain rfl := Option.some.inj h
    exact .inr ⟨rfl, _, rfl, er (.B false)⟩
   refine ar L 213 [(5, false)] [] [] (cs := [(decide ((p0.getD (Int.toNat xt11_7h) z_aEnt).Epoch < (if (1 : Int) > xt1_7h then 1 else xt1_7h))) = false]) (S' := ⟨[(2, .I p2), (8, .P 210), (9, .cv (.ro .t_aEnt p0)), (10, .I (p0.length : Int)), (11, .I xt11_7h), (25, .B ((decide ((((p0.getD (Int.toNat xt11_7h) z_aEnt).Data).length : Int) > 65536))))], [(210, .raw (d_aEnt (p0.getD (Int.toNat xt11_7h) z_aEnt)))]⟩) (decide_eq_false c2) ?_
   rcases ite_some h with ⟨c3, h⟩ | ⟨c3, h⟩
   ·refine tt (b := (decide ((((p0.getD (Int.toNat xt11_7h) z_aEnt).Data).length : Int) > 65536))) (decide_eq_true c3) ?_
    refine sr0 L 225 [] [] [] (S' := ⟨[(6, .B false)], []⟩) ?_
    refine awp_ret ?_
    obtain rfl := Option.some.inj h
    exact .inr ⟨rfl, _, rfl, er (.B false)⟩
   refine ff (b := (decide ((((p0.getD (Int.toNat xt11_7h) z_aEnt).Data).length : Int) > 65536))) (decide_eq_false c3) ?_
   refine awp_skip' ?_
   refine ar0 L 227 [] [] [] (S' := ⟨[(1, .I ((p0.getD (Int.toNat xt11_7h) z_aEnt).Epoch)), (2, .I p2), (9, .cv (.ro .t_aEnt p0)), (10, .I (p0.length : Int)), (11, .I xt11_7h)], []⟩) ?_
   refine ar0 L 231 [] [] [] (S' := ⟨[(1, .I ((p0.getD (Int.toNat xt11_7h) z_aEnt).Epoch)), (2, .I p2), (9, .cv (.ro .t_aEnt p0)), (10, .I (p0.length : Int)), (11, .I (IntKind.i64.wrap (xt11_7h + 1)))], []⟩) ?_
   exact ⟨k, Nat.lt_succ_self k, _, _, rfl, h⟩
  refine ff (b := (decide (xt11_7h < (p0.length : Int)))) (decide_eq_false c1) ?_
  refine ex (S' := ⟨[(1, .I xt1_7h), (2, .I p2)], []⟩) ?_
  obtain rfl := Option.some.inj h
  exact .inl ⟨rfl, _, rfl, rfl⟩
 ·rintro e S (⟨rfl, xt1_7, rfl, rfl⟩ | ⟨rfl, a, rfl, hr⟩)
  ·rcases h with ⟨_, e1, h⟩ | ⟨_, e1, h⟩
   ·cases e1
   ·have e2 := Out.go.inj e1
    subst e2
    refine ⟨_, Turns.refl, ?_⟩
    refine sr0 L 234 [] [] [] (S' := ⟨[(6, .B (decide (xt1_7 ≤ p2)))], []⟩) ?_
    refine awp_ret ?_
    obtain rfl := Option.some.inj h
    exact er (.B (decide (xt1_7 ≤ p2)))
  ·rcases h with ⟨_, e1, h⟩ | ⟨_, e1, h⟩
   ·have e2 := Out.done.inj e1
    subst e2
    subst h
    exact ⟨_, Turns.refl, hr⟩
   ·cases e1
theorem replog_rising.ok {K : Nat} {p0 : List aEnt} {p1 : Int} {p2 : Int} {r : Bool} (h : replog_rising K p0 p1 p2 = some r) : PCall V P 86 [.cv (.ro .t_aEnt p0), .I p1, .I p2] (.B r) := ECall.pcall (eo (fn := Tryz.f86) (n := 32) (m := 100) fun Γ => replog_rising.body h) (by kernel_rfl)
def replog_Right (K : Nat) (p0 : aRep) : Option Bool := (Option.bind (replog_in K p0.Epoch 0 1099511627776) (fun a1 => (if a1 = true then (Option.bind (replog_in K p0.Vote (-1) 8) (fun a2 => (if a2 = true then (if (p0.Log.length : Int) ≤ 5000 then (Option.bind (replog_in K p0.Commit 0 (p0.Log.length : Int)) (fun a3 => (if a3 = true then (Option.bind (replog_rising K p0.Log 0 p0.Epoch) (fun a4 => some a4)) else some false))) else some false) else some false))) else some false)))
theorem replog_Right.body {Γ : Ent} {K : Nat} {p0 : aRep} {r : Bool} (h : replog_Right K p0 = some r) : AWp V P 32 100 Γ (Tryz.f57.body.getD .skip) (EndsE P V Tryz.f57 (.B r) []) ⟨args0 0 [.agg (d_aRep p0)], []⟩ := by
 unfold replog_Right at h
 refine sr0 L 200 [] [] [] (S' := ⟨[(1, .P 200)], [(200, .raw (d_aRep p0))]⟩) ?_
 refine awp_seq ?_
 obtain ⟨a1, h1, h⟩ := bind_some h
 rcases ite_some h with ⟨c1, h⟩ | ⟨c1, h⟩
 ·obtain ⟨a2, h2, h⟩ := bind_some h
  rcases ite_some h with ⟨c2, h⟩ | ⟨c2, h⟩
  ·rcases ite_some h with ⟨c3, h⟩ | ⟨c3, h⟩
   ·obtain ⟨a3, h3, h⟩ := bind_some h
    rcases ite_some h with ⟨c4, h⟩ | ⟨c4, h⟩
    ·obtain ⟨a4, h4, h⟩ := bind_some h
     refine ar L 203 [(3, true), (8, true), (14, true), (22, true)] [(2, .B a1), (6, .B a2), (20, .B a3), (27, .B a4)] [] (cs := [PCall V P 85 [.I p0.Epoch, .I 0, .I 1099511627776] (.B a1), True, a1 = true, PCall V P 85 [.I p0.Vote, .I (-1), .I 8] (.B a2), True, a2 = true, (decide ((p0.Log.length : Int) ≤ 5000)) = true, PCall V P 85 [.I p0.Commit, .I 0, .I (p0.Log.length : Int)] (.B a3), True, a3 = true, PCall V P 86 [.cv (.ro .t_aEnt p0.Log), .I 0, .I p0.Epoch] (.B a4), True]) (S' := ⟨[(2, .B a4)], []⟩) (And.intro (replog_in.ok h1) (And.intro trivial (And.intro c1 (And.intro (replog_in.ok h2) (And.intro trivial (And.intro c2 (And.intro (decide_eq_true c3) (And.intro (replog_in.ok h3) (And.intro trivial (And.intro c4 (And.intro (replog_rising.ok h4) trivial))))))))))) ?_
     refine awp_ret ?_
     obtain rfl := Option.some.inj h
     exact er (.B a4)
    refine ar L 203 [(3, true), (8, true), (14, true), (22, false)] [(2, .B a1), (6, .B a2), (20, .B a3)] [] (cs := [PCall V P 85 [.I p0.Epoch, .I 0, .I 1099511627776] (.B a1), True, a1 = true, PCall V P 85 [.I p0.Vote, .I (-1), .I 8] (.B a2), True, a2 = true, (decide ((p0.Log.length : Int) ≤ 5000)) = true, PCall V P 85 [.I p0.Commit, .I 0, .I (p0.Log.length : Int)] (.B a3), True, a3 = false]) (S' := ⟨[(2, .B false)], []⟩) (And.intro (replog_in.ok h1) (And.intro trivial (And.intro c1 (And.intro (replog_in.ok h2) (And.intro trivial (And.intro c2 (And.intro (decide_eq_true c3) (And.intro (replog_in.ok h3) (And.intro trivial (eq_false_of_ne_true c4)))))))))) ?_
    refine awp_ret ?_
    obtain rfl := Option.some.inj h
    exact er (.B false)
   refine ar L 203 [(3, true), (8, true), (14, false)] [(2, .B a1), (6, .B a2)] [] (cs := [PCall V P 85 [.I p0.Epoch, .I 0, .I 1099511627776] (.B a1), True, a1 = true, PCall V P 85 [.I p0.Vote, .I (-1), .I 8] (.B a2), True, a2 = true, (decide ((p0.Log.length : Int) ≤ 5000)) = false]) (S' := ⟨[(2, .B false)], []⟩) (And.intro (replog_in.ok h1) (And.intro trivial (And.intro c1 (And.intro (replog_in.ok h2) (And.intro trivial (And.intro c2 (decide_eq_false c3))))))) ?_
   refine awp_ret ?_
   obtain rfl := Option.some.inj h
   exact er (.B false)
  refine ar L 203 [(3, true), (8, false)] [(2, .B a1), (6, .B a2)] [] (cs := [PCall V P 85 [.I p0.Epoch, .I 0, .I 1099511627776] (.B a1), True, a1 = true, PCall V P 85 [.I p0.Vote, .I (-1), .I 8] (.B a2), True, a2 = false]) (S' := ⟨[(2, .B false)], []⟩) (And.intro (replog_in.ok h1) (And.intro trivial (And.intro c1 (And.intro (replog_in.ok h2) (And.intro trivial (eq_false_of_ne_true c2)))))) ?_
  refine awp_ret ?_
  obtain rfl := Option.some.inj h
  exact er (.B false)
 refine ar L 203 [(3, false)] [(2, .B a1)] [] (cs := [PCall V P 85 [.I p0.Epoch, .I 0, .I 1099511627776] (.B a1), True, a1 = false]) (S' := ⟨[(2, .B false)], []⟩) (And.intro (replog_in.ok h1) (And.intro trivial (eq_false_of_ne_true c1))) ?_
 refine awp_ret ?_
 obtain rfl := Option.some.inj h
 exact er (.B false)
theorem replog_Right.ok {K : Nat} {p0 : aRep} {r : Bool} (h : replog_Right K p0 = some r) : PCall V P 57 [.agg (d_aRep p0)] (.B r) := ECall.pcall (eo (fn := Tryz.f57) (n := 32) (m := 100) fun Γ => replog_Right.body h) (by kernel_rfl)
def group_Group_formed_c1 (K : Nat) (p0 : aRep) : Option Bool := (Option.bind (replog_Right K p0) (fun a1 => some (!a1)))
theorem group_Group_formed_c1.body {Γ : Ent} {K : Nat} {p0 : aRep} {r : Bool} (h : group_Group_formed_c1 K p0 = some r) : AWp V P 6 100 Γ (Tryz.f92.body.getD .skip) (EndsE P V Tryz.f92 (.B r) []) ⟨args0 0 [.agg (d_aRep p0)], []⟩ := by
 unfold group_Group_formed_c1 at h
 refine sr0 L 200 [] [] [] (S' := ⟨[(1, .P 200)], [(200, .raw (d_aRep p0))]⟩) ?_
 refine awp_seq ?_
 obtain ⟨a1, h1, h⟩ := bind_some h
 refine ar L 203 [] [(1, .B a1)] [] (cs := [PCall V P 57 [.agg (d_aRep p0)] (.B a1), True]) (S' := ⟨[(2, .B (!a1))], []⟩) (And.intro (replog_Right.ok h1) trivial) ?_
 refine awp_ret ?_
 obtain rfl := Option.some.inj h
 exact er (.B (!a1))
theorem group_Group_formed_c1.ok {K : Nat} {p0 : aRep} {r : Bool} (h : group_Group_formed_c1 K p0 = some r) : PCall V P 92 [.agg (d_aRep p0)] (.B r) := ECall.pcall (eo (fn := Tryz.f92) (n := 6) (m := 100) fun Γ => group_Group_formed_c1.body h) (by kernel_rfl)
def slices_IndexFunc_99.l7 (K : Nat) (p0 : List aRep) : Nat → Int → Option (Out Int Unit)
 | 0, _ => none
 | k + 1, xt8_7h => (if xt8_7h < (p0.length : Int) then (if (0 : Int) ≤ xt8_7h ∧ (xt8_7h : Int) < (p0.length : Int) then (Option.bind (group_Group_formed_c1 K (p0.getD (Int.toNat xt8_7h) z_aRep)) (fun a1 => (if a1 = true then some (Out.done xt8_7h) else slices_IndexFunc_99.l7 K p0 k (IntKind.i64.wrap (xt8_7h + 1))))) else none) else some (Out.go ()))
def slices_IndexFunc_99 (K : Nat) (p0 : List aRep) : Option Int := (obind (slices_IndexFunc_99.l7 K p0 K 0 : Option (Out Int Unit)) (fun r => r) (fun _ => some (-1)))
theorem slices_IndexFunc_99.body {Γ : Ent} {K : Nat} {p0 : List aRep} {r : Int} (h : slices_IndexFunc_99 K p0 = some r) : AWp V P 19 100 Γ (Tryz.f99.body.getD .skip) (EndsE P V Tryz.f99 (.I r) []) ⟨args0 0 [.cv (.ro .t_aRep p0), .cv (.fn (.func 92) [] [])], []⟩ := by
 unfold slices_IndexFunc_99 at h
 refine sr0 L 200 [] [] [] (S' := ⟨[(0, .cv (.ro .t_aRep p0)), (1, .cv (.fn (.func 92) [] []))], []⟩) ?_
 refine awp_seq ?_
 refine sr0 L 202 [] [] [] (S' := ⟨[(0, .cv (.ro .t_aRep p0)), (1, .cv (.fn (.func 92) [] [])), (7, .I (p0.length : Int)), (8, .I 0)], []⟩) ?_
 refine awp_block ?_
 refine kp (S' := ⟨[(0, .cv (.ro .t_aRep p0)), (1, .cv (.fn (.func 92) [] [])), (7, .I (p0.length : Int)), (8, .I 0)], []⟩) ?_
 obtain ⟨o1, hp1, h⟩ := obind_some h
 refine awp_conseq (Q' := fun e S => (e = .exit 0 ∧ S = ⟨[], []⟩ ∧ Out.go () = o1) ∨ (e = .ret ∧ ∃ a, Out.done a = o1 ∧ EndsE P V Tryz.f99 (.I a) [] .ret S)) (awp_loop (fun k S => ∃ xt8_7h : Int, S = ⟨[(0, .cv (.ro .t_aRep p0)), (1, .cv (.fn (.func 92) [] [])), (7, .I (p0.length : Int)), (8, .I xt8_7h)], []⟩ ∧ slices_IndexFunc_99.l7 K p0 k xt8_7h = some o1) ?_ ⟨_, rfl, hp1⟩) ?_
 ·clear h hp1
  intro k S hS
  obtain ⟨xt8_7h, rfl, h⟩ := hS
  cases k with
  | zero => cases h
  | succ k =>
  unfold slices_IndexFunc_99.l7 at h
  refine sr0 L 206 [] [] [] (S' := ⟨[(0, .cv (.ro .t_aRep p0)), (1, .cv (.fn (.func 92) [] [])), (7, .I (p0.length : Int)), (8, .I xt8_7h), (9, .B (decide (xt8_7h < (p0.length : Int))))], []⟩) ?_
  refine awp_seq ?_
  rcases ite_some h with ⟨c1, h⟩ | ⟨c1, h⟩
  ·refine tt (b := (decide (xt8_7h < (p0.length : Int)))) (decide_eq_true c1) ?_
   refine awp_skip' ?_
   refine awp_seq ?_
   refine awp_block ?_
   refine sr0 L 208 [] [] [] (S' := ⟨[(0, .cv (.ro .t_aRep p0)), (1, .cv (.fn (.func 92) [] [])), (5, .I xt8_7h), (7, .I (p0.length : Int)), (8, .I xt8_7h)], []⟩) ?_
   refine awp_seq ?_
   obtain ⟨g1, h⟩ := guard_some h
   obtain ⟨a1, h1, h⟩ := bind_some h
   refine ar L 211 [] [(5, .B a1)] [] (cs := [(0 : Int) ≤ xt8_7h, (xt8_7h : Int) < (p0.length : Int), PCall V P 92 [.agg (d_aRep (p0.getD (Int.toNat xt8_7h) z_aRep))] (.B a1), True]) (S' := ⟨[(0, .cv (.ro .t_aRep p0)), (1, .cv (.fn (.func 92) [] [])), (5, .I xt8_7h), (7, .I (p0.length : Int)), (8, .I xt8_7h), (16, .B a1)], []⟩) (And.intro g1.1 (And.intro g1.2 (And.intro (group_Group_formed_c1.ok h1) trivial))) ?_
   rcases ite_some h with ⟨c2, h⟩ | ⟨c2, h⟩
   ·refine tt (b := a1) (c2) ?_
    refine sr0 L 218 [] [] [] (S' := ⟨[(4, .I xt8_7h)], []⟩) ?_
    refine awp_ret ?_
    obtain rfl := Option.some.inj h
    exact .inr ⟨rfl, _, rfl, er (.I xt8_7h)⟩
   refine ff (b := a1) (eq_false_of_ne_true c2) ?_
   refine awp_skip' ?_
   refine ar0 L 221 [] [] [] (S' := ⟨[(0, .cv (.ro .t_aRep p0)), (1, .cv (.fn (.func 92) [] [])), (7, .I (p0.length : Int)), (8, .I (IntKind.i64.wrap (xt8_7h + 1)))], []⟩) ?_
   exact ⟨k, Nat.lt_succ_self k, _, rfl, h⟩
  refine ff (b := (decide (xt8_7h < (p0.length : Int)))) (decide_eq_false c1) ?_
  refine ex (S' := ⟨[], []⟩) ?_
  obtain rfl := Option.some.inj h
  exact .inl ⟨rfl, rfl, rfl⟩
 ·rintro e S (⟨rfl, rfl, rfl⟩ | ⟨rfl, a, rfl, hr⟩)
  ·rcases h with ⟨_, e1, h⟩ | ⟨_, e1, h⟩
   ·cases e1
   ·have e2 := Out.go.inj e1
    subst e2
    refine ⟨_, Turns.refl, ?_⟩
    refine sr0 L 224 [] [] [] (S' := ⟨[(4, .I (-1))], []⟩) ?_
    refine awp_ret ?_
    obtain rfl := Option.some.inj h
    exact er (.I (-1))
  ·rcases h with ⟨_, e1, h⟩ | ⟨_, e1, h⟩
   ·have e2 := Out.done.inj e1
    subst e2
    subst h
    exact ⟨_, Turns.refl, hr⟩
   ·cases e1
theorem slices_IndexFunc_99.ok {K : Nat} {p0 : List aRep} {r : Int} (h : slices_IndexFunc_99 K p0 = some r) : PCall V P 99 [.cv (.ro .t_aRep p0), .cv (.fn (.func 92) [] [])] (.I r) := ECall.pcall (eo (fn := Tryz.f99) (n := 19) (m := 100) fun Γ => slices_IndexFunc_99.body h) (by kernel_rfl)
def slices_ContainsFunc_91 (K : Nat) (p0 : List aRep) : Option Bool := (Option.bind (slices_IndexFunc_99 K p0) (fun a1 => some (decide (a1 ≥ 0))))
theorem slices_ContainsFunc_91.body {Γ : Ent} {K : Nat} {p0 : List aRep} {r : Bool} (h : slices_ContainsFunc_91 K p0 = some r) : AWp V P 9 100 Γ (Tryz.f91.body.getD .skip) (EndsE P V Tryz.f91 (.B r) []) ⟨args0 0 [.cv (.ro .t_aRep p0), .cv (.fn (.func 92) [] [])], []⟩ := by
 unfold slices_ContainsFunc_91 at h
 refine sr0 L 200 [] [] [] (S' := ⟨[(0, .cv (.ro .t_aRep p0)), (1, .cv (.fn (.func 92) [] []))], []⟩) ?_
 refine awp_seq ?_
 obtain ⟨a1, h1, h⟩ := bind_some h
 refine ar L 202 [] [(2, .I a1)] [] (cs := [PCall V P 99 [.cv (.ro .t_aRep p0), .cv (.fn (.func 92) [] [])] (.I a1), True]) (S' := ⟨[(4, .B (decide (a1 ≥ 0)))], []⟩) (And.intro (slices_IndexFunc_99.ok h1) trivial) ?_
 refine awp_ret ?_
 obtain rfl := Option.some.inj h
 exact er (.B (decide (a1 ≥ 0)))
theorem slices_ContainsFunc_91.ok {K : Nat} {p0 : List aRep} {r : Bool} (h : slices_ContainsFunc_91 K p0 = some r) : PCall V P 91 [.cv (.ro .t_aRep p0), .cv (.fn (.func 92) [] [])] (.B r) := ECall.pcall (eo (fn := Tryz.f91) (n := 9) (m := 100) fun Γ => slices_ContainsFunc_91.body h) (by kernel_rfl)
def group_Group_formed (K : Nat) (p0 : group_Group) : Option Bool := (if (p0.Replicas.length : Int) < 1 then some false else (if (p0.Replicas.length : Int) > 9 then some false else (if (p0.Up.length : Int) ≠ (p0.Replicas.length : Int) then some false else (if p0.Leader < (-1) then some false else (if p0.Leader ≥ (p0.Replicas.length : Int) then some false else (if p0.Epoch < 0 then some false else (if p0.Epoch > 1099511627776 then some false else (Option.bind (slices_ContainsFunc_91 K p0.Replicas) (fun a1 => some (!a1))))))))))
theorem group_Group_formed.body {Γ : Ent} {K : Nat} {p0 : group_Group} {r : Bool} (h : group_Group_formed K p0 = some r) : AWp V P 45 100 Γ (Tryz.f67.body.getD .skip) (EndsE P V Tryz.f67 (.B r) []) ⟨args0 0 [.agg (d_group_Group p0)], []⟩ := by
 unfold group_Group_formed at h
 refine sr0 L 200 [] [] [] (S' := ⟨[(1, .P 200)], [(200, .raw (d_group_Group p0))]⟩) ?_
 refine sr0 L 203 [] [] [] (S' := ⟨[(1, .P 200), (3, .I (p0.Replicas.length : Int))], [(200, .raw (d_group_Group p0))]⟩) ?_
 refine awp_seq ?_
 refine awp_seq ?_
 rcases ite_some h with ⟨c1, h⟩ | ⟨c1, h⟩
 ·refine ar L 208 [(2, true)] [] [] (cs := [(decide ((p0.Replicas.length : Int) < 1)) = true]) (S' := ⟨[(1, .P 200), (40, .B true)], [(200, .raw (d_group_Group p0))]⟩) (decide_eq_true c1) ?_
  refine tt (b := true) (rfl) ?_
  refine sr0 L 243 [] [] [] (S' := ⟨[(2, .B false)], []⟩) ?_
  refine awp_ret ?_
  obtain rfl := Option.some.inj h
  exact er (.B false)
 rcases ite_some h with ⟨c2, h⟩ | ⟨c2, h⟩
 ·refine ar L 208 [(2, false), (6, true)] [] [] (cs := [(decide ((p0.Replicas.length : Int) < 1)) = false, (decide ((p0.Replicas.length : Int) > 9)) = true]) (S' := ⟨[(1, .P 200), (40, .B true)], [(200, .raw (d_group_Group p0))]⟩) (And.intro (decide_eq_false c1) (decide_eq_true c2)) ?_
  refine tt (b := true) (rfl) ?_
  refine sr0 L 243 [] [] [] (S' := ⟨[(2, .B false)], []⟩) ?_
  refine awp_ret ?_
  obtain rfl := Option.some.inj h
  exact er (.B false)
 rcases ite_some h with ⟨c3, h⟩ | ⟨c3, h⟩
 ·refine ar L 208 [(2, false), (6, false), (13, true)] [] [] (cs := [(decide ((p0.Replicas.length : Int) < 1)) = false, (decide ((p0.Replicas.length : Int) > 9)) = false, (decide ((p0.Up.length : Int) ≠ (p0.Replicas.length : Int))) = true]) (S' := ⟨[(1, .P 200), (40, .B true)], [(200, .raw (d_group_Group p0))]⟩) (And.intro (decide_eq_false c1) (And.intro (decide_eq_false c2) (decide_eq_true c3))) ?_
  refine tt (b := true) (rfl) ?_
  refine sr0 L 243 [] [] [] (S' := ⟨[(2, .B false)], []⟩) ?_
  refine awp_ret ?_
  obtain rfl := Option.some.inj h
  exact er (.B false)
 rcases ite_some h with ⟨c4, h⟩ | ⟨c4, h⟩
 ·refine ar L 208 [(2, false), (6, false), (13, false), (18, true)] [] [] (cs := [(decide ((p0.Replicas.length : Int) < 1)) = false, (decide ((p0.Replicas.length : Int) > 9)) = false, (decide ((p0.Up.length : Int) ≠ (p0.Replicas.length : Int))) = false, (decide (p0.Leader < (-1))) = true]) (S' := ⟨[(1, .P 200), (40, .B true)], [(200, .raw (d_group_Group p0))]⟩) (And.intro (decide_eq_false c1) (And.intro (decide_eq_false c2) (And.intro (decide_eq_false c3) (decide_eq_true c4)))) ?_
  refine tt (b := true) (rfl) ?_
  refine sr0 L 243 [] [] [] (S' := ⟨[(2, .B false)], []⟩) ?_
  refine awp_ret ?_
  obtain rfl := Option.some.inj h
  exact er (.B false)
 rcases ite_some h with ⟨c5, h⟩ | ⟨c5, h⟩
 ·refine ar L 208 [(2, false), (6, false), (13, false), (18, false), (24, true)] [] [] (cs := [(decide ((p0.Replicas.length : Int) < 1)) = false, (decide ((p0.Replicas.length : Int) > 9)) = false, (decide ((p0.Up.length : Int) ≠ (p0.Replicas.length : Int))) = false, (decide (p0.Leader < (-1))) = false, (decide (p0.Leader ≥ (p0.Replicas.length : Int))) = true]) (S' := ⟨[(1, .P 200), (40, .B true)], [(200, .raw (d_group_Group p0))]⟩) (And.intro (decide_eq_false c1) (And.intro (decide_eq_false c2) (And.intro (decide_eq_false c3) (And.intro (decide_eq_false c4) (decide_eq_true c5))))) ?_
  refine tt (b := true) (rfl) ?_
  refine sr0 L 243 [] [] [] (S' := ⟨[(2, .B false)], []⟩) ?_
  refine awp_ret ?_
  obtain rfl := Option.some.inj h
  exact er (.B false)
 rcases ite_some h with ⟨c6, h⟩ | ⟨c6, h⟩
 ·refine ar L 208 [(2, false), (6, false), (13, false), (18, false), (24, false), (29, true)] [] [] (cs := [(decide ((p0.Replicas.length : Int) < 1)) = false, (decide ((p0.Replicas.length : Int) > 9)) = false, (decide ((p0.Up.length : Int) ≠ (p0.Replicas.length : Int))) = false, (decide (p0.Leader < (-1))) = false, (decide (p0.Leader ≥ (p0.Replicas.length : Int))) = false, (decide (p0.Epoch < 0)) = true]) (S' := ⟨[(1, .P 200), (40, .B true)], [(200, .raw (d_group_Group p0))]⟩) (And.intro (decide_eq_false c1) (And.intro (decide_eq_false c2) (And.intro (decide_eq_false c3) (And.intro (decide_eq_false c4) (And.intro (decide_eq_false c5) (decide_eq_true c6)))))) ?_
  refine tt (b := true) (rfl) ?_
  refine sr0 L 243 [] [] [] (S' := ⟨[(2, .B false)], []⟩) ?_
  refine awp_ret ?_
  obtain rfl := Option.some.inj h
  exact er (.B false)
 refine ar L 208 [(2, false), (6, false), (13, false), (18, false), (24, false), (29, false)] [] [] (cs := [(decide ((p0.Replicas.length : Int) < 1)) = false, (decide ((p0.Replicas.length : Int) > 9)) = false, (decide ((p0.Up.length : Int) ≠ (p0.Replicas.length : Int))) = false, (decide (p0.Leader < (-1))) = false, (decide (p0.Leader ≥ (p0.Replicas.length : Int))) = false, (decide (p0.Epoch < 0)) = false]) (S' := ⟨[(1, .P 200), (40, .B (decide (p0.Epoch > 1099511627776)))], [(200, .raw (d_group_Group p0))]⟩) (And.intro (decide_eq_false c1) (And.intro (decide_eq_false c2) (And.intro (decide_eq_false c3) (And.intro (decide_eq_false c4) (And.intro (decide_eq_false c5) (decide_eq_false c6)))))) ?_
 rcases ite_some h with ⟨c7, h⟩ | ⟨c7, h⟩
 ·refine tt (b := (decide (p0.Epoch > 1099511627776))) (decide_eq_true c7) ?_
  refine sr0 L 243 [] [] [] (S' := ⟨[(2, .B false)], []⟩) ?_
  refine awp_ret ?_
  obtain rfl := Option.some.inj h
  exact er (.B false)
 refine ff (b := (decide (p0.Epoch > 1099511627776))) (decide_eq_false c7) ?_
 refine awp_skip' ?_
 refine awp_seq ?_
 obtain ⟨a1, h1, h⟩ := bind_some h
 refine ar L 245 [] [(2, .B a1)] [] (cs := [PCall V P 91 [.cv (.ro .t_aRep p0.Replicas), .cv (.fn (.func 92) [] [])] (.B a1), True]) (S' := ⟨[(2, .B (!a1))], []⟩) (And.intro (slices_ContainsFunc_91.ok h1) trivial) ?_
 refine awp_ret ?_
 obtain rfl := Option.some.inj h
 exact er (.B (!a1))
theorem group_Group_formed.ok {K : Nat} {p0 : group_Group} {r : Bool} (h : group_Group_formed K p0 = some r) : PCall V P 67 [.agg (d_group_Group p0)] (.B r) := ECall.pcall (eo (fn := Tryz.f67) (n := 45) (m := 100) fun Γ => group_Group_formed.body h) (by kernel_rfl)
def group_Group_member (K : Nat) (p0 : group_Group) (p1 : Int) : Option Bool := (if p1 ≥ 0 then some (decide (p1 < (p0.Replicas.length : Int))) else some false)
theorem group_Group_member.body {Γ : Ent} {K : Nat} {p0 : group_Group} {p1 : Int} {r : Bool} (h : group_Group_member K p0 p1 = some r) : AWp V P 14 100 Γ (Tryz.f68.body.getD .skip) (EndsE P V Tryz.f68 (.B r) []) ⟨args0 0 [.agg (d_group_Group p0), .I p1], []⟩ := by
 unfold group_Group_member at h
 refine sr0 L 200 [] [] [] (S' := ⟨[(1, .I p1), (2, .P 200)], [(200, .raw (d_group_Group p0))]⟩) ?_
 refine awp_seq ?_
 rcases ite_some h with ⟨c1, h⟩ | ⟨c1, h⟩
 ·refine ar L 203 [(2, true)] [] [] (cs := [(decide (p1 ≥ 0)) = true]) (S' := ⟨[(4, .B (decide (p1 < (p0.Replicas.length : Int))))], []⟩) (decide_eq_true c1) ?_
  refine awp_ret ?_
  obtain rfl := Option.some.inj h
  exact er (.B (decide (p1 < (p0.Replicas.length : Int))))
 refine ar L 203 [(2, false)] [] [] (cs := [(decide (p1 ≥ 0)) = false]) (S' := ⟨[(4, .B false)], []⟩) (decide_eq_false c1) ?_
 refine awp_ret ?_
 obtain rfl := Option.some.inj h
 exact er (.B false)
theorem group_Group_member.ok {K : Nat} {p0 : group_Group} {p1 : Int} {r : Bool} (h : group_Group_member K p0 p1 = some r) : PCall V P 68 [.agg (d_group_Group p0), .I p1] (.B r) := ECall.pcall (eo (fn := Tryz.f68) (n := 14) (m := 100) fun Γ => group_Group_member.body h) (by kernel_rfl)
def group_Group_suits_c1 (K : Nat) (p0 : Int) (p1 : group_Group) : Option Bool := (Option.bind (group_Group_member K p1 p0) (fun a1 => some (!a1)))
theorem group_Group_suits_c1.body {Γ : Ent} {K : Nat} {p0 : Int} {p1 : group_Group} {r : Bool} (h : group_Group_suits_c1 K p0 p1 = some r) : AWp V P 8 100 Γ (Tryz.f69.body.getD .skip) (EndsE P V Tryz.f69 (.B r) []) ⟨args0 0 [.I p0, .cv (.pcs (d_group_Group p1) 0)], []⟩ := by
 unfold group_Group_suits_c1 at h
 refine sr0 L 200 [] [] [] (S' := ⟨[(0, .I p0), (1, .cv (.pcs (d_group_Group p1) 0))], []⟩) ?_
 refine awp_seq ?_
 obtain ⟨a1, h1, h⟩ := bind_some h
 refine ar L 202 [] [(2, .B a1)] [] (cs := [PCall V P 68 [.agg (d_group_Group p1), .I p0] (.B a1), True]) (S' := ⟨[(3, .B (!a1))], []⟩) (And.intro (group_Group_member.ok h1) trivial) ?_
 refine awp_ret ?_
 obtain rfl := Option.some.inj h
 exact er (.B (!a1))
theorem group_Group_suits_c1.ok {K : Nat} {p0 : Int} {p1 : group_Group} {r : Bool} (h : group_Group_suits_c1 K p0 p1 = some r) : PCall V P 69 [.I p0, .cv (.pcs (d_group_Group p1) 0)] (.B r) := ECall.pcall (eo (fn := Tryz.f69) (n := 8) (m := 100) fun Γ => group_Group_suits_c1.body h) (by kernel_rfl)
def slices_IndexFunc_84.l7 (K : Nat) (p0 : List Int) (p1 : group_Group) : Nat → Int → Option (Out Int Unit)
 | 0, _ => none
 | k + 1, xt8_7h => (if xt8_7h < (p0.length : Int) then (if (0 : Int) ≤ xt8_7h ∧ (xt8_7h : Int) < (p0.length : Int) then (Option.bind (group_Group_suits_c1 K (p0.getD (Int.toNat xt8_7h) (0 : Int)) p1) (fun a1 => (if a1 = true then some (Out.done xt8_7h) else slices_IndexFunc_84.l7 K p0 p1 k (IntKind.i64.wrap (xt8_7h + 1))))) else none) else some (Out.go ()))
def slices_IndexFunc_84 (K : Nat) (p0 : List Int) (p1 : group_Group) : Option Int := (obind (slices_IndexFunc_84.l7 K p0 p1 K 0 : Option (Out Int Unit)) (fun r => r) (fun _ => some (-1)))
theorem slices_IndexFunc_84.body {Γ : Ent} {K : Nat} {p0 : List Int} {p1 : group_Group} {r : Int} (h : slices_IndexFunc_84 K p0 p1 = some r) : AWp V P 19 100 Γ (Tryz.f84.body.getD .skip) (EndsE P V Tryz.f84 (.I r) []) ⟨args0 0 [.cv (.ro .t_int p0), .cv (.fn (.func 69) [] [.pcs (d_group_Group p1) 0])], []⟩ := by
 unfold slices_IndexFunc_84 at h
 refine sr0 L 200 [] [] [] (S' := ⟨[(0, .cv (.ro .t_int p0)), (1, .cv (.fn (.func 69) [] [.pcs (d_group_Group p1) 0]))], []⟩) ?_
 refine awp_seq ?_
 refine sr0 L 202 [] [] [] (S' := ⟨[(0, .cv (.ro .t_int p0)), (1, .cv (.fn (.func 69) [] [.pcs (d_group_Group p1) 0])), (7, .I (p0.length : Int)), (8, .I 0)], []⟩) ?_
 refine awp_block ?_
 refine kp (S' := ⟨[(0, .cv (.ro .t_int p0)), (1, .cv (.fn (.func 69) [] [.pcs (d_group_Group p1) 0])), (7, .I (p0.length : Int)), (8, .I 0)], []⟩) ?_
 obtain ⟨o1, hp1, h⟩ := obind_some h
 refine awp_conseq (Q' := fun e S => (e = .exit 0 ∧ S = ⟨[], []⟩ ∧ Out.go () = o1) ∨ (e = .ret ∧ ∃ a, Out.done a = o1 ∧ EndsE P V Tryz.f84 (.I a) [] .ret S)) (awp_loop (fun k S => ∃ xt8_7h : Int, S = ⟨[(0, .cv (.ro .t_int p0)), (1, .cv (.fn (.func 69) [] [.pcs (d_group_Group p1) 0])), (7, .I (p0.length : Int)), (8, .I xt8_7h)], []⟩ ∧ slices_IndexFunc_84.l7 K p0 p1 k xt8_7h = some o1) ?_ ⟨_, rfl, hp1⟩) ?_
 ·clear h hp1
  intro k S hS
  obtain ⟨xt8_7h, rfl, h⟩ := hS
  cases k with
  | zero => cases h
  | succ k =>
  unfold slices_IndexFunc_84.l7 at h
  refine sr0 L 206 [] [] [] (S' := ⟨[(0, .cv (.ro .t_int p0)), (1, .cv (.fn (.func 69) [] [.pcs (d_group_Group p1) 0])), (7, .I (p0.length : Int)), (8, .I xt8_7h), (9, .B (decide (xt8_7h < (p0.length : Int))))], []⟩) ?_
  refine awp_seq ?_
  rcases ite_some h with ⟨c1, h⟩ | ⟨c1, h⟩
  ·refine tt (b := (decide (xt8_7h < (p0.length : Int)))) (decide_eq_true c1) ?_
   refine awp_skip' ?_
   refine awp_seq ?_
   refine awp_block ?_
   refine sr0 L 208 [] [] [] (S' := ⟨[(0, .cv (.ro .t_int p0)), (1, .cv (.fn (.func 69) [] [.pcs (d_group_Group p1) 0])), (5, .I xt8_7h), (7, .I (p0.length : Int)), (8, .I xt8_7h)], []⟩) ?_
   refine awp_seq ?_
   obtain ⟨g1, h⟩ := guard_some h
   obtain ⟨a1, h1, h⟩ := bind_some h
   refine ar L 211 [] [(5, .B a1)] [] (cs := [(0 : Int) ≤ xt8_7h, (xt8_7h : Int) < (p0.length : Int), PCall V P 69 [.I (p0.getD (Int.toNat xt8_7h) (0 : Int)), .cv (.pcs (d_group_Group p1) 0)] (.B a1), True]) (S' := ⟨[(0, .cv (.ro .t_int p0)), (1, .cv (.fn (.func 69) [] [.pcs (d_group_Group p1) 0])), (5, .I xt8_7h), (7, .I (p0.length : Int)), (8, .I xt8_7h), (16, .B a1)], []⟩) (And.intro g1.1 (And.intro g1.2 (And.intro (group_Group_suits_c1.ok h1) trivial))) ?_
   rcases ite_some h with ⟨c2, h⟩ | ⟨c2, h⟩
   ·refine tt (b := a1) (c2) ?_
    refine sr0 L 218 [] [] [] (S' := ⟨[(4, .I xt8_7h)], []⟩) ?_
    refine awp_ret ?_
    obtain rfl := Option.some.inj h
    exact .inr ⟨rfl, _, rfl, er (.I xt8_7h)⟩
   refine ff (b := a1) (eq_false_of_ne_true c2) ?_
   refine awp_skip' ?_
   refine ar0 L 221 [] [] [] (S' := ⟨[(0, .cv (.ro .t_int p0)), (1, .cv (.fn (.func 69) [] [.pcs (d_group_Group p1) 0])), (7, .I (p0.length : Int)), (8, .I (IntKind.i64.wrap (xt8_7h + 1)))], []⟩) ?_
   exact ⟨k, Nat.lt_succ_self k, _, rfl, h⟩
  refine ff (b := (decide (xt8_7h < (p0.length : Int)))) (decide_eq_false c1) ?_
  refine ex (S' := ⟨[], []⟩) ?_
  obtain rfl := Option.some.inj h
  exact .inl ⟨rfl, rfl, rfl⟩
 ·rintro e S (⟨rfl, rfl, rfl⟩ | ⟨rfl, a, rfl, hr⟩)
  ·rcases h with ⟨_, e1, h⟩ | ⟨_, e1, h⟩
   ·cases e1
   ·have e2 := Out.go.inj e1
    subst e2
    refine ⟨_, Turns.refl, ?_⟩
    refine sr0 L 224 [] [] [] (S' := ⟨[(4, .I (-1))], []⟩) ?_
    refine awp_ret ?_
    obtain rfl := Option.some.inj h
    exact er (.I (-1))
  ·rcases h with ⟨_, e1, h⟩ | ⟨_, e1, h⟩
   ·have e2 := Out.done.inj e1
    subst e2
    subst h
    exact ⟨_, Turns.refl, hr⟩
   ·cases e1
theorem slices_IndexFunc_84.ok {K : Nat} {p0 : List Int} {p1 : group_Group} {r : Int} (h : slices_IndexFunc_84 K p0 p1 = some r) : PCall V P 84 [.cv (.ro .t_int p0), .cv (.fn (.func 69) [] [.pcs (d_group_Group p1) 0])] (.I r) := ECall.pcall (eo (fn := Tryz.f84) (n := 19) (m := 100) fun Γ => slices_IndexFunc_84.body h) (by kernel_rfl)
def slices_ContainsFunc_55 (K : Nat) (p0 : List Int) (p1 : group_Group) : Option Bool := (Option.bind (slices_IndexFunc_84 K p0 p1) (fun a1 => some (decide (a1 ≥ 0))))
theorem slices_ContainsFunc_55.body {Γ : Ent} {K : Nat} {p0 : List Int} {p1 : group_Group} {r : Bool} (h : slices_ContainsFunc_55 K p0 p1 = some r) : AWp V P 9 100 Γ (Tryz.f55.body.getD .skip) (EndsE P V Tryz.f55 (.B r) []) ⟨args0 0 [.cv (.ro .t_int p0), .cv (.fn (.func 69) [] [.pcs (d_group_Group p1) 0])], []⟩ := by
 unfold slices_ContainsFunc_55 at h
 refine sr0 L 200 [] [] [] (S' := ⟨[(0, .cv (.ro .t_int p0)), (1, .cv (.fn (.func 69) [] [.pcs (d_group_Group p1) 0]))], []⟩) ?_
 refine awp_seq ?_
 obtain ⟨a1, h1, h⟩ := bind_some h
 refine ar L 202 [] [(2, .I a1)] [] (cs := [PCall V P 84 [.cv (.ro .t_int p0), .cv (.fn (.func 69) [] [.pcs (d_group_Group p1) 0])] (.I a1), True]) (S' := ⟨[(4, .B (decide (a1 ≥ 0)))], []⟩) (And.intro (slices_IndexFunc_84.ok h1) trivial) ?_
 refine awp_ret ?_
 obtain rfl := Option.some.inj h
 exact er (.B (decide (a1 ≥ 0)))
theorem slices_ContainsFunc_55.ok {K : Nat} {p0 : List Int} {p1 : group_Group} {r : Bool} (h : slices_ContainsFunc_55 K p0 p1 = some r) : PCall V P 55 [.cv (.ro .t_int p0), .cv (.fn (.func 69) [] [.pcs (d_group_Group p1) 0])] (.B r) := ECall.pcall (eo (fn := Tryz.f55) (n := 9) (m := 100) fun Γ => slices_ContainsFunc_55.body h) (by kernel_rfl)
def group_Group_suits (K : Nat) (p0 : group_Group) (p1 : Int) (p2 : List Int) : Option Bool := (Option.bind (group_Group_formed K p0) (fun a1 => (if a1 = true then (Option.bind (group_Group_member K p0 p1) (fun a2 => (if a2 = true then (Option.bind (slices_ContainsFunc_55 K p2 p0) (fun a3 => some (!a3))) else some false))) else some false)))
theorem group_Group_suits.body {Γ : Ent} {K : Nat} {p0 : group_Group} {p1 : Int} {p2 : List Int} {r : Bool} (h : group_Group_suits K p0 p1 p2 = some r) : AWp V P 20 100 Γ (Tryz.f36.body.getD .skip) (EndsE P V Tryz.f36 (.B r) []) ⟨args0 0 [.agg (d_group_Group p0), .I p1, .cv (.ro .t_int p2)], []⟩ := by
 unfold group_Group_suits at h
 refine sr0 L 200 [] [] [] (S' := ⟨[(1, .I p1), (2, .cv (.ro .t_int p2)), (3, .P 200)], [(200, .raw (d_group_Group p0))]⟩) ?_
 refine awp_seq ?_
 obtain ⟨a1, h1, h⟩ := bind_some h
 rcases ite_some h with ⟨c1, h⟩ | ⟨c1, h⟩
 ·obtain ⟨a2, h2, h⟩ := bind_some h
  rcases ite_some h with ⟨c2, h⟩ | ⟨c2, h⟩
  ·obtain ⟨a3, h3, h⟩ := bind_some h
   refine ar L 203 [(2, true), (7, true)] [(1, .B a1), (5, .B a2), (10, .B a3)] [] (cs := [PCall V P 67 [.agg (d_group_Group p0)] (.B a1), True, a1 = true, PCall V P 68 [.agg (d_group_Group p0), .I p1] (.B a2), True, a2 = true, PCall V P 55 [.cv (.ro .t_int p2), .cv (.fn (.func 69) [] [.pcs (d_group_Group p0) 0])] (.B a3), True]) (S' := ⟨[(6, .B (!a3))], []⟩) (And.intro (group_Group_formed.ok h1) (And.intro trivial (And.intro c1 (And.intro (group_Group_member.ok h2) (And.intro trivial (And.intro c2 (And.intro (slices_ContainsFunc_55.ok h3) trivial))))))) ?_
   refine awp_ret ?_
   obtain rfl := Option.some.inj h
   exact er (.B (!a3))
  refine ar L 203 [(2, true), (7, false)] [(1, .B a1), (5, .B a2)] [] (cs := [PCall V P 67 [.agg (d_group_Group p0)] (.B a1), True, a1 = true, PCall V P 68 [.agg (d_group_Group p0), .I p1] (.B a2), True, a2 = false]) (S' := ⟨[(6, .B false)], []⟩) (And.intro (group_Group_formed.ok h1) (And.intro trivial (And.intro c1 (And.intro (group_Group_member.ok h2) (And.intro trivial (eq_false_of_ne_true c2)))))) ?_
  refine awp_ret ?_
  obtain rfl := Option.some.inj h
  exact er (.B false)
 refine ar L 203 [(2, false)] [(1, .B a1)] [] (cs := [PCall V P 67 [.agg (d_group_Group p0)] (.B a1), True, a1 = false]) (S' := ⟨[(6, .B false)], []⟩) (And.intro (group_Group_formed.ok h1) (And.intro trivial (eq_false_of_ne_true c1))) ?_
 refine awp_ret ?_
 obtain rfl := Option.some.inj h
 exact er (.B false)
theorem group_Group_suits.ok {K : Nat} {p0 : group_Group} {p1 : Int} {p2 : List Int} {r : Bool} (h : group_Group_suits K p0 p1 p2 = some r) : PCall V P 36 [.agg (d_group_Group p0), .I p1, .cv (.ro .t_int p2)] (.B r) := ECall.pcall (eo (fn := Tryz.f36) (n := 20) (m := 100) fun Γ => group_Group_suits.body h) (by kernel_rfl)
def ballot_candidate (K : Nat) (p0 : Int) : Option Bool := (if p0 ≥ 0 then some (decide (p0 < 9)) else some false)
theorem ballot_candidate.body {Γ : Ent} {K : Nat} {p0 : Int} {r : Bool} (h : ballot_candidate K p0 = some r) : AWp V P 9 100 Γ (Tryz.f70.body.getD .skip) (EndsE P V Tryz.f70 (.B r) []) ⟨args0 0 [.I p0], []⟩ := by
 unfold ballot_candidate at h
 refine sr0 L 200 [] [] [] (S' := ⟨[(0, .I p0)], []⟩) ?_
 refine awp_seq ?_
 rcases ite_some h with ⟨c1, h⟩ | ⟨c1, h⟩
 ·refine ar L 202 [(2, true)] [] [] (cs := [(decide (p0 ≥ 0)) = true]) (S' := ⟨[(2, .B (decide (p0 < 9)))], []⟩) (decide_eq_true c1) ?_
  refine awp_ret ?_
  obtain rfl := Option.some.inj h
  exact er (.B (decide (p0 < 9)))
 refine ar L 202 [(2, false)] [] [] (cs := [(decide (p0 ≥ 0)) = false]) (S' := ⟨[(2, .B false)], []⟩) (decide_eq_false c1) ?_
 refine awp_ret ?_
 obtain rfl := Option.some.inj h
 exact er (.B false)
theorem ballot_candidate.ok {K : Nat} {p0 : Int} {r : Bool} (h : ballot_candidate K p0 = some r) : PCall V P 70 [.I p0] (.B r) := ECall.pcall (eo (fn := Tryz.f70) (n := 9) (m := 100) fun Γ => ballot_candidate.body h) (by kernel_rfl)
def ballot_replica.l9 (K : Nat) (p0 : aRep) : Nat → Int → (List aEnt) → Option (List aEnt)
 | 0, _, _ => none
 | k + 1, xt9_9h, x21902 => (if xt9_9h < (p0.Log.length : Int) then (if (0 : Int) ≤ xt9_9h ∧ (xt9_9h : Int) < (p0.Log.length : Int) then (Option.bind (bytes_Clone_59 K ((p0.Log.getD (Int.toNat xt9_9h) z_aEnt).Data)) (fun a1 => (if (x21902.length + ([(⟨(p0.Log.getD (Int.toNat xt9_9h) z_aEnt).Epoch, a1⟩ : aEnt)] : List aEnt).length) * 32 ≤ 140737488355328 then ballot_replica.l9 K p0 k (IntKind.i64.wrap (xt9_9h + 1)) (x21902 ++ ([(⟨(p0.Log.getD (Int.toNat xt9_9h) z_aEnt).Epoch, a1⟩ : aEnt)] : List aEnt)) else none))) else none) else some x21902)
def ballot_replica (K : Nat) (p0 : aRep) : Option aRep := (Option.bind (ballot_replica.l9 K p0 K 0 ([] : List aEnt) : Option (List aEnt)) (fun x21802 => some (⟨p0.Epoch, p0.Vote, p0.Commit, x21802⟩ : aRep)))
theorem ballot_replica.body {Γ : Ent} {K : Nat} {p0 : aRep} {r : aRep} (h : ballot_replica K p0 = some r) : AWp V P 26 100 Γ (Tryz.f71.body.getD .skip) (EndsE P V Tryz.f71 (.agg [.I r.Epoch, .I r.Vote, .I r.Commit, .ro .t_aEnt r.Log]) []) ⟨args0 0 [.agg (d_aRep p0)], []⟩ := by
 unfold ballot_replica at h
 refine sr0 L 200 [] [] [] (S' := ⟨[(1, .P 200), (2, .P 201)], [(200, .raw (d_aRep p0)), (201, .raw [.I 0, .I 0, .I 0, .N])]⟩) ?_
 refine sr0 L 203 [] [] [] (S' := ⟨[(1, .P 200), (2, .P 201), (3, .N)], [(200, .raw (d_aRep p0)), (201, .raw [.I 0, .I 0, .I 0, .N])]⟩) ?_
 refine awp_seq ?_
 refine sr0 L 205 [] [] [] (S' := ⟨[(1, .P 200), (2, .P 201), (3, .N), (7, .cv (.ro .t_aEnt p0.Log)), (8, .I (p0.Log.length : Int)), (9, .I 0)], [(200, .raw (d_aRep p0)), (201, .raw [.I 0, .I 0, .I 0, .N])]⟩) ?_
 refine awp_block ?_
 refine awp_turn (Turns.trans (Turns.kp (S' := ⟨[(1, .P 200), (2, .P 201), (3, .N), (7, .cv (.ro .t_aEnt p0.Log)), (8, .I (p0.Log.length : Int)), (9, .I 0)], [(200, .raw (d_aRep p0)), (201, .raw [.I 0, .I 0, .I 0, .N])]⟩)) (Turns.trans (Turns.nilown 3 9500 Tag.t_aEnt (by kernel_rfl) (by kernel_rfl) (S' := ⟨[(3, .cv (.own .t_aEnt 9500)), (1, .P 200), (2, .P 201), (7, .cv (.ro .t_aEnt p0.Log)), (8, .I (p0.Log.length : Int)), (9, .I 0)], [(9500, .lst .t_aEnt ([] : List aEnt)), (200, .raw (d_aRep p0)), (201, .raw [.I 0, .I 0, .I 0, .N])]⟩) (by kernel_rfl)) (Turns.trans (Turns.kp (S' := ⟨[(1, .P 200), (2, .P 201), (3, .cv (.own .t_aEnt 9500)), (7, .cv (.ro .t_aEnt p0.Log)), (8, .I (p0.Log.length : Int)), (9, .I 0)], [(200, .raw (d_aRep p0)), (201, .raw [.I 0, .I 0, .I 0, .N]), (9500, .lst .t_aEnt ([] : List aEnt))]⟩)) (Turns.rn [(200, 21900), (201, 21901), (9500, 21902)] (S' := ⟨[(1, .P 21900), (2, .P 21901), (3, .cv (.own .t_aEnt 21902)), (7, .cv (.ro .t_aEnt p0.Log)), (8, .I (p0.Log.length : Int)), (9, .I 0)], [(21900, .raw (d_aRep p0)), (21901, .raw [.I 0, .I 0, .I 0, .N]), (21902, .lst .t_aEnt ([] : List aEnt))]⟩))))) ?_
 refine kp (S' := ⟨[(1, .P 21900), (2, .P 21901), (3, .cv (.own .t_aEnt 21902)), (7, .cv (.ro .t_aEnt p0.Log)), (8, .I (p0.Log.length : Int)), (9, .I 0)], [(21900, .raw (d_aRep p0)), (21901, .raw [.I 0, .I 0, .I 0, .N]), (21902, .lst .t_aEnt ([] : List aEnt))]⟩) ?_
 obtain ⟨o1, hp1, h⟩ := bind_some h
 refine awp_conseq (Q' := fun e S => (e = .exit 0 ∧ ∃ x21802 : List aEnt, S = ⟨[(1, .P 21800), (2, .P 21801), (3, .cv (.own .t_aEnt 21802))], [(21800, .raw (d_aRep p0)), (21801, .raw [.I 0, .I 0, .I 0, .N]), (21802, .lst .t_aEnt x21802)]⟩ ∧ x21802 = o1)) (awp_loop (fun k S => ∃ xt9_9h : Int, ∃ x21902 : List aEnt, S = ⟨[(1, .P 21900), (2, .P 21901), (3, .cv (.own .t_aEnt 21902)), (7, .cv (.ro .t_aEnt p0.Log)), (8, .I (p0.Log.length : Int)), (9, .I xt9_9h)], [(21900, .raw (d_aRep p0)), (21901, .raw [.I 0, .I 0, .I 0, .N]), (21902, .lst .t_aEnt x21902)]⟩ ∧ ballot_replica.l9 K p0 k xt9_9h x21902 = some o1) ?_ ⟨_, _, rfl, hp1⟩) ?_
 ·clear h hp1
  intro k S hS
  obtain ⟨xt9_9h, x21902, rfl, h⟩ := hS
  cases k with
  | zero => cases h
  | succ k =>
  unfold ballot_replica.l9 at h
  refine sr0 L 210 [] [] [] (S' := ⟨[(1, .P 21900), (2, .P 21901), (3, .cv (.own .t_aEnt 21902)), (7, .cv (.ro .t_aEnt p0.Log)), (8, .I (p0.Log.length : Int)), (9, .I xt9_9h), (10, .B (decide (xt9_9h < (p0.Log.length : Int))))], [(21900, .raw (d_aRep p0)), (21901, .raw [.I 0, .I 0, .I 0, .N]), (21902, .lst .t_aEnt x21902)]⟩) ?_
  refine awp_seq ?_
  rcases ite_some h with ⟨c1, h⟩ | ⟨c1, h⟩
  ·refine tt (b := (decide (xt9_9h < (p0.Log.length : Int)))) (decide_eq_true c1) ?_
   refine awp_skip' ?_
   refine awp_seq ?_
   refine awp_block ?_
   refine awp_seq ?_
   obtain ⟨g1, h⟩ := guard_some h
   refine ar L 212 [] [] [] (cs := [(0 : Int) ≤ xt9_9h, (xt9_9h : Int) < (p0.Log.length : Int)]) (S' := ⟨[(1, .P 21900), (2, .P 21901), (3, .cv (.own .t_aEnt 21902)), (5, .P 214), (7, .cv (.ro .t_aEnt p0.Log)), (8, .I (p0.Log.length : Int)), (9, .I xt9_9h)], [(214, .raw (d_aEnt (p0.Log.getD (Int.toNat xt9_9h) z_aEnt))), (21900, .raw (d_aRep p0)), (21901, .raw [.I 0, .I 0, .I 0, .N]), (21902, .lst .t_aEnt x21902)]⟩) (And.intro g1.1 g1.2) ?_
   obtain ⟨a1, ha1, h⟩ := bind_some h
   obtain ⟨g2, h⟩ := guard_some h
   refine ad L mixed 217 [] [(5, .cv (.ro .t_uint8 a1))] [] [] 8 (cs := [PCall V P 59 [.cv (.ro .t_uint8 ((p0.Log.getD (Int.toNat xt9_9h) z_aEnt).Data))] (.cv (.ro .t_uint8 a1)), True, (x21902.length + ([(⟨(p0.Log.getD (Int.toNat xt9_9h) z_aEnt).Epoch, a1⟩ : aEnt)] : List aEnt).length) * 32 ≤ 140737488355328, True]) (S' := ⟨[(1, .P 21900), (2, .P 21901), (3, .cv (.own .t_aEnt 21902)), (7, .cv (.ro .t_aEnt p0.Log)), (8, .I (p0.Log.length : Int)), (9, .I xt9_9h)], [(21900, .raw (d_aRep p0)), (21901, .raw [.I 0, .I 0, .I 0, .N]), (21902, .lst .t_aEnt (x21902 ++ ([(⟨(p0.Log.getD (Int.toNat xt9_9h) z_aEnt).Epoch, a1⟩ : aEnt)] : List aEnt)))]⟩) (And.intro (bytes_Clone_59.ok ha1) (And.intro trivial (And.intro g2 trivial))) ?_
   refine ar0 L 228 [] [] [] (S' := ⟨[(1, .P 21900), (2, .P 21901), (3, .cv (.own .t_aEnt 21902)), (7, .cv (.ro .t_aEnt p0.Log)), (8, .I (p0.Log.length : Int)), (9, .I (IntKind.i64.wrap (xt9_9h + 1)))], [(21900, .raw (d_aRep p0)), (21901, .raw [.I 0, .I 0, .I 0, .N]), (21902, .lst .t_aEnt (x21902 ++ ([(⟨(p0.Log.getD (Int.toNat xt9_9h) z_aEnt).Epoch, a1⟩ : aEnt)] : List aEnt)))]⟩) ?_
   exact ⟨k, Nat.lt_succ_self k, _, _, rfl, h⟩
  refine ff (b := (decide (xt9_9h < (p0.Log.length : Int)))) (decide_eq_false c1) ?_
  refine awp_turn (Turns.trans (Turns.kp (S' := ⟨[(1, .P 21900), (2, .P 21901), (3, .cv (.own .t_aEnt 21902))], [(21900, .raw (d_aRep p0)), (21901, .raw [.I 0, .I 0, .I 0, .N]), (21902, .lst .t_aEnt x21902)]⟩)) (Turns.rn [(21900, 21800), (21901, 21801), (21902, 21802)] (S' := ⟨[(1, .P 21800), (2, .P 21801), (3, .cv (.own .t_aEnt 21802))], [(21800, .raw (d_aRep p0)), (21801, .raw [.I 0, .I 0, .I 0, .N]), (21802, .lst .t_aEnt x21902)]⟩))) ?_
  refine ex (S' := ⟨[(1, .P 21800), (2, .P 21801), (3, .cv (.own .t_aEnt 21802))], [(21800, .raw (d_aRep p0)), (21801, .raw [.I 0, .I 0, .I 0, .N]), (21802, .lst .t_aEnt x21902)]⟩) ?_
  obtain rfl := Option.some.inj h
  exact ⟨rfl, _, rfl, rfl⟩
 ·rintro e S ⟨rfl, x21802, rfl, rfl⟩
  refine ⟨_, Turns.refl, ?_⟩
  refine sr0 L 231 [] [] [] (S' := ⟨[(1, .P 21800), (2, .P 21801)], [(21800, .raw [.I p0.Epoch, .I p0.Vote, .I p0.Commit, .own .t_aEnt 21802]), (21801, .raw [.I 0, .I 0, .I 0, .N]), (21802, .lst .t_aEnt x21802)]⟩) ?_
  refine sr0 L 235 [] [] [] (S' := ⟨[(2, .P 21801)], [(21801, .raw [.I p0.Epoch, .I p0.Vote, .I p0.Commit, .own .t_aEnt 21802]), (21802, .lst .t_aEnt x21802)]⟩) ?_
  refine awp_turn (Turns.trans (Turns.frz 21802 (blk0 := .lst .t_aEnt x21802) (by kernel_rfl) (by kernel_rfl) (S' := ⟨[(2, .P 21801)], [(21801, .raw [.I p0.Epoch, .I p0.Vote, .I p0.Commit, .ro .t_aEnt x21802])]⟩) (by kernel_rfl)) (Turns.rn [(21801, 100)] (S' := ⟨[(2, .P 100)], [(100, .raw [.I p0.Epoch, .I p0.Vote, .I p0.Commit, .ro .t_aEnt x21802])]⟩))) ?_
  refine awp_ret ?_
  obtain rfl := Option.some.inj h
  exact er (.agg [.I p0.Epoch, .I p0.Vote, .I p0.Commit, .ro .t_aEnt x21802])
theorem ballot_replica.ok {K : Nat} {p0 : aRep} {r : aRep} (h : ballot_replica K p0 = some r) : PCall V P 71 [.agg (d_aRep p0)] (.agg [.I r.Epoch, .I r.Vote, .I r.Commit, .ro .t_aEnt r.Log]) := ECall.pcall (eo (fn := Tryz.f71) (n := 26) (m := 100) fun Γ => ballot_replica.body h) (by kernel_rfl)
def ballot_Stand (K : Nat) (p0 : aRep) (p1 : Int) : Option (aRep × Int) := (Option.bind (replog_Right K p0) (fun a1 => (if a1 = true then (Option.bind (ballot_candidate K p1) (fun a2 => (if a2 = true then (if p0.Epoch ≥ 1099511627776 then some ((⟨0, 0, 0, ([] : List aEnt)⟩ : aRep), 19) else (Option.bind (ballot_replica K p0) (fun a3 => some ((⟨(IntKind.i64.wrap (a3.Epoch + 1)), p1, a3.Commit, a3.Log⟩ : aRep), 0)))) else some ((⟨0, 0, 0, ([] : List aEnt)⟩ : aRep), 2)))) else some ((⟨0, 0, 0, ([] : List aEnt)⟩ : aRep), 2))))
theorem ballot_Stand.body {Γ : Ent} {K : Nat} {p0 : aRep} {p1 : Int} {r : aRep × Int} (h : ballot_Stand K p0 p1 = some r) : AWp V P 28 100 Γ (Tryz.f37.body.getD .skip) (EndsE P V Tryz.f37 (.tup [.agg [.I r.1.Epoch, .I r.1.Vote, .I r.1.Commit, .ro .t_aEnt r.1.Log], .I r.2]) []) ⟨args0 0 [.agg (d_aRep p0), .I p1], []⟩ := by
 unfold ballot_Stand at h
 refine sr0 L 200 [] [] [] (S' := ⟨[(1, .I p1), (2, .P 200), (4, .P 201)], [(200, .raw (d_aRep p0)), (201, .raw [.I 0, .I 0, .I 0, .N])]⟩) ?_
 refine awp_seq ?_
 refine awp_seq ?_
 obtain ⟨a1, h1, h⟩ := bind_some h
 rcases ite_some h with ⟨c1, h⟩ | ⟨c1, h⟩
 ·obtain ⟨a2, h2, h⟩ := bind_some h
  refine ar L 204 [(3, false)] [(1, .B a1), (5, .B a2)] [] (cs := [PCall V P 57 [.agg (d_aRep p0)] (.B a1), True, (!a1) = false, PCall V P 70 [.I p1] (.B a2), True]) (S' := ⟨[(1, .I p1), (2, .P 200), (4, .P 201), (13, .B (!a2))], [(200, .raw (d_aRep p0)), (201, .raw [.I 0, .I 0, .I 0, .N])]⟩) (And.intro (replog_Right.ok h1) (And.intro trivial (And.intro (congrArg Bool.not (c1)) (And.intro (ballot_candidate.ok h2) trivial)))) ?_
  rcases ite_some h with ⟨c2, h⟩ | ⟨c2, h⟩
  ·refine ff (b := (!a2)) (congrArg Bool.not (c2)) ?_
   refine awp_skip' ?_
   refine awp_seq ?_
   refine sr0 L 217 [] [] [] (S' := ⟨[(1, .I p1), (2, .P 200), (4, .P 201), (17, .B (decide (p0.Epoch ≥ 1099511627776)))], [(200, .raw (d_aRep p0)), (201, .raw [.I 0, .I 0, .I 0, .N])]⟩) ?_
   rcases ite_some h with ⟨c3, h⟩ | ⟨c3, h⟩
   ·refine tt (b := (decide (p0.Epoch ≥ 1099511627776))) (decide_eq_true c3) ?_
    refine sr0 L 221 [] [] [] (S' := ⟨[(4, .P 201), (5, .I 19)], [(201, .raw [.I 0, .I 0, .I 0, .N])]⟩) ?_
    refine awp_turn (Turns.rn [(201, 100)] (S' := ⟨[(4, .P 100), (5, .I 19)], [(100, .raw [.I 0, .I 0, .I 0, .N])]⟩)) ?_
    refine awp_ret ?_
    obtain rfl := Option.some.inj h
    exact er (.tup [.agg [.I 0, .I 0, .I 0, .N], .I 19])
   refine ff (b := (decide (p0.Epoch ≥ 1099511627776))) (decide_eq_false c3) ?_
   refine awp_skip' ?_
   refine awp_seq ?_
   obtain ⟨a3, h3, h⟩ := bind_some h
   refine ar L 225 [] [(1, .agg (d_aRep a3))] [] (cs := [PCall V P 71 [.agg (d_aRep p0)] (.agg (d_aRep a3)), True]) (S' := ⟨[(1, .I p1), (2, .P 200), (4, .P 201)], [(200, .raw (d_aRep a3)), (201, .raw [.I 0, .I 0, .I 0, .N])]⟩) (And.intro (ballot_replica.ok h3) trivial) ?_
   refine sr0 L 229 [] [] [] (S' := ⟨[(2, .P 200), (4, .P 201)], [(200, .raw [.I (IntKind.i64.wrap (a3.Epoch + 1)), .I p1, .I a3.Commit, .ro .t_aEnt a3.Log]), (201, .raw [.I 0, .I 0, .I 0, .N])]⟩) ?_
   refine sr0 L 238 [] [] [] (S' := ⟨[(4, .P 201), (5, .I 0)], [(201, .raw [.I (IntKind.i64.wrap (a3.Epoch + 1)), .I p1, .I a3.Commit, .ro .t_aEnt a3.Log])]⟩) ?_
   refine awp_turn (Turns.rn [(201, 100)] (S' := ⟨[(4, .P 100), (5, .I 0)], [(100, .raw [.I (IntKind.i64.wrap (a3.Epoch + 1)), .I p1, .I a3.Commit, .ro .t_aEnt a3.Log])]⟩)) ?_
   refine awp_ret ?_
   obtain rfl := Option.some.inj h
   exact er (.tup [.agg [.I (IntKind.i64.wrap (a3.Epoch + 1)), .I p1, .I a3.Commit, .ro .t_aEnt a3.Log], .I 0])
  refine tt (b := (!a2)) (congrArg Bool.not (eq_false_of_ne_true c2)) ?_
  refine sr0 L 213 [] [] [] (S' := ⟨[(4, .P 201), (5, .I 2)], [(201, .raw [.I 0, .I 0, .I 0, .N])]⟩) ?_
  refine awp_turn (Turns.rn [(201, 100)] (S' := ⟨[(4, .P 100), (5, .I 2)], [(100, .raw [.I 0, .I 0, .I 0, .N])]⟩)) ?_
  refine awp_ret ?_
  obtain rfl := Option.some.inj h
  exact er (.tup [.agg [.I 0, .I 0, .I 0, .N], .I 2])
 refine ar L 204 [(3, true)] [(1, .B a1)] [] (cs := [PCall V P 57 [.agg (d_aRep p0)] (.B a1), True, (!a1) = true]) (S' := ⟨[(1, .I p1), (2, .P 200), (4, .P 201), (13, .B true)], [(200, .raw (d_aRep p0)), (201, .raw [.I 0, .I 0, .I 0, .N])]⟩) (And.intro (replog_Right.ok h1) (And.intro trivial (congrArg Bool.not (eq_false_of_ne_true c1)))) ?_
 refine tt (b := true) (rfl) ?_
 refine sr0 L 213 [] [] [] (S' := ⟨[(4, .P 201), (5, .I 2)], [(201, .raw [.I 0, .I 0, .I 0, .N])]⟩) ?_
 refine awp_turn (Turns.rn [(201, 100)] (S' := ⟨[(4, .P 100), (5, .I 2)], [(100, .raw [.I 0, .I 0, .I 0, .N])]⟩)) ?_
 refine awp_ret ?_
 obtain rfl := Option.some.inj h
 exact er (.tup [.agg [.I 0, .I 0, .I 0, .N], .I 2])
theorem ballot_Stand.ok {K : Nat} {p0 : aRep} {p1 : Int} {r : aRep × Int} (h : ballot_Stand K p0 p1 = some r) : PCall V P 37 [.agg (d_aRep p0), .I p1] (.tup [.agg [.I r.1.Epoch, .I r.1.Vote, .I r.1.Commit, .ro .t_aEnt r.1.Log], .I r.2]) := ECall.pcall (eo (fn := Tryz.f37) (n := 28) (m := 100) fun Γ => ballot_Stand.body h) (by kernel_rfl)
def group_copied.l9 (K : Nat) (p0 : aRep) : Nat → Int → (List aEnt) → Option (List aEnt)
 | 0, _, _ => none
 | k + 1, xt11_9h, x21902 => (if xt11_9h < (p0.Log.length : Int) then (if (0 : Int) ≤ xt11_9h ∧ (xt11_9h : Int) < (x21902.length : Int) then (if (Int.toNat xt11_9h) < x21902.length then (Option.bind (bytes_Clone_59 K ((x21902.getD (Int.toNat xt11_9h) z_aEnt).Data)) (fun a1 => group_copied.l9 K p0 k (IntKind.i64.wrap (xt11_9h + 1)) (x21902.set (Int.toNat xt11_9h) (⟨(x21902.getD (Int.toNat xt11_9h) z_aEnt).Epoch, a1⟩ : aEnt)))) else none) else none) else some x21902)
def group_copied (K : Nat) (p0 : aRep) : Option aRep := (if p0.Log.length * 32 ≤ 140737488355328 then (Option.bind (group_copied.l9 K p0 K 0 p0.Log : Option (List aEnt)) (fun x21802 => some (⟨p0.Epoch, p0.Vote, p0.Commit, x21802⟩ : aRep))) else none)
theorem group_copied.body {Γ : Ent} {K : Nat} {p0 : aRep} {r : aRep} (h : group_copied K p0 = some r) : AWp V P 28 100 Γ (Tryz.f62.body.getD .skip) (EndsE P V Tryz.f62 (.agg [.I r.Epoch, .I r.Vote, .I r.Commit, .ro .t_aEnt r.Log]) []) ⟨args0 0 [.agg (d_aRep p0)], []⟩ := by
 unfold group_copied at h
 refine sr0 L 200 [] [] [] (S' := ⟨[(1, .P 200), (2, .P 201)], [(200, .raw (d_aRep p0)), (201, .raw [.I 0, .I 0, .I 0, .N])]⟩) ?_
 refine awp_seq ?_
 obtain ⟨g1, h⟩ := guard_some h
 refine ar L 203 [] [(2, .cv (.ron .t_aEnt p0.Log))] [] (cs := [FCall V P 87 [.cv (.ro .t_aEnt p0.Log)] Tag.t_aEnt p0.Log]) (S' := ⟨[(1, .P 200), (2, .P 201)], [(200, .raw [.I p0.Epoch, .I p0.Vote, .I p0.Commit, .own .t_aEnt 205]), (201, .raw [.I 0, .I 0, .I 0, .N]), (205, .lst .t_aEnt p0.Log)]⟩) (slices_Clone_87.okF (show slices_Clone_87 0 p0.Log = some p0.Log from if_pos g1)) ?_
 refine awp_seq ?_
 refine sr0 L 209 [] [] [] (S' := ⟨[(1, .P 200), (2, .P 201), (10, .I (p0.Log.length : Int)), (11, .I 0)], [(200, .raw [.I p0.Epoch, .I p0.Vote, .I p0.Commit, .own .t_aEnt 205]), (201, .raw [.I 0, .I 0, .I 0, .N]), (205, .lst .t_aEnt p0.Log)]⟩) ?_
 refine awp_block ?_
 refine awp_turn (Turns.trans (Turns.kp (S' := ⟨[(1, .P 200), (2, .P 201), (10, .I (p0.Log.length : Int)), (11, .I 0)], [(200, .raw [.I p0.Epoch, .I p0.Vote, .I p0.Commit, .own .t_aEnt 205]), (201, .raw [.I 0, .I 0, .I 0, .N]), (205, .lst .t_aEnt p0.Log)]⟩)) (Turns.rn [(200, 21900), (201, 21901), (205, 21902)] (S' := ⟨[(1, .P 21900), (2, .P 21901), (10, .I (p0.Log.length : Int)), (11, .I 0)], [(21900, .raw [.I p0.Epoch, .I p0.Vote, .I p0.Commit, .own .t_aEnt 21902]), (21901, .raw [.I 0, .I 0, .I 0, .N]), (21902, .lst .t_aEnt p0.Log)]⟩))) ?_
 refine kp (S' := ⟨[(1, .P 21900), (2, .P 21901), (10, .I (p0.Log.length : Int)), (11, .I 0)], [(21900, .raw [.I p0.Epoch, .I p0.Vote, .I p0.Commit, .own .t_aEnt 21902]), (21901, .raw [.I 0, .I 0, .I 0, .N]), (21902, .lst .t_aEnt p0.Log)]⟩) ?_
 obtain ⟨o1, hp1, h⟩ := bind_some h
 refine awp_conseq (Q' := fun e S => (e = .exit 0 ∧ ∃ x21802 : List aEnt, S = ⟨[(1, .P 21800), (2, .P 21801)], [(21800, .raw [.I p0.Epoch, .I p0.Vote, .I p0.Commit, .own .t_aEnt 21802]), (21801, .raw [.I 0, .I 0, .I 0, .N]), (21802, .lst .t_aEnt x21802)]⟩ ∧ x21802 = o1)) (awp_loop (fun k S => ∃ xt11_9h : Int, ∃ x21902 : List aEnt, S = ⟨[(1, .P 21900), (2, .P 21901), (10, .I (p0.Log.length : Int)), (11, .I xt11_9h)], [(21900, .raw [.I p0.Epoch, .I p0.Vote, .I p0.Commit, .own .t_aEnt 21902]), (21901, .raw [.I 0, .I 0, .I 0, .N]), (21902, .lst .t_aEnt x21902)]⟩ ∧ group_copied.l9 K p0 k xt11_9h x21902 = some o1) ?_ ⟨_, _, rfl, hp1⟩) ?_
 ·clear h hp1
  intro k S hS
  obtain ⟨xt11_9h, x21902, rfl, h⟩ := hS
  cases k with
  | zero => cases h
  | succ k =>
  unfold group_copied.l9 at h
  refine sr0 L 214 [] [] [] (S' := ⟨[(1, .P 21900), (2, .P 21901), (10, .I (p0.Log.length : Int)), (11, .I xt11_9h), (12, .B (decide (xt11_9h < (p0.Log.length : Int))))], [(21900, .raw [.I p0.Epoch, .I p0.Vote, .I p0.Commit, .own .t_aEnt 21902]), (21901, .raw [.I 0, .I 0, .I 0, .N]), (21902, .lst .t_aEnt x21902)]⟩) ?_
  refine awp_seq ?_
  rcases ite_some h with ⟨c1, h⟩ | ⟨c1, h⟩
  ·refine tt (b := (decide (xt11_9h < (p0.Log.length : Int)))) (decide_eq_true c1) ?_
   refine awp_skip' ?_
   refine awp_seq ?_
   refine awp_block ?_
   refine sr0 L 216 [] [] [] (S' := ⟨[(1, .P 21900), (2, .P 21901), (3, .I xt11_9h), (10, .I (p0.Log.length : Int)), (11, .I xt11_9h)], [(21900, .raw [.I p0.Epoch, .I p0.Vote, .I p0.Commit, .own .t_aEnt 21902]), (21901, .raw [.I 0, .I 0, .I 0, .N]), (21902, .lst .t_aEnt x21902)]⟩) ?_
   obtain ⟨g2, h⟩ := guard_some h
   obtain ⟨g3, h⟩ := guard_some h
   obtain ⟨a1, ha1, h⟩ := bind_some h
   refine ad L mixed 219 [] [(9, .cv (.ro .t_uint8 a1))] [] [] 12 (cs := [(0 : Int) ≤ xt11_9h, (xt11_9h : Int) < (x21902.length : Int), (Int.toNat xt11_9h) < x21902.length, PCall V P 59 [.cv (.ro .t_uint8 ((x21902.getD (Int.toNat xt11_9h) z_aEnt).Data))] (.cv (.ro .t_uint8 a1)), True, (0 : Int) ≤ xt11_9h, (xt11_9h : Int) < (x21902.length : Int), (Int.toNat xt11_9h) < x21902.length, True]) (S' := ⟨[(1, .P 21900), (2, .P 21901), (10, .I (p0.Log.length : Int)), (11, .I xt11_9h)], [(21900, .raw [.I p0.Epoch, .I p0.Vote, .I p0.Commit, .own .t_aEnt 21902]), (21901, .raw [.I 0, .I 0, .I 0, .N]), (21902, .lst .t_aEnt (x21902.set (Int.toNat xt11_9h) (⟨(x21902.getD (Int.toNat xt11_9h) z_aEnt).Epoch, a1⟩ : aEnt)))]⟩) (And.intro g2.1 (And.intro g2.2 (And.intro g3 (And.intro (bytes_Clone_59.ok ha1) (And.intro trivial (And.intro g2.1 (And.intro g2.2 (And.intro g3 trivial)))))))) ?_
   refine ar0 L 233 [] [] [] (S' := ⟨[(1, .P 21900), (2, .P 21901), (10, .I (p0.Log.length : Int)), (11, .I (IntKind.i64.wrap (xt11_9h + 1)))], [(21900, .raw [.I p0.Epoch, .I p0.Vote, .I p0.Commit, .own .t_aEnt 21902]), (21901, .raw [.I 0, .I 0, .I 0, .N]), (21902, .lst .t_aEnt (x21902.set (Int.toNat xt11_9h) (⟨(x21902.getD (Int.toNat xt11_9h) z_aEnt).Epoch, a1⟩ : aEnt)))]⟩) ?_
   exact ⟨k, Nat.lt_succ_self k, _, _, rfl, h⟩
  refine ff (b := (decide (xt11_9h < (p0.Log.length : Int)))) (decide_eq_false c1) ?_
  refine awp_turn (Turns.trans (Turns.kp (S' := ⟨[(1, .P 21900), (2, .P 21901)], [(21900, .raw [.I p0.Epoch, .I p0.Vote, .I p0.Commit, .own .t_aEnt 21902]), (21901, .raw [.I 0, .I 0, .I 0, .N]), (21902, .lst .t_aEnt x21902)]⟩)) (Turns.rn [(21900, 21800), (21901, 21801), (21902, 21802)] (S' := ⟨[(1, .P 21800), (2, .P 21801)], [(21800, .raw [.I p0.Epoch, .I p0.Vote, .I p0.Commit, .own .t_aEnt 21802]), (21801, .raw [.I 0, .I 0, .I 0, .N]), (21802, .lst .t_aEnt x21902)]⟩))) ?_
  refine ex (S' := ⟨[(1, .P 21800), (2, .P 21801)], [(21800, .raw [.I p0.Epoch, .I p0.Vote, .I p0.Commit, .own .t_aEnt 21802]), (21801, .raw [.I 0, .I 0, .I 0, .N]), (21802, .lst .t_aEnt x21902)]⟩) ?_
  obtain rfl := Option.some.inj h
  exact ⟨rfl, _, rfl, rfl⟩
 ·rintro e S ⟨rfl, x21802, rfl, rfl⟩
  refine ⟨_, Turns.refl, ?_⟩
  refine sr0 L 236 [] [] [] (S' := ⟨[(2, .P 21801)], [(21801, .raw [.I p0.Epoch, .I p0.Vote, .I p0.Commit, .own .t_aEnt 21802]), (21802, .lst .t_aEnt x21802)]⟩) ?_
  refine awp_turn (Turns.trans (Turns.frz 21802 (blk0 := .lst .t_aEnt x21802) (by kernel_rfl) (by kernel_rfl) (S' := ⟨[(2, .P 21801)], [(21801, .raw [.I p0.Epoch, .I p0.Vote, .I p0.Commit, .ro .t_aEnt x21802])]⟩) (by kernel_rfl)) (Turns.rn [(21801, 100)] (S' := ⟨[(2, .P 100)], [(100, .raw [.I p0.Epoch, .I p0.Vote, .I p0.Commit, .ro .t_aEnt x21802])]⟩))) ?_
  refine awp_ret ?_
  obtain rfl := Option.some.inj h
  exact er (.agg [.I p0.Epoch, .I p0.Vote, .I p0.Commit, .ro .t_aEnt x21802])
theorem group_copied.ok {K : Nat} {p0 : aRep} {r : aRep} (h : group_copied K p0 = some r) : PCall V P 62 [.agg (d_aRep p0)] (.agg [.I r.Epoch, .I r.Vote, .I r.Commit, .ro .t_aEnt r.Log]) := ECall.pcall (eo (fn := Tryz.f62) (n := 28) (m := 100) fun Γ => group_copied.body h) (by kernel_rfl)
def group_Group_clone_v2.l9 (K : Nat) (p0 : group_Group) : Nat → Int → (List aRep) → Option (List aRep)
 | 0, _, _ => none
 | k + 1, xt16_9h, x21902 => (if xt16_9h < (p0.Replicas.length : Int) then (if (0 : Int) ≤ xt16_9h ∧ (xt16_9h : Int) < (x21902.length : Int) then (if (Int.toNat xt16_9h) < x21902.length then (Option.bind (group_copied K (x21902.getD (Int.toNat xt16_9h) z_aRep)) (fun a2 => group_Group_clone_v2.l9 K p0 k (IntKind.i64.wrap (xt16_9h + 1)) (x21902.set (Int.toNat xt16_9h) a2))) else none) else none) else some x21902)
def group_Group_clone_v2 (K : Nat) (p0 : group_Group) : Option ((List Bool) × (List aRep)) := (if p0.Replicas.length * 48 ≤ 140737488355328 then (Option.bind (slices_Clone_61 K p0.Up) (fun a1 => (Option.bind (group_Group_clone_v2.l9 K p0 K 0 p0.Replicas : Option (List aRep)) (fun x21802 => some (a1, x21802))))) else none)
theorem group_Group_clone_v2.body {Γ : Ent} {K : Nat} {p0 : group_Group} {r : (List Bool) × (List aRep)} (h : group_Group_clone_v2 K p0 = some r) : AWp V P 29 100 Γ (Tryz.f30.body.getD .skip) (EndsE P V Tryz.f30 (.agg [.own .t_aRep 100, .ro .t_bool r.1, .I p0.Leader, .I p0.Epoch]) [(100, .lst .t_aRep r.2)]) ⟨args0 0 [.agg (d_group_Group p0)], []⟩ := by
 unfold group_Group_clone_v2 at h
 refine sr0 L 200 [] [] [] (S' := ⟨[(1, .P 200), (2, .P 201)], [(200, .raw (d_group_Group p0)), (201, .raw [.N, .N, .I 0, .I 0])]⟩) ?_
 refine awp_seq ?_
 obtain ⟨g1, h⟩ := guard_some h
 obtain ⟨a1, ha1, h⟩ := bind_some h
 refine ad L mixed 203 [] [(2, .cv (.ron .t_aRep p0.Replicas)), (5, .cv (.ro .t_bool a1))] [] [] 7 (cs := [FCall V P 60 [.cv (.ro .t_aRep p0.Replicas)] Tag.t_aRep p0.Replicas, PCall V P 61 [.cv (.ro .t_bool p0.Up)] (.cv (.ro .t_bool a1)), True]) (S' := ⟨[(1, .P 200), (2, .P 201)], [(200, .raw [.own .t_aRep 205, .ro .t_bool a1, .I p0.Leader, .I p0.Epoch]), (201, .raw [.N, .N, .I 0, .I 0]), (205, .lst .t_aRep p0.Replicas)]⟩) (And.intro (slices_Clone_60.okF (show slices_Clone_60 0 p0.Replicas = some p0.Replicas from if_pos g1)) (And.intro (slices_Clone_61.ok ha1) trivial)) ?_
 refine awp_seq ?_
 refine sr0 L 214 [] [] [] (S' := ⟨[(1, .P 200), (2, .P 201), (14, .cv (.own .t_aRep 205)), (15, .I (p0.Replicas.length : Int)), (16, .I 0)], [(200, .raw [.own .t_aRep 205, .ro .t_bool a1, .I p0.Leader, .I p0.Epoch]), (201, .raw [.N, .N, .I 0, .I 0]), (205, .lst .t_aRep p0.Replicas)]⟩) ?_
 refine awp_block ?_
 refine awp_turn (Turns.trans (Turns.kp (S' := ⟨[(1, .P 200), (2, .P 201), (14, .cv (.own .t_aRep 205)), (15, .I (p0.Replicas.length : Int)), (16, .I 0)], [(200, .raw [.own .t_aRep 205, .ro .t_bool a1, .I p0.Leader, .I p0.Epoch]), (201, .raw [.N, .N, .I 0, .I 0]), (205, .lst .t_aRep p0.Replicas)]⟩)) (Turns.rn [(200, 21900), (201, 21901), (205, 21902)] (S' := ⟨[(1, .P 21900), (2, .P 21901), (14, .cv (.own .t_aRep 21902)), (15, .I (p0.Replicas.length : Int)), (16, .I 0)], [(21900, .raw [.own .t_aRep 21902, .ro .t_bool a1, .I p0.Leader, .I p0.Epoch]), (21901, .raw [.N, .N, .I 0, .I 0]), (21902, .lst .t_aRep p0.Replicas)]⟩))) ?_
 refine kp (S' := ⟨[(1, .P 21900), (2, .P 21901), (14, .cv (.own .t_aRep 21902)), (15, .I (p0.Replicas.length : Int)), (16, .I 0)], [(21900, .raw [.own .t_aRep 21902, .ro .t_bool a1, .I p0.Leader, .I p0.Epoch]), (21901, .raw [.N, .N, .I 0, .I 0]), (21902, .lst .t_aRep p0.Replicas)]⟩) ?_
 obtain ⟨o1, hp1, h⟩ := bind_some h
 refine awp_conseq (Q' := fun e S => (e = .exit 0 ∧ ∃ x21802 : List aRep, S = ⟨[(1, .P 21800), (2, .P 21801)], [(21800, .raw [.own .t_aRep 21802, .ro .t_bool a1, .I p0.Leader, .I p0.Epoch]), (21801, .raw [.N, .N, .I 0, .I 0]), (21802, .lst .t_aRep x21802)]⟩ ∧ x21802 = o1)) (awp_loop (fun k S => ∃ xt16_9h : Int, ∃ x21902 : List aRep, S = ⟨[(1, .P 21900), (2, .P 21901), (14, .cv (.own .t_aRep 21902)), (15, .I (p0.Replicas.length : Int)), (16, .I xt16_9h)], [(21900, .raw [.own .t_aRep 21902, .ro .t_bool a1, .I p0.Leader, .I p0.Epoch]), (21901, .raw [.N, .N, .I 0, .I 0]), (21902, .lst .t_aRep x21902)]⟩ ∧ group_Group_clone_v2.l9 K p0 k xt16_9h x21902 = some o1) ?_ ⟨_, _, rfl, hp1⟩) ?_
 ·clear h hp1
  intro k S hS
  obtain ⟨xt16_9h, x21902, rfl, h⟩ := hS
  cases k with
  | zero => cases h
  | succ k =>
  unfold group_Group_clone_v2.l9 at h
  refine sr0 L 219 [] [] [] (S' := ⟨[(1, .P 21900), (2, .P 21901), (14, .cv (.own .t_aRep 21902)), (15, .I (p0.Replicas.length : Int)), (16, .I xt16_9h), (17, .B (decide (xt16_9h < (p0.Replicas.length : Int))))], [(21900, .raw [.own .t_aRep 21902, .ro .t_bool a1, .I p0.Leader, .I p0.Epoch]), (21901, .raw [.N, .N, .I 0, .I 0]), (21902, .lst .t_aRep x21902)]⟩) ?_
  refine awp_seq ?_
  rcases ite_some h with ⟨c1, h⟩ | ⟨c1, h⟩
  ·refine tt (b := (decide (xt16_9h < (p0.Replicas.length : Int)))) (decide_eq_true c1) ?_
   refine awp_skip' ?_
   refine awp_seq ?_
   refine awp_block ?_
   refine awp_seq ?_
   obtain ⟨g2, h⟩ := guard_some h
   obtain ⟨g3, h⟩ := guard_some h
   refine ar L 221 [] [] [] (cs := [(0 : Int) ≤ xt16_9h, (xt16_9h : Int) < (x21902.length : Int), (Int.toNat xt16_9h) < x21902.length]) (S' := ⟨[(1, .P 21900), (2, .P 21901), (3, .I xt16_9h), (4, .P 224), (14, .cv (.own .t_aRep 21902)), (15, .I (p0.Replicas.length : Int)), (16, .I xt16_9h)], [(224, .raw (d_aRep (x21902.getD (Int.toNat xt16_9h) z_aRep))), (21900, .raw [.own .t_aRep 21902, .ro .t_bool a1, .I p0.Leader, .I p0.Epoch]), (21901, .raw [.N, .N, .I 0, .I 0]), (21902, .lst .t_aRep x21902)]⟩) (And.intro g2.1 (And.intro g2.2 g3)) ?_
   obtain ⟨a2, h1, h⟩ := bind_some h
   refine ad L mixed 228 [] [(4, .agg (d_aRep a2))] [] [] 6 (cs := [PCall V P 62 [.agg (d_aRep (x21902.getD (Int.toNat xt16_9h) z_aRep))] (.agg (d_aRep a2)), True, (0 : Int) ≤ xt16_9h, (xt16_9h : Int) < (x21902.length : Int), (Int.toNat xt16_9h) < x21902.length, True]) (S' := ⟨[(1, .P 21900), (2, .P 21901), (14, .cv (.own .t_aRep 21902)), (15, .I (p0.Replicas.length : Int)), (16, .I xt16_9h)], [(21900, .raw [.own .t_aRep 21902, .ro .t_bool a1, .I p0.Leader, .I p0.Epoch]), (21901, .raw [.N, .N, .I 0, .I 0]), (21902, .lst .t_aRep (x21902.set (Int.toNat xt16_9h) a2))]⟩) (And.intro (group_copied.ok h1) (And.intro trivial (And.intro g2.1 (And.intro g2.2 (And.intro g3 trivial))))) ?_
   refine ar0 L 236 [] [] [] (S' := ⟨[(1, .P 21900), (2, .P 21901), (14, .cv (.own .t_aRep 21902)), (15, .I (p0.Replicas.length : Int)), (16, .I (IntKind.i64.wrap (xt16_9h + 1)))], [(21900, .raw [.own .t_aRep 21902, .ro .t_bool a1, .I p0.Leader, .I p0.Epoch]), (21901, .raw [.N, .N, .I 0, .I 0]), (21902, .lst .t_aRep (x21902.set (Int.toNat xt16_9h) a2))]⟩) ?_
   exact ⟨k, Nat.lt_succ_self k, _, _, rfl, h⟩
  refine ff (b := (decide (xt16_9h < (p0.Replicas.length : Int)))) (decide_eq_false c1) ?_
  refine awp_turn (Turns.trans (Turns.kp (S' := ⟨[(1, .P 21900), (2, .P 21901)], [(21900, .raw [.own .t_aRep 21902, .ro .t_bool a1, .I p0.Leader, .I p0.Epoch]), (21901, .raw [.N, .N, .I 0, .I 0]), (21902, .lst .t_aRep x21902)]⟩)) (Turns.rn [(21900, 21800), (21901, 21801), (21902, 21802)] (S' := ⟨[(1, .P 21800), (2, .P 21801)], [(21800, .raw [.own .t_aRep 21802, .ro .t_bool a1, .I p0.Leader, .I p0.Epoch]), (21801, .raw [.N, .N, .I 0, .I 0]), (21802, .lst .t_aRep x21902)]⟩))) ?_
  refine ex (S' := ⟨[(1, .P 21800), (2, .P 21801)], [(21800, .raw [.own .t_aRep 21802, .ro .t_bool a1, .I p0.Leader, .I p0.Epoch]), (21801, .raw [.N, .N, .I 0, .I 0]), (21802, .lst .t_aRep x21902)]⟩) ?_
  obtain rfl := Option.some.inj h
  exact ⟨rfl, _, rfl, rfl⟩
 ·rintro e S ⟨rfl, x21802, rfl, rfl⟩
  refine ⟨_, Turns.refl, ?_⟩
  refine sr0 L 239 [] [] [] (S' := ⟨[(2, .P 21801)], [(21801, .raw [.own .t_aRep 21802, .ro .t_bool a1, .I p0.Leader, .I p0.Epoch]), (21802, .lst .t_aRep x21802)]⟩) ?_
  refine awp_turn (Turns.rn [(21801, 101), (21802, 100)] (S' := ⟨[(2, .P 101)], [(101, .raw [.own .t_aRep 100, .ro .t_bool a1, .I p0.Leader, .I p0.Epoch]), (100, .lst .t_aRep x21802)]⟩)) ?_
  refine awp_ret ?_
  obtain rfl := Option.some.inj h
  exact er (.agg [.own .t_aRep 100, .ro .t_bool a1, .I p0.Leader, .I p0.Epoch])
theorem group_Group_clone_v2.okE {K : Nat} {p0 : group_Group} {r : (List Bool) × (List aRep)} (h : group_Group_clone_v2 K p0 = some r) : ECall V P 30 [.agg (d_group_Group p0)] [] [] (.agg [.own .t_aRep 100, .ro .t_bool r.1, .I p0.Leader, .I p0.Epoch]) [(100, .lst .t_aRep r.2)] :=
 eo (fn := Tryz.f30) (n := 29) (m := 100) fun Γ => group_Group_clone_v2.body h
def replog_Last (K : Nat) (p0 : aRep) : Option (Int × Int) := (if (p0.Log.length : Int) = 0 then some (0, 0) else (if (0 : Int) ≤ (IntKind.i64.wrap ((p0.Log.length : Int) - 1)) ∧ ((IntKind.i64.wrap ((p0.Log.length : Int) - 1)) : Int) < (p0.Log.length : Int) then some (((p0.Log.length : Int), (p0.Log.getD (Int.toNat (IntKind.i64.wrap ((p0.Log.length : Int) - 1))) z_aEnt).Epoch)) else none))
theorem replog_Last.body {Γ : Ent} {K : Nat} {p0 : aRep} {r : Int × Int} (h : replog_Last K p0 = some r) : AWp V P 18 100 Γ (Tryz.f38.body.getD .skip) (EndsE P V Tryz.f38 (.tup [.I r.1, .I r.2]) []) ⟨args0 0 [.agg (d_aRep p0)], []⟩ := by
 unfold replog_Last at h
 refine sr0 L 200 [] [] [] (S' := ⟨[(1, .P 200)], [(200, .raw (d_aRep p0))]⟩) ?_
 refine sr0 L 204 [] [] [] (S' := ⟨[(1, .P 200), (4, .I (p0.Log.length : Int))], [(200, .raw (d_aRep p0))]⟩) ?_
 refine awp_seq ?_
 refine sr0 L 209 [] [] [] (S' := ⟨[(1, .P 200), (4, .I (p0.Log.length : Int)), (9, .B (decide ((p0.Log.length : Int) = 0)))], [(200, .raw (d_aRep p0))]⟩) ?_
 rcases ite_some h with ⟨c1, h⟩ | ⟨c1, h⟩
 ·refine tt (b := (decide ((p0.Log.length : Int) = 0))) (decide_eq_true c1) ?_
  refine sr0 L 212 [] [] [] (S' := ⟨[(2, .I 0), (3, .I 0)], []⟩) ?_
  refine awp_ret ?_
  obtain rfl := Option.some.inj h
  exact er (.tup [.I 0, .I 0])
 refine ff (b := (decide ((p0.Log.length : Int) = 0))) (decide_eq_false c1) ?_
 refine awp_skip' ?_
 refine awp_seq ?_
 obtain ⟨g1, h⟩ := guard_some h
 refine ad L mixed 215 [] [] [] [] 10 (cs := [(0 : Int) ≤ (IntKind.i64.wrap ((p0.Log.length : Int) - 1)), ((IntKind.i64.wrap ((p0.Log.length : Int) - 1)) : Int) < (p0.Log.length : Int)]) (S' := ⟨[(2, .I (p0.Log.length : Int)), (3, .I ((p0.Log.getD (Int.toNat (IntKind.i64.wrap ((p0.Log.length : Int) - 1))) z_aEnt).Epoch))], []⟩) (And.intro g1.1 g1.2) ?_
 refine awp_ret ?_
 obtain rfl := Option.some.inj h
 exact er (.tup [.I (p0.Log.length : Int), .I ((p0.Log.getD (Int.toNat (IntKind.i64.wrap ((p0.Log.length : Int) - 1))) z_aEnt).Epoch)])
theorem replog_Last.ok {K : Nat} {p0 : aRep} {r : Int × Int} (h : replog_Last K p0 = some r) : PCall V P 38 [.agg (d_aRep p0)] (.tup [.I r.1, .I r.2]) := ECall.pcall (eo (fn := Tryz.f38) (n := 18) (m := 100) fun Γ => replog_Last.body h) (by kernel_rfl)
def slices_Index_93.l7 (K : Nat) (p0 : List Int) (p1 : Int) : Nat → Int → Option (Out Int Unit)
 | 0, _ => none
 | k + 1, xt8_7h => (if xt8_7h < (p0.length : Int) then (if (0 : Int) ≤ xt8_7h ∧ (xt8_7h : Int) < (p0.length : Int) then (if p1 = (p0.getD (Int.toNat xt8_7h) (0 : Int)) then some (Out.done xt8_7h) else slices_Index_93.l7 K p0 p1 k (IntKind.i64.wrap (xt8_7h + 1))) else none) else some (Out.go ()))
def slices_Index_93 (K : Nat) (p0 : List Int) (p1 : Int) : Option Int := (obind (slices_Index_93.l7 K p0 p1 K 0 : Option (Out Int Unit)) (fun r => r) (fun _ => some (-1)))
theorem slices_Index_93.body {Γ : Ent} {K : Nat} {p0 : List Int} {p1 : Int} {r : Int} (h : slices_Index_93 K p0 p1 = some r) : AWp V P 19 100 Γ (Tryz.f93.body.getD .skip) (EndsE P V Tryz.f93 (.I r) []) ⟨args0 0 [.cv (.ro .t_int p0), .I p1], []⟩ := by
 unfold slices_Index_93 at h
 refine sr0 L 200 [] [] [] (S' := ⟨[(0, .cv (.ro .t_int p0)), (1, .I p1)], []⟩) ?_
 refine awp_seq ?_
 refine sr0 L 202 [] [] [] (S' := ⟨[(0, .cv (.ro .t_int p0)), (1, .I p1), (7, .I (p0.length : Int)), (8, .I 0)], []⟩) ?_
 refine awp_block ?_
 refine kp (S' := ⟨[(0, .cv (.ro .t_int p0)), (1, .I p1), (7, .I (p0.length : Int)), (8, .I 0)], []⟩) ?_
 obtain ⟨o1, hp1, h⟩ := obind_some h
 refine awp_conseq (Q' := fun e S => (e = .exit 0 ∧ S = ⟨[], []⟩ ∧ Out.go () = o1) ∨ (e = .ret ∧ ∃ a, Out.done a = o1 ∧ EndsE P V Tryz.f93 (.I a) [] .ret S)) (awp_loop (fun k S => ∃ xt8_7h : Int, S = ⟨[(0, .cv (.ro .t_int p0)), (1, .I p1), (7, .I (p0.length : Int)), (8, .I xt8_7h)], []⟩ ∧ slices_Index_93.l7 K p0 p1 k xt8_7h = some o1) ?_ ⟨_, rfl, hp1⟩) ?_
 ·clear h hp1
  intro k S hS
  obtain ⟨xt8_7h, rfl, h⟩ := hS
  cases k with
  | zero => cases h
  | succ k =>
  unfold slices_Index_93.l7 at h
  refine sr0 L 206 [] [] [] (S' := ⟨[(0, .cv (.ro .t_int p0)), (1, .I p1), (7, .I (p0.length : Int)), (8, .I xt8_7h), (9, .B (decide (xt8_7h < (p0.length : Int))))], []⟩) ?_
  refine awp_seq ?_
  rcases ite_some h with ⟨c1, h⟩ | ⟨c1, h⟩
  ·refine tt (b := (decide (xt8_7h < (p0.length : Int)))) (decide_eq_true c1) ?_
   refine awp_skip' ?_
   refine awp_seq ?_
   refine awp_block ?_
   refine sr0 L 208 [] [] [] (S' := ⟨[(0, .cv (.ro .t_int p0)), (1, .I p1), (5, .I xt8_7h), (7, .I (p0.length : Int)), (8, .I xt8_7h)], []⟩) ?_
   refine awp_seq ?_
   obtain ⟨g1, h⟩ := guard_some h
   refine ar L 211 [] [] [] (cs := [(0 : Int) ≤ xt8_7h, (xt8_7h : Int) < (p0.length : Int)]) (S' := ⟨[(0, .cv (.ro .t_int p0)), (1, .I p1), (5, .I xt8_7h), (7, .I (p0.length : Int)), (8, .I xt8_7h), (16, .B (decide (p1 = (p0.getD (Int.toNat xt8_7h) (0 : Int)))))], []⟩) (And.intro g1.1 g1.2) ?_
   rcases ite_some h with ⟨c2, h⟩ | ⟨c2, h⟩
   ·refine tt (b := (decide (p1 = (p0.getD (Int.toNat xt8_7h) (0 : Int))))) (decide_eq_true c2) ?_
    refine sr0 L 218 [] [] [] (S' := ⟨[(4, .I xt8_7h)], []⟩) ?_
    refine awp_ret ?_
    obtain rfl := Option.some.inj h
    exact .inr ⟨rfl, _, rfl, er (.I xt8_7h)⟩
   refine ff (b := (decide (p1 = (p0.getD (Int.toNat xt8_7h) (0 : Int))))) (decide_eq_false c2) ?_
   refine awp_skip' ?_
   refine ar0 L 221 [] [] [] (S' := ⟨[(0, .cv (.ro .t_int p0)), (1, .I p1), (7, .I (p0.length : Int)), (8, .I (IntKind.i64.wrap (xt8_7h + 1)))], []⟩) ?_
   exact ⟨k, Nat.lt_succ_self k, _, rfl, h⟩
  refine ff (b := (decide (xt8_7h < (p0.length : Int)))) (decide_eq_false c1) ?_
  refine ex (S' := ⟨[], []⟩) ?_
  obtain rfl := Option.some.inj h
  exact .inl ⟨rfl, rfl, rfl⟩
 ·rintro e S (⟨rfl, rfl, rfl⟩ | ⟨rfl, a, rfl, hr⟩)
  ·rcases h with ⟨_, e1, h⟩ | ⟨_, e1, h⟩
   ·cases e1
   ·have e2 := Out.go.inj e1
    subst e2
    refine ⟨_, Turns.refl, ?_⟩
    refine sr0 L 224 [] [] [] (S' := ⟨[(4, .I (-1))], []⟩) ?_
    refine awp_ret ?_
    obtain rfl := Option.some.inj h
    exact er (.I (-1))
  ·rcases h with ⟨_, e1, h⟩ | ⟨_, e1, h⟩
   ·have e2 := Out.done.inj e1
    subst e2
    subst h
    exact ⟨_, Turns.refl, hr⟩
   ·cases e1
theorem slices_Index_93.ok {K : Nat} {p0 : List Int} {p1 : Int} {r : Int} (h : slices_Index_93 K p0 p1 = some r) : PCall V P 93 [.cv (.ro .t_int p0), .I p1] (.I r) := ECall.pcall (eo (fn := Tryz.f93) (n := 19) (m := 100) fun Γ => slices_Index_93.body h) (by kernel_rfl)
def slices_Contains_72 (K : Nat) (p0 : List Int) (p1 : Int) : Option Bool := (Option.bind (slices_Index_93 K p0 p1) (fun a1 => some (decide (a1 ≥ 0))))
theorem slices_Contains_72.body {Γ : Ent} {K : Nat} {p0 : List Int} {p1 : Int} {r : Bool} (h : slices_Contains_72 K p0 p1 = some r) : AWp V P 9 100 Γ (Tryz.f72.body.getD .skip) (EndsE P V Tryz.f72 (.B r) []) ⟨args0 0 [.cv (.ro .t_int p0), .I p1], []⟩ := by
 unfold slices_Contains_72 at h
 refine sr0 L 200 [] [] [] (S' := ⟨[(0, .cv (.ro .t_int p0)), (1, .I p1)], []⟩) ?_
 refine awp_seq ?_
 obtain ⟨a1, h1, h⟩ := bind_some h
 refine ar L 202 [] [(2, .I a1)] [] (cs := [PCall V P 93 [.cv (.ro .t_int p0), .I p1] (.I a1), True]) (S' := ⟨[(4, .B (decide (a1 ≥ 0)))], []⟩) (And.intro (slices_Index_93.ok h1) trivial) ?_
 refine awp_ret ?_
 obtain rfl := Option.some.inj h
 exact er (.B (decide (a1 ≥ 0)))
theorem slices_Contains_72.ok {K : Nat} {p0 : List Int} {p1 : Int} {r : Bool} (h : slices_Contains_72 K p0 p1 = some r) : PCall V P 72 [.cv (.ro .t_int p0), .I p1] (.B r) := ECall.pcall (eo (fn := Tryz.f72) (n := 9) (m := 100) fun Γ => slices_Contains_72.body h) (by kernel_rfl)
def group_Group_others.l9 (K : Nat) (p0 : group_Group) (p1 : Int) (p2 : List Int) : Nat → Int → (List Int) → Option (List Int)
 | 0, _, _ => none
 | k + 1, xt12_9h, x21901 => (if xt12_9h < (p0.Replicas.length : Int) then (if xt12_9h ≠ p1 then (if (0 : Int) ≤ xt12_9h ∧ (xt12_9h : Int) < (p0.Up.length : Int) then (if (p0.Up.getD (Int.toNat xt12_9h) false) = true then (Option.bind (slices_Contains_72 K p2 xt12_9h) (fun a1 => (if a1 = true then (if (x21901.length + ([xt12_9h] : List Int).length) * 8 ≤ 140737488355328 then group_Group_others.l9 K p0 p1 p2 k (IntKind.i64.wrap (xt12_9h + 1)) (x21901 ++ ([xt12_9h] : List Int)) else none) else group_Group_others.l9 K p0 p1 p2 k (IntKind.i64.wrap (xt12_9h + 1)) x21901))) else group_Group_others.l9 K p0 p1 p2 k (IntKind.i64.wrap (xt12_9h + 1)) x21901) else none) else group_Group_others.l9 K p0 p1 p2 k (IntKind.i64.wrap (xt12_9h + 1)) x21901) else some x21901)
def group_Group_others (K : Nat) (p0 : group_Group) (p1 : Int) (p2 : List Int) : Option (List Int) := (Option.bind (group_Group_others.l9 K p0 p1 p2 K 0 ([] : List Int) : Option (List Int)) (fun x21800 => some x21800))
theorem group_Group_others.body {Γ : Ent} {K : Nat} {p0 : group_Group} {p1 : Int} {p2 : List Int} {r : List Int} (h : group_Group_others K p0 p1 p2 = some r) : AWp V P 36 100 Γ (Tryz.f39.body.getD .skip) (EndsE P V Tryz.f39 (.cv (.ro .t_int r)) []) ⟨args0 0 [.agg (d_group_Group p0), .I p1, .cv (.ro .t_int p2)], []⟩ := by
 unfold group_Group_others at h
 refine sr0 L 200 [] [] [] (S' := ⟨[(1, .I p1), (2, .cv (.ro .t_int p2)), (3, .P 200)], [(200, .raw (d_group_Group p0))]⟩) ?_
 refine sr0 L 203 [] [] [] (S' := ⟨[(1, .I p1), (2, .cv (.ro .t_int p2)), (3, .P 200), (7, .N)], [(200, .raw (d_group_Group p0))]⟩) ?_
 refine awp_seq ?_
 refine sr0 L 205 [] [] [] (S' := ⟨[(1, .I p1), (2, .cv (.ro .t_int p2)), (3, .P 200), (7, .N), (11, .I (p0.Replicas.length : Int)), (12, .I 0)], [(200, .raw (d_group_Group p0))]⟩) ?_
 refine awp_block ?_
 refine awp_turn (Turns.trans (Turns.kp (S' := ⟨[(1, .I p1), (2, .cv (.ro .t_int p2)), (3, .P 200), (7, .N), (11, .I (p0.Replicas.length : Int)), (12, .I 0)], [(200, .raw (d_group_Group p0))]⟩)) (Turns.trans (Turns.nilown 7 9500 Tag.t_int (by kernel_rfl) (by kernel_rfl) (S' := ⟨[(7, .cv (.own .t_int 9500)), (1, .I p1), (2, .cv (.ro .t_int p2)), (3, .P 200), (11, .I (p0.Replicas.length : Int)), (12, .I 0)], [(9500, .lst .t_int ([] : List Int)), (200, .raw (d_group_Group p0))]⟩) (by kernel_rfl)) (Turns.trans (Turns.kp (S' := ⟨[(1, .I p1), (2, .cv (.ro .t_int p2)), (3, .P 200), (7, .cv (.own .t_int 9500)), (11, .I (p0.Replicas.length : Int)), (12, .I 0)], [(200, .raw (d_group_Group p0)), (9500, .lst .t_int ([] : List Int))]⟩)) (Turns.rn [(200, 21900), (9500, 21901)] (S' := ⟨[(1, .I p1), (2, .cv (.ro .t_int p2)), (3, .P 21900), (7, .cv (.own .t_int 21901)), (11, .I (p0.Replicas.length : Int)), (12, .I 0)], [(21900, .raw (d_group_Group p0)), (21901, .lst .t_int ([] : List Int))]⟩))))) ?_
 refine kp (S' := ⟨[(1, .I p1), (2, .cv (.ro .t_int p2)), (3, .P 21900), (7, .cv (.own .t_int 21901)), (11, .I (p0.Replicas.length : Int)), (12, .I 0)], [(21900, .raw (d_group_Group p0)), (21901, .lst .t_int ([] : List Int))]⟩) ?_
 obtain ⟨o1, hp1, h⟩ := bind_some h
 refine awp_conseq (Q' := fun e S => (e = .exit 0 ∧ ∃ x21800 : List Int, S = ⟨[(7, .cv (.own .t_int 21800))], [(21800, .lst .t_int x21800)]⟩ ∧ x21800 = o1)) (awp_loop (fun k S => ∃ xt12_9h : Int, ∃ x21901 : List Int, S = ⟨[(1, .I p1), (2, .cv (.ro .t_int p2)), (3, .P 21900), (7, .cv (.own .t_int 21901)), (11, .I (p0.Replicas.length : Int)), (12, .I xt12_9h)], [(21900, .raw (d_group_Group p0)), (21901, .lst .t_int x21901)]⟩ ∧ group_Group_others.l9 K p0 p1 p2 k xt12_9h x21901 = some o1) ?_ ⟨_, _, rfl, hp1⟩) ?_
 ·clear h hp1
  intro k S hS
  obtain ⟨xt12_9h, x21901, rfl, h⟩ := hS
  cases k with
  | zero => cases h
  | succ k =>
  unfold group_Group_others.l9 at h
  refine sr0 L 210 [] [] [] (S' := ⟨[(1, .I p1), (2, .cv (.ro .t_int p2)), (3, .P 21900), (7, .cv (.own .t_int 21901)), (11, .I (p0.Replicas.length : Int)), (12, .I xt12_9h), (13, .B (decide (xt12_9h < (p0.Replicas.length : Int))))], [(21900, .raw (d_group_Group p0)), (21901, .lst .t_int x21901)]⟩) ?_
  refine awp_seq ?_
  rcases ite_some h with ⟨c1, h⟩ | ⟨c1, h⟩
  ·refine tt (b := (decide (xt12_9h < (p0.Replicas.length : Int)))) (decide_eq_true c1) ?_
   refine awp_skip' ?_
   refine awp_seq ?_
   refine awp_block ?_
   refine sr0 L 212 [] [] [] (S' := ⟨[(1, .I p1), (2, .cv (.ro .t_int p2)), (3, .P 21900), (7, .cv (.own .t_int 21901)), (8, .I xt12_9h), (11, .I (p0.Replicas.length : Int)), (12, .I xt12_9h)], [(21900, .raw (d_group_Group p0)), (21901, .lst .t_int x21901)]⟩) ?_
   refine awp_seq ?_
   rcases ite_some h with ⟨c2, h⟩ | ⟨c2, h⟩
   ·obtain ⟨g1, h⟩ := guard_some h
    rcases ite_some h with ⟨c3, h⟩ | ⟨c3, h⟩
    ·obtain ⟨a1, h1, h⟩ := bind_some h
     refine ar L 215 [(3, true), (10, true)] [(13, .B a1)] [] (cs := [(decide (xt12_9h ≠ p1)) = true, (0 : Int) ≤ xt12_9h, (xt12_9h : Int) < (p0.Up.length : Int), (p0.Up.getD (Int.toNat xt12_9h) false) = true, PCall V P 72 [.cv (.ro .t_int p2), .I xt12_9h] (.B a1), True]) (S' := ⟨[(1, .I p1), (2, .cv (.ro .t_int p2)), (3, .P 21900), (7, .cv (.own .t_int 21901)), (8, .I xt12_9h), (11, .I (p0.Replicas.length : Int)), (12, .I xt12_9h), (29, .B a1)], [(21900, .raw (d_group_Group p0)), (21901, .lst .t_int x21901)]⟩) (And.intro (decide_eq_true c2) (And.intro g1.1 (And.intro g1.2 (And.intro c3 (And.intro (slices_Contains_72.ok h1) trivial))))) ?_
     rcases ite_some h with ⟨c4, h⟩ | ⟨c4, h⟩
     ·refine tt (b := a1) (c4) ?_
      obtain ⟨g2, h⟩ := guard_some h
      refine ar L 231 [] [] [] (cs := [(x21901.length + ([xt12_9h] : List Int).length) * 8 ≤ 140737488355328, True]) (S' := ⟨[(1, .I p1), (2, .cv (.ro .t_int p2)), (3, .P 21900), (7, .cv (.own .t_int 21901)), (11, .I (p0.Replicas.length : Int)), (12, .I xt12_9h)], [(21900, .raw (d_group_Group p0)), (21901, .lst .t_int (x21901 ++ ([xt12_9h] : List Int)))]⟩) (And.intro g2 trivial) ?_
      refine ar0 L 237 [] [] [] (S' := ⟨[(1, .I p1), (2, .cv (.ro .t_int p2)), (3, .P 21900), (7, .cv (.own .t_int 21901)), (11, .I (p0.Replicas.length : Int)), (12, .I (IntKind.i64.wrap (xt12_9h + 1)))], [(21900, .raw (d_group_Group p0)), (21901, .lst .t_int (x21901 ++ ([xt12_9h] : List Int)))]⟩) ?_
      exact ⟨k, Nat.lt_succ_self k, _, _, rfl, h⟩
     refine ff (b := a1) (eq_false_of_ne_true c4) ?_
     refine awp_skip' ?_
     refine ar0 L 237 [] [] [] (S' := ⟨[(1, .I p1), (2, .cv (.ro .t_int p2)), (3, .P 21900), (7, .cv (.own .t_int 21901)), (11, .I (p0.Replicas.length : Int)), (12, .I (IntKind.i64.wrap (xt12_9h + 1)))], [(21900, .raw (d_group_Group p0)), (21901, .lst .t_int x21901)]⟩) ?_
     exact ⟨k, Nat.lt_succ_self k, _, _, rfl, h⟩
    refine ar L 215 [(3, true), (10, false)] [] [] (cs := [(decide (xt12_9h ≠ p1)) = true, (0 : Int) ≤ xt12_9h, (xt12_9h : Int) < (p0.Up.length : Int), (p0.Up.getD (Int.toNat xt12_9h) false) = false]) (S' := ⟨[(1, .I p1), (2, .cv (.ro .t_int p2)), (3, .P 21900), (7, .cv (.own .t_int 21901)), (8, .I xt12_9h), (11, .I (p0.Replicas.length : Int)), (12, .I xt12_9h), (29, .B false)], [(21900, .raw (d_group_Group p0)), (21901, .lst .t_int x21901)]⟩) (And.intro (decide_eq_true c2) (And.intro g1.1 (And.intro g1.2 (eq_false_of_ne_true c3)))) ?_
    refine ff (b := false) (rfl) ?_
    refine awp_skip' ?_
    refine ar0 L 237 [] [] [] (S' := ⟨[(1, .I p1), (2, .cv (.ro .t_int p2)), (3, .P 21900), (7, .cv (.own .t_int 21901)), (11, .I (p0.Replicas.length : Int)), (12, .I (IntKind.i64.wrap (xt12_9h + 1)))], [(21900, .raw (d_group_Group p0)), (21901, .lst .t_int x21901)]⟩) ?_
    exact ⟨k, Nat.lt_succ_self k, _, _, rfl, h⟩
   refine ar L 215 [(3, false)] [] [] (cs := [(decide (xt12_9h ≠ p1)) = false]) (S' := ⟨[(1, .I p1), (2, .cv (.ro .t_int p2)), (3, .P 21900), (7, .cv (.own .t_int 21901)), (8, .I xt12_9h), (11, .I (p0.Replicas.length : Int)), (12, .I xt12_9h), (29, .B false)], [(21900, .raw (d_group_Group p0)), (21901, .lst .t_int x21901)]⟩) (decide_eq_false c2) ?_
   refine ff (b := false) (rfl) ?_
   refine awp_skip' ?_
   refine ar0 L 237 [] [] [] (S' := ⟨[(1, .I p1), (2, .cv (.ro .t_int p2)), (3, .P 21900), (7, .cv (.own .t_int 21901)), (11, .I (p0.Replicas.length : Int)), (12, .I (IntKind.i64.wrap (xt12_9h + 1)))], [(21900, .raw (d_group_Group p0)), (21901, .lst .t_int x21901)]⟩) ?_
   exact ⟨k, Nat.lt_succ_self k, _, _, rfl, h⟩
  refine ff (b := (decide (xt12_9h < (p0.Replicas.length : Int)))) (decide_eq_false c1) ?_
  refine awp_turn (Turns.trans (Turns.kp (S' := ⟨[(7, .cv (.own .t_int 21901))], [(21901, .lst .t_int x21901)]⟩)) (Turns.rn [(21901, 21800)] (S' := ⟨[(7, .cv (.own .t_int 21800))], [(21800, .lst .t_int x21901)]⟩))) ?_
  refine ex (S' := ⟨[(7, .cv (.own .t_int 21800))], [(21800, .lst .t_int x21901)]⟩) ?_
  obtain rfl := Option.some.inj h
  exact ⟨rfl, _, rfl, rfl⟩
 ·rintro e S ⟨rfl, x21800, rfl, rfl⟩
  refine ⟨_, Turns.refl, ?_⟩
  refine sr0 L 240 [] [] [] (S' := ⟨[(6, .cv (.own .t_int 21800))], [(21800, .lst .t_int x21800)]⟩) ?_
  refine awp_turn (Turns.frz 21800 (blk0 := .lst .t_int x21800) (by kernel_rfl) (by kernel_rfl) (S' := ⟨[(6, .cv (.ro .t_int x21800))], []⟩) (by kernel_rfl)) ?_
  refine awp_ret ?_
  obtain rfl := Option.some.inj h
  exact er (.cv (.ro .t_int x21800))
theorem group_Group_others.ok {K : Nat} {p0 : group_Group} {p1 : Int} {p2 : List Int} {r : List Int} (h : group_Group_others K p0 p1 p2 = some r) : PCall V P 39 [.agg (d_group_Group p0), .I p1, .cv (.ro .t_int p2)] (.cv (.ro .t_int r)) := ECall.pcall (eo (fn := Tryz.f39) (n := 36) (m := 100) fun Γ => group_Group_others.body h) (by kernel_rfl)
def group_Group_others_v2.l9 (K : Nat) (p0 : group_Group) (p1 : Int) (p2 : List Int) : Nat → Int → (List Int) → Option (List Int)
 | 0, _, _ => none
 | k + 1, xt12_9h, x21901 => (if xt12_9h < (p0.Replicas.length : Int) then (if xt12_9h ≠ p1 then (if (0 : Int) ≤ xt12_9h ∧ (xt12_9h : Int) < (p0.Up.length : Int) then (if (p0.Up.getD (Int.toNat xt12_9h) false) = true then (Option.bind (slices_Contains_72 K p2 xt12_9h) (fun a1 => (if a1 = true then (if (x21901.length + ([xt12_9h] : List Int).length) * 8 ≤ 140737488355328 then group_Group_others_v2.l9 K p0 p1 p2 k (IntKind.i64.wrap (xt12_9h + 1)) (x21901 ++ ([xt12_9h] : List Int)) else none) else group_Group_others_v2.l9 K p0 p1 p2 k (IntKind.i64.wrap (xt12_9h + 1)) x21901))) else group_Group_others_v2.l9 K p0 p1 p2 k (IntKind.i64.wrap (xt12_9h + 1)) x21901) else none) else group_Group_others_v2.l9 K p0 p1 p2 k (IntKind.i64.wrap (xt12_9h + 1)) x21901) else some x21901)
def group_Group_others_v2 (K : Nat) (p0 : group_Group) (p1 : Int) (p2 : List Int) : Option (List Int) := (Option.bind (group_Group_others_v2.l9 K p0 p1 p2 K 0 ([] : List Int) : Option (List Int)) (fun x21800 => some x21800))
theorem group_Group_others_v2.body {Γ : Ent} {K : Nat} {p0 : group_Group} {p1 : Int} {p2 : List Int} {r : List Int} (h : group_Group_others_v2 K p0 p1 p2 = some r) : AWp V P 36 100 Γ (Tryz.f39.body.getD .skip) (EndsE P V Tryz.f39 (.cv (.own .t_int 100)) [(100, .lst .t_int r)]) ⟨args0 0 [.agg (d_group_Group p0), .I p1, .cv (.ro .t_int p2)], []⟩ := by
 unfold group_Group_others_v2 at h
 refine sr0 L 200 [] [] [] (S' := ⟨[(1, .I p1), (2, .cv (.ro .t_int p2)), (3, .P 200)], [(200, .raw (d_group_Group p0))]⟩) ?_
 refine sr0 L 203 [] [] [] (S' := ⟨[(1, .I p1), (2, .cv (.ro .t_int p2)), (3, .P 200), (7, .N)], [(200, .raw (d_group_Group p0))]⟩) ?_
 refine awp_seq ?_
 refine sr0 L 205 [] [] [] (S' := ⟨[(1, .I p1), (2, .cv (.ro .t_int p2)), (3, .P 200), (7, .N), (11, .I (p0.Replicas.length : Int)), (12, .I 0)], [(200, .raw (d_group_Group p0))]⟩) ?_
 refine awp_block ?_
 refine awp_turn (Turns.trans (Turns.kp (S' := ⟨[(1, .I p1), (2, .cv (.ro .t_int p2)), (3, .P 200), (7, .N), (11, .I (p0.Replicas.length : Int)), (12, .I 0)], [(200, .raw (d_group_Group p0))]⟩)) (Turns.trans (Turns.nilown 7 9500 Tag.t_int (by kernel_rfl) (by kernel_rfl) (S' := ⟨[(7, .cv (.own .t_int 9500)), (1, .I p1), (2, .cv (.ro .t_int p2)), (3, .P 200), (11, .I (p0.Replicas.length : Int)), (12, .I 0)], [(9500, .lst .t_int ([] : List Int)), (200, .raw (d_group_Group p0))]⟩) (by kernel_rfl)) (Turns.trans (Turns.kp (S' := ⟨[(1, .I p1), (2, .cv (.ro .t_int p2)), (3, .P 200), (7, .cv (.own .t_int 9500)), (11, .I (p0.Replicas.length : Int)), (12, .I 0)], [(200, .raw (d_group_Group p0)), (9500, .lst .t_int ([] : List Int))]⟩)) (Turns.rn [(200, 21900), (9500, 21901)] (S' := ⟨[(1, .I p1), (2, .cv (.ro .t_int p2)), (3, .P 21900), (7, .cv (.own .t_int 21901)), (11, .I (p0.Replicas.length : Int)), (12, .I 0)], [(21900, .raw (d_group_Group p0)), (21901, .lst .t_int ([] : List Int))]⟩))))) ?_
 refine kp (S' := ⟨[(1, .I p1), (2, .cv (.ro .t_int p2)), (3, .P 21900), (7, .cv (.own .t_int 21901)), (11, .I (p0.Replicas.length : Int)), (12, .I 0)], [(21900, .raw (d_group_Group p0)), (21901, .lst .t_int ([] : List Int))]⟩) ?_
 obtain ⟨o1, hp1, h⟩ := bind_some h
 refine awp_conseq (Q' := fun e S => (e = .exit 0 ∧ ∃ x21800 : List Int, S = ⟨[(7, .cv (.own .t_int 21800))], [(21800, .lst .t_int x21800)]⟩ ∧ x21800 = o1)) (awp_loop (fun k S => ∃ xt12_9h : Int, ∃ x21901 : List Int, S = ⟨[(1, .I p1), (2, .cv (.ro .t_int p2)), (3, .P 21900), (7, .cv (.own .t_int 21901)), (11, .I (p0.Replicas.length : Int)), (12, .I xt12_9h)], [(21900, .raw (d_group_Group p0)), (21901, .lst .t_int x21901)]⟩ ∧ group_Group_others_v2.l9 K p0 p1 p2 k xt12_9h x21901 = some o1) ?_ ⟨_, _, rfl, hp1⟩) ?_
 ·clear h hp1
  intro k S hS
  obtain ⟨xt12_9h, x21901, rfl, h⟩ := hS
  cases k with
  | zero => cases h
  | succ k =>
  unfold group_Group_others_v2.l9 at h
  refine sr0 L 210 [] [] [] (S' := ⟨[(1, .I p1), (2, .cv (.ro .t_int p2)), (3, .P 21900), (7, .cv (.own .t_int 21901)), (11, .I (p0.Replicas.length : Int)), (12, .I xt12_9h), (13, .B (decide (xt12_9h < (p0.Replicas.length : Int))))], [(21900, .raw (d_group_Group p0)), (21901, .lst .t_int x21901)]⟩) ?_
  refine awp_seq ?_
  rcases ite_some h with ⟨c1, h⟩ | ⟨c1, h⟩
  ·refine tt (b := (decide (xt12_9h < (p0.Replicas.length : Int)))) (decide_eq_true c1) ?_
   refine awp_skip' ?_
   refine awp_seq ?_
   refine awp_block ?_
   refine sr0 L 212 [] [] [] (S' := ⟨[(1, .I p1), (2, .cv (.ro .t_int p2)), (3, .P 21900), (7, .cv (.own .t_int 21901)), (8, .I xt12_9h), (11, .I (p0.Replicas.length : Int)), (12, .I xt12_9h)], [(21900, .raw (d_group_Group p0)), (21901, .lst .t_int x21901)]⟩) ?_
   refine awp_seq ?_
   rcases ite_some h with ⟨c2, h⟩ | ⟨c2, h⟩
   ·obtain ⟨g1, h⟩ := guard_some h
    rcases ite_some h with ⟨c3, h⟩ | ⟨c3, h⟩
    ·obtain ⟨a1, h1, h⟩ := bind_some h
     refine ar L 215 [(3, true), (10, true)] [(13, .B a1)] [] (cs := [(decide (xt12_9h ≠ p1)) = true, (0 : Int) ≤ xt12_9h, (xt12_9h : Int) < (p0.Up.length : Int), (p0.Up.getD (Int.toNat xt12_9h) false) = true, PCall V P 72 [.cv (.ro .t_int p2), .I xt12_9h] (.B a1), True]) (S' := ⟨[(1, .I p1), (2, .cv (.ro .t_int p2)), (3, .P 21900), (7, .cv (.own .t_int 21901)), (8, .I xt12_9h), (11, .I (p0.Replicas.length : Int)), (12, .I xt12_9h), (29, .B a1)], [(21900, .raw (d_group_Group p0)), (21901, .lst .t_int x21901)]⟩) (And.intro (decide_eq_true c2) (And.intro g1.1 (And.intro g1.2 (And.intro c3 (And.intro (slices_Contains_72.ok h1) trivial))))) ?_
     rcases ite_some h with ⟨c4, h⟩ | ⟨c4, h⟩
     ·refine tt (b := a1) (c4) ?_
      obtain ⟨g2, h⟩ := guard_some h
      refine ar L 231 [] [] [] (cs := [(x21901.length + ([xt12_9h] : List Int).length) * 8 ≤ 140737488355328, True]) (S' := ⟨[(1, .I p1), (2, .cv (.ro .t_int p2)), (3, .P 21900), (7, .cv (.own .t_int 21901)), (11, .I (p0.Replicas.length : Int)), (12, .I xt12_9h)], [(21900, .raw (d_group_Group p0)), (21901, .lst .t_int (x21901 ++ ([xt12_9h] : List Int)))]⟩) (And.intro g2 trivial) ?_
      refine ar0 L 237 [] [] [] (S' := ⟨[(1, .I p1), (2, .cv (.ro .t_int p2)), (3, .P 21900), (7, .cv (.own .t_int 21901)), (11, .I (p0.Replicas.length : Int)), (12, .I (IntKind.i64.wrap (xt12_9h + 1)))], [(21900, .raw (d_group_Group p0)), (21901, .lst .t_int (x21901 ++ ([xt12_9h] : List Int)))]⟩) ?_
      exact ⟨k, Nat.lt_succ_self k, _, _, rfl, h⟩
     refine ff (b := a1) (eq_false_of_ne_true c4) ?_
     refine awp_skip' ?_
     refine ar0 L 237 [] [] [] (S' := ⟨[(1, .I p1), (2, .cv (.ro .t_int p2)), (3, .P 21900), (7, .cv (.own .t_int 21901)), (11, .I (p0.Replicas.length : Int)), (12, .I (IntKind.i64.wrap (xt12_9h + 1)))], [(21900, .raw (d_group_Group p0)), (21901, .lst .t_int x21901)]⟩) ?_
     exact ⟨k, Nat.lt_succ_self k, _, _, rfl, h⟩
    refine ar L 215 [(3, true), (10, false)] [] [] (cs := [(decide (xt12_9h ≠ p1)) = true, (0 : Int) ≤ xt12_9h, (xt12_9h : Int) < (p0.Up.length : Int), (p0.Up.getD (Int.toNat xt12_9h) false) = false]) (S' := ⟨[(1, .I p1), (2, .cv (.ro .t_int p2)), (3, .P 21900), (7, .cv (.own .t_int 21901)), (8, .I xt12_9h), (11, .I (p0.Replicas.length : Int)), (12, .I xt12_9h), (29, .B false)], [(21900, .raw (d_group_Group p0)), (21901, .lst .t_int x21901)]⟩) (And.intro (decide_eq_true c2) (And.intro g1.1 (And.intro g1.2 (eq_false_of_ne_true c3)))) ?_
    refine ff (b := false) (rfl) ?_
    refine awp_skip' ?_
    refine ar0 L 237 [] [] [] (S' := ⟨[(1, .I p1), (2, .cv (.ro .t_int p2)), (3, .P 21900), (7, .cv (.own .t_int 21901)), (11, .I (p0.Replicas.length : Int)), (12, .I (IntKind.i64.wrap (xt12_9h + 1)))], [(21900, .raw (d_group_Group p0)), (21901, .lst .t_int x21901)]⟩) ?_
    exact ⟨k, Nat.lt_succ_self k, _, _, rfl, h⟩
   refine ar L 215 [(3, false)] [] [] (cs := [(decide (xt12_9h ≠ p1)) = false]) (S' := ⟨[(1, .I p1), (2, .cv (.ro .t_int p2)), (3, .P 21900), (7, .cv (.own .t_int 21901)), (8, .I xt12_9h), (11, .I (p0.Replicas.length : Int)), (12, .I xt12_9h), (29, .B false)], [(21900, .raw (d_group_Group p0)), (21901, .lst .t_int x21901)]⟩) (decide_eq_false c2) ?_
   refine ff (b := false) (rfl) ?_
   refine awp_skip' ?_
   refine ar0 L 237 [] [] [] (S' := ⟨[(1, .I p1), (2, .cv (.ro .t_int p2)), (3, .P 21900), (7, .cv (.own .t_int 21901)), (11, .I (p0.Replicas.length : Int)), (12, .I (IntKind.i64.wrap (xt12_9h + 1)))], [(21900, .raw (d_group_Group p0)), (21901, .lst .t_int x21901)]⟩) ?_
   exact ⟨k, Nat.lt_succ_self k, _, _, rfl, h⟩
  refine ff (b := (decide (xt12_9h < (p0.Replicas.length : Int)))) (decide_eq_false c1) ?_
  refine awp_turn (Turns.trans (Turns.kp (S' := ⟨[(7, .cv (.own .t_int 21901))], [(21901, .lst .t_int x21901)]⟩)) (Turns.rn [(21901, 21800)] (S' := ⟨[(7, .cv (.own .t_int 21800))], [(21800, .lst .t_int x21901)]⟩))) ?_
  refine ex (S' := ⟨[(7, .cv (.own .t_int 21800))], [(21800, .lst .t_int x21901)]⟩) ?_
  obtain rfl := Option.some.inj h
  exact ⟨rfl, _, rfl, rfl⟩
 ·rintro e S ⟨rfl, x21800, rfl, rfl⟩
  refine ⟨_, Turns.refl, ?_⟩
  refine sr0 L 240 [] [] [] (S' := ⟨[(6, .cv (.own .t_int 21800))], [(21800, .lst .t_int x21800)]⟩) ?_
  refine awp_turn (Turns.rn [(21800, 100)] (S' := ⟨[(6, .cv (.own .t_int 100))], [(100, .lst .t_int x21800)]⟩)) ?_
  refine awp_ret ?_
  obtain rfl := Option.some.inj h
  exact er (.cv (.own .t_int 100))
theorem group_Group_others_v2.okF {K : Nat} {p0 : group_Group} {p1 : Int} {p2 : List Int} {r : List Int} (h : group_Group_others_v2 K p0 p1 p2 = some r) : FCall V P 39 [.agg (d_group_Group p0), .I p1, .cv (.ro .t_int p2)] Tag.t_int r := ECall.fcall (eo (fn := Tryz.f39) (n := 36) (m := 100) fun Γ => group_Group_others_v2.body h)
def ballot_Observe (K : Nat) (p0 : aRep) (p1 : Int) : Option aRep := (Option.bind (ballot_replica K p0) (fun a1 => (if p1 > a1.Epoch then some (⟨p1, (-1), a1.Commit, a1.Log⟩ : aRep) else some a1)))
theorem ballot_Observe.body {Γ : Ent} {K : Nat} {p0 : aRep} {p1 : Int} {r : aRep} (h : ballot_Observe K p0 p1 = some r) : AWp V P 15 100 Γ (Tryz.f73.body.getD .skip) (EndsE P V Tryz.f73 (.agg [.I r.Epoch, .I r.Vote, .I r.Commit, .ro .t_aEnt r.Log]) []) ⟨args0 0 [.agg (d_aRep p0), .I p1], []⟩ := by
 unfold ballot_Observe at h
 refine sr0 L 200 [] [] [] (S' := ⟨[(1, .I p1), (2, .P 200), (4, .P 201)], [(200, .raw (d_aRep p0)), (201, .raw [.I 0, .I 0, .I 0, .N])]⟩) ?_
 refine awp_seq ?_
 obtain ⟨a1, h1, h⟩ := bind_some h
 refine ar L 203 [] [(1, .agg (d_aRep a1))] [] (cs := [PCall V P 71 [.agg (d_aRep p0)] (.agg (d_aRep a1)), True]) (S' := ⟨[(1, .I p1), (2, .P 200), (4, .P 201)], [(200, .raw (d_aRep a1)), (201, .raw [.I 0, .I 0, .I 0, .N])]⟩) (And.intro (ballot_replica.ok h1) trivial) ?_
 refine awp_seq ?_
 refine sr0 L 207 [] [] [] (S' := ⟨[(1, .I p1), (2, .P 200), (4, .P 201), (10, .B (decide (p1 > a1.Epoch)))], [(200, .raw (d_aRep a1)), (201, .raw [.I 0, .I 0, .I 0, .N])]⟩) ?_
 rcases ite_some h with ⟨c1, h⟩ | ⟨c1, h⟩
 ·refine tt (b := (decide (p1 > a1.Epoch))) (decide_eq_true c1) ?_
  refine ar0 L 212 [] [] [] (S' := ⟨[(2, .P 200), (4, .P 201)], [(200, .raw [.I p1, .I (-1), .I a1.Commit, .ro .t_aEnt a1.Log]), (201, .raw [.I 0, .I 0, .I 0, .N])]⟩) ?_
  refine sr0 L 218 [] [] [] (S' := ⟨[(4, .P 201)], [(201, .raw [.I p1, .I (-1), .I a1.Commit, .ro .t_aEnt a1.Log])]⟩) ?_
  refine awp_turn (Turns.rn [(201, 100)] (S' := ⟨[(4, .P 100)], [(100, .raw [.I p1, .I (-1), .I a1.Commit, .ro .t_aEnt a1.Log])]⟩)) ?_
  refine awp_ret ?_
  obtain rfl := Option.some.inj h
  exact er (.agg [.I p1, .I (-1), .I a1.Commit, .ro .t_aEnt a1.Log])
 refine ff (b := (decide (p1 > a1.Epoch))) (decide_eq_false c1) ?_
 refine awp_skip' ?_
 refine sr0 L 218 [] [] [] (S' := ⟨[(4, .P 201)], [(201, .raw (d_aRep a1))]⟩) ?_
 refine awp_turn (Turns.rn [(201, 100)] (S' := ⟨[(4, .P 100)], [(100, .raw (d_aRep a1))]⟩)) ?_
 refine awp_ret ?_
 obtain rfl := Option.some.inj h
 exact er (.agg (d_aRep a1))
theorem ballot_Observe.ok {K : Nat} {p0 : aRep} {p1 : Int} {r : aRep} (h : ballot_Observe K p0 p1 = some r) : PCall V P 73 [.agg (d_aRep p0), .I p1] (.agg [.I r.Epoch, .I r.Vote, .I r.Commit, .ro .t_aEnt r.Log]) := ECall.pcall (eo (fn := Tryz.f73) (n := 15) (m := 100) fun Γ => ballot_Observe.body h) (by kernel_rfl)
def ballot_Newer (K : Nat) (p0 : Int) (p1 : Int) (p2 : Int) (p3 : Int) : Option Bool := (if p1 ≠ p3 then some (decide (p1 > p3)) else some (decide (p0 ≥ p2)))
theorem ballot_Newer.body {Γ : Ent} {K : Nat} {p0 : Int} {p1 : Int} {p2 : Int} {p3 : Int} {r : Bool} (h : ballot_Newer K p0 p1 p2 p3 = some r) : AWp V P 18 100 Γ (Tryz.f74.body.getD .skip) (EndsE P V Tryz.f74 (.B r) []) ⟨args0 0 [.I p0, .I p1, .I p2, .I p3], []⟩ := by
 unfold ballot_Newer at h
 refine sr0 L 200 [] [] [] (S' := ⟨[(0, .I p0), (1, .I p1), (2, .I p2), (3, .I p3)], []⟩) ?_
 refine awp_seq ?_
 refine sr0 L 202 [] [] [] (S' := ⟨[(0, .I p0), (1, .I p1), (2, .I p2), (3, .I p3), (11, .B (decide (p1 ≠ p3)))], []⟩) ?_
 rcases ite_some h with ⟨c1, h⟩ | ⟨c1, h⟩
 ·refine tt (b := (decide (p1 ≠ p3))) (decide_eq_true c1) ?_
  refine sr0 L 206 [] [] [] (S' := ⟨[(8, .B (decide (p1 > p3)))], []⟩) ?_
  refine awp_ret ?_
  obtain rfl := Option.some.inj h
  exact er (.B (decide (p1 > p3)))
 refine ff (b := (decide (p1 ≠ p3))) (decide_eq_false c1) ?_
 refine awp_skip' ?_
 refine sr0 L 211 [] [] [] (S' := ⟨[(8, .B (decide (p0 ≥ p2)))], []⟩) ?_
 refine awp_ret ?_
 obtain rfl := Option.some.inj h
 exact er (.B (decide (p0 ≥ p2)))
theorem ballot_Newer.ok {K : Nat} {p0 : Int} {p1 : Int} {p2 : Int} {p3 : Int} {r : Bool} (h : ballot_Newer K p0 p1 p2 p3 = some r) : PCall V P 74 [.I p0, .I p1, .I p2, .I p3] (.B r) := ECall.pcall (eo (fn := Tryz.f74) (n := 18) (m := 100) fun Γ => ballot_Newer.body h) (by kernel_rfl)
def ballot_Ask (K : Nat) (p0 : aRep) (p1 : Int) (p2 : Int) (p3 : Int) (p4 : Int) : Option (aRep × Bool × Int) := (Option.bind (replog_Right K p0) (fun a1 => (if a1 = true then (if p1 < 1 then some ((⟨0, 0, 0, ([] : List aEnt)⟩ : aRep), false, 2) else (if p1 > 1099511627776 then some ((⟨0, 0, 0, ([] : List aEnt)⟩ : aRep), false, 2) else (Option.bind (ballot_candidate K p2) (fun a2 => (if a2 = true then (if p3 < 0 then some ((⟨0, 0, 0, ([] : List aEnt)⟩ : aRep), false, 2) else (if p4 < 0 then some ((⟨0, 0, 0, ([] : List aEnt)⟩ : aRep), false, 2) else (if p1 < p0.Epoch then some ((⟨0, 0, 0, ([] : List aEnt)⟩ : aRep), false, 25) else (Option.bind (ballot_Observe K p0 p1) (fun a3 => (Option.bind (replog_Last K a3) (fun (a4_0, a4_1) => (if a3.Vote ≠ (-1) then (if a3.Vote ≠ p2 then some (a3, false, 0) else (Option.bind (ballot_Newer K p3 p4 a4_0 a4_1) (fun a5 => (if a5 = true then some ((⟨a3.Epoch, p2, a3.Commit, a3.Log⟩ : aRep), true, 0) else some (a3, false, 0))))) else (Option.bind (ballot_Newer K p3 p4 a4_0 a4_1) (fun a6 => (if a6 = true then some ((⟨a3.Epoch, p2, a3.Commit, a3.Log⟩ : aRep), true, 0) else some (a3, false, 0)))))))))))) else some ((⟨0, 0, 0, ([] : List aEnt)⟩ : aRep), false, 2)))))) else some ((⟨0, 0, 0, ([] : List aEnt)⟩ : aRep), false, 2))))
theorem ballot_Ask.body {Γ : Ent} {K : Nat} {p0 : aRep} {p1 : Int} {p2 : Int} {p3 : Int} {p4 : Int} {r : aRep × Bool × Int} (h : ballot_Ask K p0 p1 p2 p3 p4 = some r) : AWp V P 75 100 Γ (Tryz.f40.body.getD .skip) (EndsE P V Tryz.f40 (.tup [.agg [.I r.1.Epoch, .I r.1.Vote, .I r.1.Commit, .ro .t_aEnt r.1.Log], .B r.2.1, .I r.2.2]) []) ⟨args0 0 [.agg (d_aRep p0), .I p1, .I p2, .I p3, .I p4], []⟩ := by
 unfold ballot_Ask at h
 refine sr0 L 200 [] [] [] (S' := ⟨[(1, .I p1), (2, .I p2), (3, .I p3), (4, .I p4), (5, .P 200), (10, .P 201)], [(200, .raw (d_aRep p0)), (201, .raw [.I 0, .I 0, .I 0, .N])]⟩) ?_
 refine awp_seq ?_
 refine awp_seq ?_
 obtain ⟨a1, h1, h⟩ := bind_some h
 rcases ite_some h with ⟨c1, h⟩ | ⟨c1, h⟩
 ·rcases ite_some h with ⟨c2, h⟩ | ⟨c2, h⟩
  ·refine ar L 205 [(3, false), (7, true)] [(1, .B a1)] [] (cs := [PCall V P 57 [.agg (d_aRep p0)] (.B a1), True, (!a1) = false, (decide (p1 < 1)) = true]) (S' := ⟨[(1, .I p1), (2, .I p2), (3, .I p3), (4, .I p4), (5, .P 200), (10, .P 201), (39, .B true)], [(200, .raw (d_aRep p0)), (201, .raw [.I 0, .I 0, .I 0, .N])]⟩) (And.intro (replog_Right.ok h1) (And.intro trivial (And.intro (congrArg Bool.not (c1)) (decide_eq_true c2)))) ?_
   refine tt (b := true) (rfl) ?_
   refine sr0 L 230 [] [] [] (S' := ⟨[(10, .P 201), (11, .B false), (12, .I 2)], [(201, .raw [.I 0, .I 0, .I 0, .N])]⟩) ?_
   refine awp_turn (Turns.rn [(201, 100)] (S' := ⟨[(10, .P 100), (11, .B false), (12, .I 2)], [(100, .raw [.I 0, .I 0, .I 0, .N])]⟩)) ?_
   refine awp_ret ?_
   obtain rfl := Option.some.inj h
   exact er (.tup [.agg [.I 0, .I 0, .I 0, .N], .B false, .I 2])
  rcases ite_some h with ⟨c3, h⟩ | ⟨c3, h⟩
  ·refine ar L 205 [(3, false), (7, false), (11, true)] [(1, .B a1)] [] (cs := [PCall V P 57 [.agg (d_aRep p0)] (.B a1), True, (!a1) = false, (decide (p1 < 1)) = false, (decide (p1 > 1099511627776)) = true]) (S' := ⟨[(1, .I p1), (2, .I p2), (3, .I p3), (4, .I p4), (5, .P 200), (10, .P 201), (39, .B true)], [(200, .raw (d_aRep p0)), (201, .raw [.I 0, .I 0, .I 0, .N])]⟩) (And.intro (replog_Right.ok h1) (And.intro trivial (And.intro (congrArg Bool.not (c1)) (And.intro (decide_eq_false c2) (decide_eq_true c3))))) ?_
   refine tt (b := true) (rfl) ?_
   refine sr0 L 230 [] [] [] (S' := ⟨[(10, .P 201), (11, .B false), (12, .I 2)], [(201, .raw [.I 0, .I 0, .I 0, .N])]⟩) ?_
   refine awp_turn (Turns.rn [(201, 100)] (S' := ⟨[(10, .P 100), (11, .B false), (12, .I 2)], [(100, .raw [.I 0, .I 0, .I 0, .N])]⟩)) ?_
   refine awp_ret ?_
   obtain rfl := Option.some.inj h
   exact er (.tup [.agg [.I 0, .I 0, .I 0, .N], .B false, .I 2])
  obtain ⟨a2, h2, h⟩ := bind_some h
  rcases ite_some h with ⟨c4, h⟩ | ⟨c4, h⟩
  ·rcases ite_some h with ⟨c5, h⟩ | ⟨c5, h⟩
   ·refine ar L 205 [(3, false), (7, false), (11, false), (16, false), (20, true)] [(1, .B a1), (13, .B a2)] [] (cs := [PCall V P 57 [.agg (d_aRep p0)] (.B a1), True, (!a1) = false, (decide (p1 < 1)) = false, (decide (p1 > 1099511627776)) = false, PCall V P 70 [.I p2] (.B a2), True, (!a2) = false, (decide (p3 < 0)) = true]) (S' := ⟨[(1, .I p1), (2, .I p2), (3, .I p3), (4, .I p4), (5, .P 200), (10, .P 201), (39, .B true)], [(200, .raw (d_aRep p0)), (201, .raw [.I 0, .I 0, .I 0, .N])]⟩) (And.intro (replog_Right.ok h1) (And.intro trivial (And.intro (congrArg Bool.not (c1)) (And.intro (decide_eq_false c2) (And.intro (decide_eq_false c3) (And.intro (ballot_candidate.ok h2) (And.intro trivial (And.intro (congrArg Bool.not (c4)) (decide_eq_true c5))))))))) ?_
    refine tt (b := true) (rfl) ?_
    refine sr0 L 230 [] [] [] (S' := ⟨[(10, .P 201), (11, .B false), (12, .I 2)], [(201, .raw [.I 0, .I 0, .I 0, .N])]⟩) ?_
    refine awp_turn (Turns.rn [(201, 100)] (S' := ⟨[(10, .P 100), (11, .B false), (12, .I 2)], [(100, .raw [.I 0, .I 0, .I 0, .N])]⟩)) ?_
    refine awp_ret ?_
    obtain rfl := Option.some.inj h
    exact er (.tup [.agg [.I 0, .I 0, .I 0, .N], .B false, .I 2])
   refine ar L 205 [(3, false), (7, false), (11, false), (16, false), (20, false)] [(1, .B a1), (13, .B a2)] [] (cs := [PCall V P 57 [.agg (d_aRep p0)] (.B a1), True, (!a1) = false, (decide (p1 < 1)) = false, (decide (p1 > 1099511627776)) = false, PCall V P 70 [.I p2] (.B a2), True, (!a2) = false, (decide (p3 < 0)) = false]) (S' := ⟨[(1, .I p1), (2, .I p2), (3, .I p3), (4, .I p4), (5, .P 200), (10, .P 201), (39, .B (decide (p4 < 0)))], [(200, .raw (d_aRep p0)), (201, .raw [.I 0, .I 0, .I 0, .N])]⟩) (And.intro (replog_Right.ok h1) (And.intro trivial (And.intro (congrArg Bool.not (c1)) (And.intro (decide_eq_false c2) (And.intro (decide_eq_false c3) (And.intro (ballot_candidate.ok h2) (And.intro trivial (And.intro (congrArg Bool.not (c4)) (decide_eq_false c5))))))))) ?_
   rcases ite_some h with ⟨c6, h⟩ | ⟨c6, h⟩
   ·refine tt (b := (decide (p4 < 0))) (decide_eq_true c6) ?_
    refine sr0 L 230 [] [] [] (S' := ⟨[(10, .P 201), (11, .B false), (12, .I 2)], [(201, .raw [.I 0, .I 0, .I 0, .N])]⟩) ?_
    refine awp_turn (Turns.rn [(201, 100)] (S' := ⟨[(10, .P 100), (11, .B false), (12, .I 2)], [(100, .raw [.I 0, .I 0, .I 0, .N])]⟩)) ?_
    refine awp_ret ?_
    obtain rfl := Option.some.inj h
    exact er (.tup [.agg [.I 0, .I 0, .I 0, .N], .B false, .I 2])
   refine ff (b := (decide (p4 < 0))) (decide_eq_false c6) ?_
   refine awp_skip' ?_
   refine awp_seq ?_
   refine sr0 L 235 [] [] [] (S' := ⟨[(1, .I p1), (2, .I p2), (3, .I p3), (4, .I p4), (5, .P 200), (10, .P 201), (44, .B (decide (p1 < p0.Epoch)))], [(200, .raw (d_aRep p0)), (201, .raw [.I 0, .I 0, .I 0, .N])]⟩) ?_
   rcases ite_some h with ⟨c7, h⟩ | ⟨c7, h⟩
   ·refine tt (b := (decide (p1 < p0.Epoch))) (decide_eq_true c7) ?_
    refine sr0 L 240 [] [] [] (S' := ⟨[(10, .P 201), (11, .B false), (12, .I 25)], [(201, .raw [.I 0, .I 0, .I 0, .N])]⟩) ?_
    refine awp_turn (Turns.rn [(201, 100)] (S' := ⟨[(10, .P 100), (11, .B false), (12, .I 25)], [(100, .raw [.I 0, .I 0, .I 0, .N])]⟩)) ?_
    refine awp_ret ?_
    obtain rfl := Option.some.inj h
    exact er (.tup [.agg [.I 0, .I 0, .I 0, .N], .B false, .I 25])
   refine ff (b := (decide (p1 < p0.Epoch))) (decide_eq_false c7) ?_
   refine awp_skip' ?_
   refine awp_seq ?_
   obtain ⟨a3, h3, h⟩ := bind_some h
   refine ar L 245 [] [(2, .agg (d_aRep a3))] [] (cs := [PCall V P 73 [.agg (d_aRep p0), .I p1] (.agg (d_aRep a3)), True]) (S' := ⟨[(2, .I p2), (3, .I p3), (4, .I p4), (10, .P 201), (13, .P 248)], [(201, .raw [.I 0, .I 0, .I 0, .N]), (248, .raw (d_aRep a3))]⟩) (And.intro (ballot_Observe.ok h3) trivial) ?_
   refine awp_seq ?_
   obtain ⟨⟨a4_0, a4_1⟩, h4, h⟩ := bind_some h
   dsimp only at h
   refine ar L 251 [] [(1, .tup [.I a4_0, .I a4_1])] [] (cs := [PCall V P 38 [.agg (d_aRep a3)] (.tup [.I a4_0, .I a4_1]), True]) (S' := ⟨[(2, .I p2), (3, .I p3), (4, .I p4), (10, .P 201), (13, .P 248), (14, .I a4_0), (15, .I a4_1)], [(201, .raw [.I 0, .I 0, .I 0, .N]), (248, .raw (d_aRep a3))]⟩) (And.intro (replog_Last.ok h4) trivial) ?_
   refine awp_seq ?_
   refine awp_seq ?_
   rcases ite_some h with ⟨c8, h⟩ | ⟨c8, h⟩
   ·rcases ite_some h with ⟨c9, h⟩ | ⟨c9, h⟩
    ·refine ar L 259 [(3, true), (9, true)] [] [] (cs := [(decide (a3.Vote ≠ (-1))) = true, (decide (a3.Vote ≠ p2)) = true]) (S' := ⟨[(2, .I p2), (10, .P 201), (13, .P 248), (70, .B true)], [(201, .raw [.I 0, .I 0, .I 0, .N]), (248, .raw (d_aRep a3))]⟩) (And.intro (decide_eq_true c8) (decide_eq_true c9)) ?_
     refine tt (b := true) (rfl) ?_
     refine sr0 L 277 [] [] [] (S' := ⟨[(10, .P 201), (11, .B false), (12, .I 0)], [(201, .raw (d_aRep a3))]⟩) ?_
     refine awp_turn (Turns.rn [(201, 100)] (S' := ⟨[(10, .P 100), (11, .B false), (12, .I 0)], [(100, .raw (d_aRep a3))]⟩)) ?_
     refine awp_ret ?_
     obtain rfl := Option.some.inj h
     exact er (.tup [.agg (d_aRep a3), .B false, .I 0])
    obtain ⟨a5, h5, h⟩ := bind_some h
    refine ar L 259 [(3, true), (9, false)] [(14, .B a5)] [] (cs := [(decide (a3.Vote ≠ (-1))) = true, (decide (a3.Vote ≠ p2)) = false, PCall V P 74 [.I p3, .I p4, .I a4_0, .I a4_1] (.B a5), True]) (S' := ⟨[(2, .I p2), (10, .P 201), (13, .P 248), (70, .B (!a5))], [(201, .raw [.I 0, .I 0, .I 0, .N]), (248, .raw (d_aRep a3))]⟩) (And.intro (decide_eq_true c8) (And.intro (decide_eq_false c9) (And.intro (ballot_Newer.ok h5) trivial))) ?_
    rcases ite_some h with ⟨c10, h⟩ | ⟨c10, h⟩
    ·refine ff (b := (!a5)) (congrArg Bool.not (c10)) ?_
     refine awp_skip' ?_
     refine sr0 L 282 [] [] [] (S' := ⟨[(10, .P 201), (13, .P 248)], [(201, .raw [.I 0, .I 0, .I 0, .N]), (248, .raw [.I a3.Epoch, .I p2, .I a3.Commit, .ro .t_aEnt a3.Log])]⟩) ?_
     refine sr0 L 286 [] [] [] (S' := ⟨[(10, .P 201), (11, .B true), (12, .I 0)], [(201, .raw [.I a3.Epoch, .I p2, .I a3.Commit, .ro .t_aEnt a3.Log])]⟩) ?_
     refine awp_turn (Turns.rn [(201, 100)] (S' := ⟨[(10, .P 100), (11, .B true), (12, .I 0)], [(100, .raw [.I a3.Epoch, .I p2, .I a3.Commit, .ro .t_aEnt a3.Log])]⟩)) ?_
     refine awp_ret ?_
     obtain rfl := Option.some.inj h
     exact er (.tup [.agg [.I a3.Epoch, .I p2, .I a3.Commit, .ro .t_aEnt a3.Log], .B true, .I 0])
    refine tt (b := (!a5)) (congrArg Bool.not (eq_false_of_ne_true c10)) ?_
    refine sr0 L 277 [] [] [] (S' := ⟨[(10, .P 201), (11, .B false), (12, .I 0)], [(201, .raw (d_aRep a3))]⟩) ?_
    refine awp_turn (Turns.rn [(201, 100)] (S' := ⟨[(10, .P 100), (11, .B false), (12, .I 0)], [(100, .raw (d_aRep a3))]⟩)) ?_
    refine awp_ret ?_
    obtain rfl := Option.some.inj h
    exact er (.tup [.agg (d_aRep a3), .B false, .I 0])
   obtain ⟨a6, h6, h⟩ := bind_some h
   refine ar L 259 [(3, false)] [(14, .B a6)] [] (cs := [(decide (a3.Vote ≠ (-1))) = false, PCall V P 74 [.I p3, .I p4, .I a4_0, .I a4_1] (.B a6), True]) (S' := ⟨[(2, .I p2), (10, .P 201), (13, .P 248), (70, .B (!a6))], [(201, .raw [.I 0, .I 0, .I 0, .N]), (248, .raw (d_aRep a3))]⟩) (And.intro (decide_eq_false c8) (And.intro (ballot_Newer.ok h6) trivial)) ?_
   rcases ite_some h with ⟨c11, h⟩ | ⟨c11, h⟩
   ·refine ff (b := (!a6)) (congrArg Bool.not (c11)) ?_
    refine awp_skip' ?_
    refine sr0 L 282 [] [] [] (S' := ⟨[(10, .P 201), (13, .P 248)], [(201, .raw [.I 0, .I 0, .I 0, .N]), (248, .raw [.I a3.Epoch, .I p2, .I a3.Commit, .ro .t_aEnt a3.Log])]⟩) ?_
    refine sr0 L 286 [] [] [] (S' := ⟨[(10, .P 201), (11, .B true), (12, .I 0)], [(201, .raw [.I a3.Epoch, .I p2, .I a3.Commit, .ro .t_aEnt a3.Log])]⟩) ?_
    refine awp_turn (Turns.rn [(201, 100)] (S' := ⟨[(10, .P 100), (11, .B true), (12, .I 0)], [(100, .raw [.I a3.Epoch, .I p2, .I a3.Commit, .ro .t_aEnt a3.Log])]⟩)) ?_
    refine awp_ret ?_
    obtain rfl := Option.some.inj h
    exact er (.tup [.agg [.I a3.Epoch, .I p2, .I a3.Commit, .ro .t_aEnt a3.Log], .B true, .I 0])
   refine tt (b := (!a6)) (congrArg Bool.not (eq_false_of_ne_true c11)) ?_
   refine sr0 L 277 [] [] [] (S' := ⟨[(10, .P 201), (11, .B false), (12, .I 0)], [(201, .raw (d_aRep a3))]⟩) ?_
   refine awp_turn (Turns.rn [(201, 100)] (S' := ⟨[(10, .P 100), (11, .B false), (12, .I 0)], [(100, .raw (d_aRep a3))]⟩)) ?_
   refine awp_ret ?_
   obtain rfl := Option.some.inj h
   exact er (.tup [.agg (d_aRep a3), .B false, .I 0])
  refine ar L 205 [(3, false), (7, false), (11, false), (16, true)] [(1, .B a1), (13, .B a2)] [] (cs := [PCall V P 57 [.agg (d_aRep p0)] (.B a1), True, (!a1) = false, (decide (p1 < 1)) = false, (decide (p1 > 1099511627776)) = false, PCall V P 70 [.I p2] (.B a2), True, (!a2) = true]) (S' := ⟨[(1, .I p1), (2, .I p2), (3, .I p3), (4, .I p4), (5, .P 200), (10, .P 201), (39, .B true)], [(200, .raw (d_aRep p0)), (201, .raw [.I 0, .I 0, .I 0, .N])]⟩) (And.intro (replog_Right.ok h1) (And.intro trivial (And.intro (congrArg Bool.not (c1)) (And.intro (decide_eq_false c2) (And.intro (decide_eq_false c3) (And.intro (ballot_candidate.ok h2) (And.intro trivial (congrArg Bool.not (eq_false_of_ne_true c4))))))))) ?_
  refine tt (b := true) (rfl) ?_
  refine sr0 L 230 [] [] [] (S' := ⟨[(10, .P 201), (11, .B false), (12, .I 2)], [(201, .raw [.I 0, .I 0, .I 0, .N])]⟩) ?_
  refine awp_turn (Turns.rn [(201, 100)] (S' := ⟨[(10, .P 100), (11, .B false), (12, .I 2)], [(100, .raw [.I 0, .I 0, .I 0, .N])]⟩)) ?_
  refine awp_ret ?_
  obtain rfl := Option.some.inj h
  exact er (.tup [.agg [.I 0, .I 0, .I 0, .N], .B false, .I 2])
 refine ar L 205 [(3, true)] [(1, .B a1)] [] (cs := [PCall V P 57 [.agg (d_aRep p0)] (.B a1), True, (!a1) = true]) (S' := ⟨[(1, .I p1), (2, .I p2), (3, .I p3), (4, .I p4), (5, .P 200), (10, .P 201), (39, .B true)], [(200, .raw (d_aRep p0)), (201, .raw [.I 0, .I 0, .I 0, .N])]⟩) (And.intro (replog_Right.ok h1) (And.intro trivial (congrArg Bool.not (eq_false_of_ne_true c1)))) ?_
 refine tt (b := true) (rfl) ?_
 refine sr0 L 230 [] [] [] (S' := ⟨[(10, .P 201), (11, .B false), (12, .I 2)], [(201, .raw [.I 0, .I 0, .I 0, .N])]⟩) ?_
 refine awp_turn (Turns.rn [(201, 100)] (S' := ⟨[(10, .P 100), (11, .B false), (12, .I 2)], [(100, .raw [.I 0, .I 0, .I 0, .N])]⟩)) ?_
 refine awp_ret ?_
 obtain rfl := Option.some.inj h
 exact er (.tup [.agg [.I 0, .I 0, .I 0, .N], .B false, .I 2])
theorem ballot_Ask.ok {K : Nat} {p0 : aRep} {p1 : Int} {p2 : Int} {p3 : Int} {p4 : Int} {r : aRep × Bool × Int} (h : ballot_Ask K p0 p1 p2 p3 p4 = some r) : PCall V P 40 [.agg (d_aRep p0), .I p1, .I p2, .I p3, .I p4] (.tup [.agg [.I r.1.Epoch, .I r.1.Vote, .I r.1.Commit, .ro .t_aEnt r.1.Log], .B r.2.1, .I r.2.2]) := ECall.pcall (eo (fn := Tryz.f40) (n := 75) (m := 100) fun Γ => ballot_Ask.body h) (by kernel_rfl)
def quorum_Majority (K : Nat) (p0 : Int) : Option Int := (if p0 < 1 then some 0 else some (IntKind.i64.wrap ((IntKind.i64.wrap (Int.tdiv p0 2)) + 1)))
theorem quorum_Majority.body {Γ : Ent} {K : Nat} {p0 : Int} {r : Int} (h : quorum_Majority K p0 = some r) : AWp V P 8 100 Γ (Tryz.f75.body.getD .skip) (EndsE P V Tryz.f75 (.I r) []) ⟨args0 0 [.I p0], []⟩ := by
 unfold quorum_Majority at h
 refine sr0 L 200 [] [] [] (S' := ⟨[(0, .I p0)], []⟩) ?_
 refine awp_seq ?_
 refine sr0 L 202 [] [] [] (S' := ⟨[(0, .I p0), (4, .B (decide (p0 < 1)))], []⟩) ?_
 rcases ite_some h with ⟨c1, h⟩ | ⟨c1, h⟩
 ·refine tt (b := (decide (p0 < 1))) (decide_eq_true c1) ?_
  refine sr0 L 205 [] [] [] (S' := ⟨[(2, .I 0)], []⟩) ?_
  refine awp_ret ?_
  obtain rfl := Option.some.inj h
  exact er (.I 0)
 refine ff (b := (decide (p0 < 1))) (decide_eq_false c1) ?_
 refine awp_skip' ?_
 refine sr L 207 [] [] [] (cs := [2 ≠ (0 : Int)]) (S' := ⟨[(2, .I (IntKind.i64.wrap ((IntKind.i64.wrap (Int.tdiv p0 2)) + 1)))], []⟩) (show 2 ≠ (0 : Int) from by decide) ?_
 refine awp_ret ?_
 obtain rfl := Option.some.inj h
 exact er (.I (IntKind.i64.wrap ((IntKind.i64.wrap (Int.tdiv p0 2)) + 1)))
theorem quorum_Majority.ok {K : Nat} {p0 : Int} {r : Int} (h : quorum_Majority K p0 = some r) : PCall V P 75 [.I p0] (.I r) := ECall.pcall (eo (fn := Tryz.f75) (n := 8) (m := 100) fun Γ => quorum_Majority.body h) (by kernel_rfl)
def quorum_Won (K : Nat) (p0 : Int) (p1 : Int) : Option Bool := (if p1 ≥ 1 then (Option.bind (quorum_Majority K p1) (fun a1 => some (decide (p0 ≥ a1)))) else some false)
theorem quorum_Won.body {Γ : Ent} {K : Nat} {p0 : Int} {p1 : Int} {r : Bool} (h : quorum_Won K p0 p1 = some r) : AWp V P 13 100 Γ (Tryz.f41.body.getD .skip) (EndsE P V Tryz.f41 (.B r) []) ⟨args0 0 [.I p0, .I p1], []⟩ := by
 unfold quorum_Won at h
 refine sr0 L 200 [] [] [] (S' := ⟨[(0, .I p0), (1, .I p1)], []⟩) ?_
 refine awp_seq ?_
 rcases ite_some h with ⟨c1, h⟩ | ⟨c1, h⟩
 ·obtain ⟨a1, h1, h⟩ := bind_some h
  refine ar L 202 [(2, true)] [(5, .I a1)] [] (cs := [(decide (p1 ≥ 1)) = true, PCall V P 75 [.I p1] (.I a1), True]) (S' := ⟨[(4, .B (decide (p0 ≥ a1)))], []⟩) (And.intro (decide_eq_true c1) (And.intro (quorum_Majority.ok h1) trivial)) ?_
  refine awp_ret ?_
  obtain rfl := Option.some.inj h
  exact er (.B (decide (p0 ≥ a1)))
 refine ar L 202 [(2, false)] [] [] (cs := [(decide (p1 ≥ 1)) = false]) (S' := ⟨[(4, .B false)], []⟩) (decide_eq_false c1) ?_
 refine awp_ret ?_
 obtain rfl := Option.some.inj h
 exact er (.B false)
theorem quorum_Won.ok {K : Nat} {p0 : Int} {p1 : Int} {r : Bool} (h : quorum_Won K p0 p1 = some r) : PCall V P 41 [.I p0, .I p1] (.B r) := ECall.pcall (eo (fn := Tryz.f41) (n := 13) (m := 100) fun Γ => quorum_Won.body h) (by kernel_rfl)
def group_Elect.l41 (K : Nat) (p1 : Int) (a2_0 : aRep) (a4_0 : Int) (a4_1 : Int) (a5 : List Int) : Nat → Int → Int → (List aRep) → Option (Int × (List aRep))
 | 0, _, _, _ => none
 | k + 1, xt12_41h, xt62_41h, x28304 => (if xt62_41h < (a5.length : Int) then (if (0 : Int) ≤ xt62_41h ∧ (xt62_41h : Int) < (a5.length : Int) then (if (Int.toNat xt62_41h) < a5.length then (if (0 : Int) ≤ (a5.getD (Int.toNat xt62_41h) (0 : Int)) ∧ ((a5.getD (Int.toNat xt62_41h) (0 : Int)) : Int) < (x28304.length : Int) then (if (Int.toNat (a5.getD (Int.toNat xt62_41h) (0 : Int))) < x28304.length then (Option.bind (ballot_Ask K (x28304.getD (Int.toNat (a5.getD (Int.toNat xt62_41h) (0 : Int))) z_aRep) a2_0.Epoch p1 a4_0 a4_1) (fun (a6_0, a6_1, a6_2) => (if a6_2 ≠ 0 then group_Elect.l41 K p1 a2_0 a4_0 a4_1 a5 k xt12_41h (IntKind.i64.wrap (xt62_41h + 1)) x28304 else (if a6_1 = true then group_Elect.l41 K p1 a2_0 a4_0 a4_1 a5 k (IntKind.i64.wrap (xt12_41h + 1)) (IntKind.i64.wrap (xt62_41h + 1)) (x28304.set (Int.toNat (a5.getD (Int.toNat xt62_41h) (0 : Int))) a6_0) else group_Elect.l41 K p1 a2_0 a4_0 a4_1 a5 k xt12_41h (IntKind.i64.wrap (xt62_41h + 1)) (x28304.set (Int.toNat (a5.getD (Int.toNat xt62_41h) (0 : Int))) a6_0))))) else none) else none) else none) else none) else some (xt12_41h, x28304))
def group_Elect (K : Nat) (p0 : group_Group) (p1 : Int) (p2 : List Int) : Option (group_Group × Int) := (Option.bind (group_Group_suits K p0 p1 p2) (fun a1 => (if a1 = true then (if (0 : Int) ≤ p1 ∧ (p1 : Int) < (p0.Up.length : Int) then (if (p0.Up.getD (Int.toNat p1) false) = true then (if (p1 : Int) < (p0.Replicas.length : Int) then (Option.bind (ballot_Stand K (p0.Replicas.getD (Int.toNat p1) z_aRep) p1) (fun (a2_0, a2_1) => (if a2_1 ≠ 0 then some ((⟨([] : List aRep), ([] : List Bool), 0, 0⟩ : group_Group), a2_1) else (Option.bind (group_Group_clone_v2 K p0) (fun (a3_0, a3_1) => (if (p1 : Int) < (a3_1.length : Int) then (if (Int.toNat p1) < a3_1.length then (Option.bind (replog_Last K a2_0) (fun (a4_0, a4_1) => (Option.bind (group_Group_others_v2 K (⟨(a3_1.set (Int.toNat p1) a2_0), a3_0, p0.Leader, p0.Epoch⟩ : group_Group) p1 p2) (fun a5 => (Option.bind (group_Elect.l41 K p1 a2_0 a4_0 a4_1 a5 K 1 0 (a3_1.set (Int.toNat p1) a2_0) : Option (Int × (List aRep))) (fun (xt12_41, x28203) => (Option.bind (quorum_Won K xt12_41 (x28203.length : Int)) (fun a7 => (if a7 = true then some ((⟨x28203, a3_0, p1, a2_0.Epoch⟩ : group_Group), 0) else some ((⟨x28203, a3_0, p0.Leader, p0.Epoch⟩ : group_Group), 27)))))))))) else none) else none)))))) else none) else some ((⟨([] : List aRep), ([] : List Bool), 0, 0⟩ : group_Group), 28)) else none) else some ((⟨([] : List aRep), ([] : List Bool), 0, 0⟩ : group_Group), 2))))
theorem group_Elect.body {Γ : Ent} {K : Nat} {p0 : group_Group} {p1 : Int} {p2 : List Int} {r : group_Group × Int} (h : group_Elect K p0 p1 p2 = some r) : AWp V P 105 100 Γ (Tryz.f17.body.getD .skip) (EndsE P V Tryz.f17 (.tup [.agg [.ro .t_aRep r.1.Replicas, .ro .t_bool r.1.Up, .I r.1.Leader, .I r.1.Epoch], .I r.2]) []) ⟨args0 0 [.agg (d_group_Group p0), .I p1, .cv (.ro .t_int p2)], []⟩ := by
 unfold group_Elect at h
 refine sr0 L 200 [] [] [] (S' := ⟨[(1, .I p1), (2, .cv (.ro .t_int p2)), (3, .P 200), (6, .P 201)], [(200, .raw (d_group_Group p0)), (201, .raw [.N, .N, .I 0, .I 0])]⟩) ?_
 refine awp_seq ?_
 refine awp_seq ?_
 obtain ⟨a1, h1, h⟩ := bind_some h
 refine ar L 204 [] [(3, .B a1)] [] (cs := [PCall V P 36 [.agg (d_group_Group p0), .I p1, .cv (.ro .t_int p2)] (.B a1), True]) (S' := ⟨[(1, .I p1), (2, .cv (.ro .t_int p2)), (3, .P 200), (6, .P 201), (22, .B (!a1))], [(200, .raw (d_group_Group p0)), (201, .raw [.N, .N, .I 0, .I 0])]⟩) (And.intro (group_Group_suits.ok h1) trivial) ?_
 rcases ite_some h with ⟨c1, h⟩ | ⟨c1, h⟩
 ·refine ff (b := (!a1)) (congrArg Bool.not (c1)) ?_
  refine awp_skip' ?_
  refine awp_seq ?_
  refine awp_seq ?_
  obtain ⟨g1, h⟩ := guard_some h
  refine ar L 214 [] [] [] (cs := [(0 : Int) ≤ p1, (p1 : Int) < (p0.Up.length : Int)]) (S' := ⟨[(1, .I p1), (2, .cv (.ro .t_int p2)), (3, .P 200), (6, .P 201), (29, .B (!(p0.Up.getD (Int.toNat p1) false)))], [(200, .raw (d_group_Group p0)), (201, .raw [.N, .N, .I 0, .I 0])]⟩) (And.intro g1.1 g1.2) ?_
  rcases ite_some h with ⟨c2, h⟩ | ⟨c2, h⟩
  ·refine ff (b := (!(p0.Up.getD (Int.toNat p1) false))) (congrArg Bool.not (c2)) ?_
   refine awp_skip' ?_
   refine awp_seq ?_
   obtain ⟨g2, h⟩ := guard_some h
   obtain ⟨⟨a2_0, a2_1⟩, h2, h⟩ := bind_some h
   dsimp only at h
   refine ar L 225 [] [(6, .tup [.agg (d_aRep a2_0), .I a2_1])] [] (cs := [(0 : Int) ≤ p1, (p1 : Int) < (p0.Replicas.length : Int), PCall V P 37 [.agg (d_aRep (p0.Replicas.getD (Int.toNat p1) z_aRep)), .I p1] (.tup [.agg (d_aRep a2_0), .I a2_1]), True]) (S' := ⟨[(1, .I p1), (2, .cv (.ro .t_int p2)), (3, .P 200), (6, .P 201), (8, .P 235), (9, .I a2_1)], [(200, .raw (d_group_Group p0)), (201, .raw [.N, .N, .I 0, .I 0]), (235, .raw (d_aRep a2_0))]⟩) (And.intro g1.1 (And.intro g2 (And.intro (ballot_Stand.ok h2) trivial))) ?_
   refine awp_seq ?_
   refine sr0 L 239 [] [] [] (S' := ⟨[(1, .I p1), (2, .cv (.ro .t_int p2)), (3, .P 200), (6, .P 201), (8, .P 235), (9, .I a2_1), (42, .B (decide (a2_1 ≠ 0)))], [(200, .raw (d_group_Group p0)), (201, .raw [.N, .N, .I 0, .I 0]), (235, .raw (d_aRep a2_0))]⟩) ?_
   rcases ite_some h with ⟨c3, h⟩ | ⟨c3, h⟩
   ·refine tt (b := (decide (a2_1 ≠ 0))) (decide_eq_true c3) ?_
    refine sr0 L 242 [] [] [] (S' := ⟨[(6, .P 201), (7, .I a2_1)], [(201, .raw [.N, .N, .I 0, .I 0])]⟩) ?_
    refine awp_turn (Turns.rn [(201, 100)] (S' := ⟨[(6, .P 100), (7, .I a2_1)], [(100, .raw [.N, .N, .I 0, .I 0])]⟩)) ?_
    refine awp_ret ?_
    obtain rfl := Option.some.inj h
    exact er (.tup [.agg [.N, .N, .I 0, .I 0], .I a2_1])
   refine ff (b := (decide (a2_1 ≠ 0))) (decide_eq_false c3) ?_
   refine awp_skip' ?_
   refine awp_seq ?_
   obtain ⟨⟨a3_0, a3_1⟩, h3, h⟩ := bind_some h
   dsimp only at h
   refine ar L 247 [] [] [(1, { hids := [], fx := [], r := .agg [.own .t_aRep 100, .ro .t_bool a3_0, .I p0.Leader, .I p0.Epoch], H' := [(100, .lst .t_aRep a3_1)], σ := [(100, 5384)] })] (cs := [ECall V P 30 [.agg (d_group_Group p0)] [] [] (.agg [.own .t_aRep 100, .ro .t_bool a3_0, .I p0.Leader, .I p0.Epoch]) [(100, .lst .t_aRep a3_1)]]) (S' := ⟨[(1, .I p1), (2, .cv (.ro .t_int p2)), (3, .P 200), (6, .P 201), (8, .P 235)], [(200, .raw [.own .t_aRep 5384, .ro .t_bool a3_0, .I p0.Leader, .I p0.Epoch]), (201, .raw [.N, .N, .I 0, .I 0]), (235, .raw (d_aRep a2_0)), (5384, .lst .t_aRep a3_1)]⟩) (group_Group_clone_v2.okE h3) ?_
   refine awp_seq ?_
   obtain ⟨g3, h⟩ := guard_some h
   obtain ⟨g4, h⟩ := guard_some h
   refine ar L 251 [] [] [] (cs := [(0 : Int) ≤ p1, (p1 : Int) < (a3_1.length : Int), (Int.toNat p1) < a3_1.length, True]) (S' := ⟨[(1, .I p1), (2, .cv (.ro .t_int p2)), (3, .P 200), (6, .P 201), (8, .P 235)], [(200, .raw [.own .t_aRep 5384, .ro .t_bool a3_0, .I p0.Leader, .I p0.Epoch]), (201, .raw [.N, .N, .I 0, .I 0]), (235, .raw (d_aRep a2_0)), (5384, .lst .t_aRep (a3_1.set (Int.toNat p1) a2_0))]⟩) (And.intro g1.1 (And.intro g3 (And.intro g4 trivial))) ?_
   refine awp_seq ?_
   obtain ⟨⟨a4_0, a4_1⟩, h4, h⟩ := bind_some h
   dsimp only at h
   refine ar L 258 [] [(1, .tup [.I a4_0, .I a4_1])] [] (cs := [PCall V P 38 [.agg (d_aRep a2_0)] (.tup [.I a4_0, .I a4_1]), True]) (S' := ⟨[(1, .I p1), (2, .cv (.ro .t_int p2)), (3, .P 200), (6, .P 201), (8, .P 235), (10, .I a4_0), (11, .I a4_1)], [(200, .raw [.own .t_aRep 5384, .ro .t_bool a3_0, .I p0.Leader, .I p0.Epoch]), (201, .raw [.N, .N, .I 0, .I 0]), (235, .raw (d_aRep a2_0)), (5384, .lst .t_aRep (a3_1.set (Int.toNat p1) a2_0))]⟩) (And.intro (replog_Last.ok h4) trivial) ?_
   refine sr0 L 266 [] [] [] (S' := ⟨[(1, .I p1), (2, .cv (.ro .t_int p2)), (3, .P 200), (6, .P 201), (8, .P 235), (10, .I a4_0), (11, .I a4_1), (12, .I 1)], [(200, .raw [.own .t_aRep 5384, .ro .t_bool a3_0, .I p0.Leader, .I p0.Epoch]), (201, .raw [.N, .N, .I 0, .I 0]), (235, .raw (d_aRep a2_0)), (5384, .lst .t_aRep (a3_1.set (Int.toNat p1) a2_0))]⟩) ?_
   refine awp_seq ?_
   refine awp_seq ?_
   obtain ⟨a5, h5, h⟩ := bind_some h
   refine ar L 268 [] [(3, .cv (.ron .t_int a5))] [] (cs := [FCall V P 39 [.agg [.ro .t_aRep (a3_1.set (Int.toNat p1) a2_0), .ro .t_bool a3_0, .I p0.Leader, .I p0.Epoch], .I p1, .cv (.ro .t_int p2)] Tag.t_int a5, ∀ x, ∀ c ∈ V.E.k Tag.t_int x, c.flat = true]) (S' := ⟨[(1, .I p1), (3, .P 200), (6, .P 201), (8, .P 235), (10, .I a4_0), (11, .I a4_1), (12, .I 1), (60, .cv (.own .t_int 271)), (61, .I (a5.length : Int)), (62, .I 0)], [(200, .raw [.own .t_aRep 5384, .ro .t_bool a3_0, .I p0.Leader, .I p0.Epoch]), (201, .raw [.N, .N, .I 0, .I 0]), (235, .raw (d_aRep a2_0)), (271, .lst .t_int a5), (5384, .lst .t_aRep (a3_1.set (Int.toNat p1) a2_0))]⟩) (And.intro (group_Group_others_v2.okF h5) flat_t_int) ?_
   refine awp_block ?_
   refine awp_turn (Turns.trans (Turns.kp (S' := ⟨[(1, .I p1), (3, .P 200), (6, .P 201), (8, .P 235), (10, .I a4_0), (11, .I a4_1), (12, .I 1), (60, .cv (.own .t_int 271)), (61, .I (a5.length : Int)), (62, .I 0)], [(200, .raw [.own .t_aRep 5384, .ro .t_bool a3_0, .I p0.Leader, .I p0.Epoch]), (201, .raw [.N, .N, .I 0, .I 0]), (235, .raw (d_aRep a2_0)), (271, .lst .t_int a5), (5384, .lst .t_aRep (a3_1.set (Int.toNat p1) a2_0))]⟩)) (Turns.rn [(200, 28300), (201, 28301), (235, 28302), (271, 28303), (5384, 28304)] (S' := ⟨[(1, .I p1), (3, .P 28300), (6, .P 28301), (8, .P 28302), (10, .I a4_0), (11, .I a4_1), (12, .I 1), (60, .cv (.own .t_int 28303)), (61, .I (a5.length : Int)), (62, .I 0)], [(28300, .raw [.own .t_aRep 28304, .ro .t_bool a3_0, .I p0.Leader, .I p0.Epoch]), (28301, .raw [.N, .N, .I 0, .I 0]), (28302, .raw (d_aRep a2_0)), (28303, .lst .t_int a5), (28304, .lst .t_aRep (a3_1.set (Int.toNat p1) a2_0))]⟩))) ?_
   refine kp (S' := ⟨[(1, .I p1), (3, .P 28300), (6, .P 28301), (8, .P 28302), (10, .I a4_0), (11, .I a4_1), (12, .I 1), (60, .cv (.own .t_int 28303)), (61, .I (a5.length : Int)), (62, .I 0)], [(28300, .raw [.own .t_aRep 28304, .ro .t_bool a3_0, .I p0.Leader, .I p0.Epoch]), (28301, .raw [.N, .N, .I 0, .I 0]), (28302, .raw (d_aRep a2_0)), (28303, .lst .t_int a5), (28304, .lst .t_aRep (a3_1.set (Int.toNat p1) a2_0))]⟩) ?_
   obtain ⟨o1, hp1, h⟩ := bind_some h
   refine awp_conseq (Q' := fun e S => (e = .exit 0 ∧ ∃ xt12_41 : Int, ∃ x28203 : List aRep, S = ⟨[(1, .I p1), (3, .P 28200), (6, .P 28201), (8, .P 28202), (12, .I xt12_41)], [(28200, .raw [.own .t_aRep 28203, .ro .t_bool a3_0, .I p0.Leader, .I p0.Epoch]), (28201, .raw [.N, .N, .I 0, .I 0]), (28202, .raw (d_aRep a2_0)), (28203, .lst .t_aRep x28203)]⟩ ∧ (xt12_41, x28203) = o1)) (awp_loop (fun k S => ∃ xt12_41h : Int, ∃ xt62_41h : Int, ∃ x28304 : List aRep, S = ⟨[(1, .I p1), (3, .P 28300), (6, .P 28301), (8, .P 28302), (10, .I a4_0), (11, .I a4_1), (12, .I xt12_41h), (60, .cv (.own .t_int 28303)), (61, .I (a5.length : Int)), (62, .I xt62_41h)], [(28300, .raw [.own .t_aRep 28304, .ro .t_bool a3_0, .I p0.Leader, .I p0.Epoch]), (28301, .raw [.N, .N, .I 0, .I 0]), (28302, .raw (d_aRep a2_0)), (28303, .lst .t_int a5), (28304, .lst .t_aRep x28304)]⟩ ∧ group_Elect.l41 K p1 a2_0 a4_0 a4_1 a5 k xt12_41h xt62_41h x28304 = some o1) ?_ ⟨_, _, _, rfl, hp1⟩) ?_
   ·clear h hp1
    intro k S hS
    obtain ⟨xt12_41h, xt62_41h, x28304, rfl, h⟩ := hS
    cases k with
    | zero => cases h
    | succ k =>
    unfold group_Elect.l41 at h
    refine sr0 L 275 [] [] [] (S' := ⟨[(1, .I p1), (3, .P 28300), (6, .P 28301), (8, .P 28302), (10, .I a4_0), (11, .I a4_1), (12, .I xt12_41h), (60, .cv (.own .t_int 28303)), (61, .I (a5.length : Int)), (62, .I xt62_41h), (63, .B (decide (xt62_41h < (a5.length : Int))))], [(28300, .raw [.own .t_aRep 28304, .ro .t_bool a3_0, .I p0.Leader, .I p0.Epoch]), (28301, .raw [.N, .N, .I 0, .I 0]), (28302, .raw (d_aRep a2_0)), (28303, .lst .t_int a5), (28304, .lst .t_aRep x28304)]⟩) ?_
    refine awp_seq ?_
    rcases ite_some h with ⟨c4, h⟩ | ⟨c4, h⟩
    ·refine tt (b := (decide (xt62_41h < (a5.length : Int)))) (decide_eq_true c4) ?_
     refine awp_skip' ?_
     refine awp_seq ?_
     refine awp_block ?_
     refine awp_seq ?_
     obtain ⟨g5, h⟩ := guard_some h
     obtain ⟨g6, h⟩ := guard_some h
     refine ar L 277 [] [] [] (cs := [(0 : Int) ≤ xt62_41h, (xt62_41h : Int) < (a5.length : Int), (Int.toNat xt62_41h) < a5.length]) (S' := ⟨[(1, .I p1), (3, .P 28300), (6, .P 28301), (8, .P 28302), (10, .I a4_0), (11, .I a4_1), (12, .I xt12_41h), (14, .I (a5.getD (Int.toNat xt62_41h) (0 : Int))), (60, .cv (.own .t_int 28303)), (61, .I (a5.length : Int)), (62, .I xt62_41h)], [(28300, .raw [.own .t_aRep 28304, .ro .t_bool a3_0, .I p0.Leader, .I p0.Epoch]), (28301, .raw [.N, .N, .I 0, .I 0]), (28302, .raw (d_aRep a2_0)), (28303, .lst .t_int a5), (28304, .lst .t_aRep x28304)]⟩) (And.intro g5.1 (And.intro g5.2 g6)) ?_
     refine awp_seq ?_
     obtain ⟨g7, h⟩ := guard_some h
     obtain ⟨g8, h⟩ := guard_some h
     obtain ⟨⟨a6_0, a6_1, a6_2⟩, h6, h⟩ := bind_some h
     dsimp only at h
     refine ad L mixed 281 [] [(10, .tup [.agg (d_aRep a6_0), .B a6_1, .I a6_2])] [] [296] 19 (cs := [(0 : Int) ≤ (a5.getD (Int.toNat xt62_41h) (0 : Int)), ((a5.getD (Int.toNat xt62_41h) (0 : Int)) : Int) < (x28304.length : Int), (Int.toNat (a5.getD (Int.toNat xt62_41h) (0 : Int))) < x28304.length, PCall V P 40 [.agg (d_aRep (x28304.getD (Int.toNat (a5.getD (Int.toNat xt62_41h) (0 : Int))) z_aRep)), .I a2_0.Epoch, .I p1, .I a4_0, .I a4_1] (.tup [.agg (d_aRep a6_0), .B a6_1, .I a6_2]), True]) (S' := ⟨[(1, .I p1), (3, .P 28300), (6, .P 28301), (8, .P 28302), (10, .I a4_0), (11, .I a4_1), (12, .I xt12_41h), (14, .I (a5.getD (Int.toNat xt62_41h) (0 : Int))), (15, .P 296), (16, .B a6_1), (17, .I a6_2), (60, .cv (.own .t_int 28303)), (61, .I (a5.length : Int)), (62, .I xt62_41h)], [(296, .raw (d_aRep a6_0)), (28300, .raw [.own .t_aRep 28304, .ro .t_bool a3_0, .I p0.Leader, .I p0.Epoch]), (28301, .raw [.N, .N, .I 0, .I 0]), (28302, .raw (d_aRep a2_0)), (28303, .lst .t_int a5), (28304, .lst .t_aRep x28304)]⟩) (And.intro g7.1 (And.intro g7.2 (And.intro g8 (And.intro (ballot_Ask.ok h6) trivial)))) ?_
     refine awp_seq ?_
     refine sr0 L 301 [] [] [] (S' := ⟨[(1, .I p1), (3, .P 28300), (6, .P 28301), (8, .P 28302), (10, .I a4_0), (11, .I a4_1), (12, .I xt12_41h), (14, .I (a5.getD (Int.toNat xt62_41h) (0 : Int))), (15, .P 296), (16, .B a6_1), (60, .cv (.own .t_int 28303)), (61, .I (a5.length : Int)), (62, .I xt62_41h), (82, .B (decide (a6_2 ≠ 0)))], [(296, .raw (d_aRep a6_0)), (28300, .raw [.own .t_aRep 28304, .ro .t_bool a3_0, .I p0.Leader, .I p0.Epoch]), (28301, .raw [.N, .N, .I 0, .I 0]), (28302, .raw (d_aRep a2_0)), (28303, .lst .t_int a5), (28304, .lst .t_aRep x28304)]⟩) ?_
     rcases ite_some h with ⟨c5, h⟩ | ⟨c5, h⟩
     ·refine tt (b := (decide (a6_2 ≠ 0))) (decide_eq_true c5) ?_
      refine awp_exit' ?_
      refine ar0 L 317 [] [] [] (S' := ⟨[(1, .I p1), (3, .P 28300), (6, .P 28301), (8, .P 28302), (10, .I a4_0), (11, .I a4_1), (12, .I xt12_41h), (60, .cv (.own .t_int 28303)), (61, .I (a5.length : Int)), (62, .I (IntKind.i64.wrap (xt62_41h + 1)))], [(28300, .raw [.own .t_aRep 28304, .ro .t_bool a3_0, .I p0.Leader, .I p0.Epoch]), (28301, .raw [.N, .N, .I 0, .I 0]), (28302, .raw (d_aRep a2_0)), (28303, .lst .t_int a5), (28304, .lst .t_aRep x28304)]⟩) ?_
      exact ⟨k, Nat.lt_succ_self k, _, _, _, rfl, h⟩
     refine ff (b := (decide (a6_2 ≠ 0))) (decide_eq_false c5) ?_
     refine awp_skip' ?_
     refine sr L 304 [] [] [] (cs := [(0 : Int) ≤ (a5.getD (Int.toNat xt62_41h) (0 : Int)), ((a5.getD (Int.toNat xt62_41h) (0 : Int)) : Int) < (x28304.length : Int), (Int.toNat (a5.getD (Int.toNat xt62_41h) (0 : Int))) < x28304.length, True]) (S' := ⟨[(1, .I p1), (3, .P 28300), (6, .P 28301), (8, .P 28302), (10, .I a4_0), (11, .I a4_1), (12, .I xt12_41h), (16, .B a6_1), (60, .cv (.own .t_int 28303)), (61, .I (a5.length : Int)), (62, .I xt62_41h)], [(28300, .raw [.own .t_aRep 28304, .ro .t_bool a3_0, .I p0.Leader, .I p0.Epoch]), (28301, .raw [.N, .N, .I 0, .I 0]), (28302, .raw (d_aRep a2_0)), (28303, .lst .t_int a5), (28304, .lst .t_aRep (x28304.set (Int.toNat (a5.getD (Int.toNat xt62_41h) (0 : Int))) a6_0))]⟩) (And.intro g7.1 (And.intro g7.2 (And.intro g8 trivial))) ?_
     refine sr0 L 311 [] [] [] (S' := ⟨[(1, .I p1), (3, .P 28300), (6, .P 28301), (8, .P 28302), (10, .I a4_0), (11, .I a4_1), (12, .I xt12_41h), (60, .cv (.own .t_int 28303)), (61, .I (a5.length : Int)), (62, .I xt62_41h), (88, .B a6_1)], [(28300, .raw [.own .t_aRep 28304, .ro .t_bool a3_0, .I p0.Leader, .I p0.Epoch]), (28301, .raw [.N, .N, .I 0, .I 0]), (28302, .raw (d_aRep a2_0)), (28303, .lst .t_int a5), (28304, .lst .t_aRep (x28304.set (Int.toNat (a5.getD (Int.toNat xt62_41h) (0 : Int))) a6_0))]⟩) ?_
     rcases ite_some h with ⟨c6, h⟩ | ⟨c6, h⟩
     ·refine tt (b := a6_1) (c6) ?_
      refine ar0 L 313 [] [] [] (S' := ⟨[(1, .I p1), (3, .P 28300), (6, .P 28301), (8, .P 28302), (10, .I a4_0), (11, .I a4_1), (12, .I (IntKind.i64.wrap (xt12_41h + 1))), (60, .cv (.own .t_int 28303)), (61, .I (a5.length : Int)), (62, .I xt62_41h)], [(28300, .raw [.own .t_aRep 28304, .ro .t_bool a3_0, .I p0.Leader, .I p0.Epoch]), (28301, .raw [.N, .N, .I 0, .I 0]), (28302, .raw (d_aRep a2_0)), (28303, .lst .t_int a5), (28304, .lst .t_aRep (x28304.set (Int.toNat (a5.getD (Int.toNat xt62_41h) (0 : Int))) a6_0))]⟩) ?_
      refine ar0 L 317 [] [] [] (S' := ⟨[(1, .I p1), (3, .P 28300), (6, .P 28301), (8, .P 28302), (10, .I a4_0), (11, .I a4_1), (12, .I (IntKind.i64.wrap (xt12_41h + 1))), (60, .cv (.own .t_int 28303)), (61, .I (a5.length : Int)), (62, .I (IntKind.i64.wrap (xt62_41h + 1)))], [(28300, .raw [.own .t_aRep 28304, .ro .t_bool a3_0, .I p0.Leader, .I p0.Epoch]), (28301, .raw [.N, .N, .I 0, .I 0]), (28302, .raw (d_aRep a2_0)), (28303, .lst .t_int a5), (28304, .lst .t_aRep (x28304.set (Int.toNat (a5.getD (Int.toNat xt62_41h) (0 : Int))) a6_0))]⟩) ?_
      exact ⟨k, Nat.lt_succ_self k, _, _, _, rfl, h⟩
     refine ff (b := a6_1) (eq_false_of_ne_true c6) ?_
     refine awp_skip' ?_
     refine ar0 L 317 [] [] [] (S' := ⟨[(1, .I p1), (3, .P 28300), (6, .P 28301), (8, .P 28302), (10, .I a4_0), (11, .I a4_1), (12, .I xt12_41h), (60, .cv (.own .t_int 28303)), (61, .I (a5.length : Int)), (62, .I (IntKind.i64.wrap (xt62_41h + 1)))], [(28300, .raw [.own .t_aRep 28304, .ro .t_bool a3_0, .I p0.Leader, .I p0.Epoch]), (28301, .raw [.N, .N, .I 0, .I 0]), (28302, .raw (d_aRep a2_0)), (28303, .lst .t_int a5), (28304, .lst .t_aRep (x28304.set (Int.toNat (a5.getD (Int.toNat xt62_41h) (0 : Int))) a6_0))]⟩) ?_
     exact ⟨k, Nat.lt_succ_self k, _, _, _, rfl, h⟩
    refine ff (b := (decide (xt62_41h < (a5.length : Int)))) (decide_eq_false c4) ?_
    refine awp_turn (Turns.trans (Turns.kp (S' := ⟨[(1, .I p1), (3, .P 28300), (6, .P 28301), (8, .P 28302), (12, .I xt12_41h)], [(28300, .raw [.own .t_aRep 28304, .ro .t_bool a3_0, .I p0.Leader, .I p0.Epoch]), (28301, .raw [.N, .N, .I 0, .I 0]), (28302, .raw (d_aRep a2_0)), (28304, .lst .t_aRep x28304)]⟩)) (Turns.rn [(28300, 28200), (28301, 28201), (28302, 28202), (28304, 28203)] (S' := ⟨[(1, .I p1), (3, .P 28200), (6, .P 28201), (8, .P 28202), (12, .I xt12_41h)], [(28200, .raw [.own .t_aRep 28203, .ro .t_bool a3_0, .I p0.Leader, .I p0.Epoch]), (28201, .raw [.N, .N, .I 0, .I 0]), (28202, .raw (d_aRep a2_0)), (28203, .lst .t_aRep x28304)]⟩))) ?_
    refine ex (S' := ⟨[(1, .I p1), (3, .P 28200), (6, .P 28201), (8, .P 28202), (12, .I xt12_41h)], [(28200, .raw [.own .t_aRep 28203, .ro .t_bool a3_0, .I p0.Leader, .I p0.Epoch]), (28201, .raw [.N, .N, .I 0, .I 0]), (28202, .raw (d_aRep a2_0)), (28203, .lst .t_aRep x28304)]⟩) ?_
    obtain rfl := Option.some.inj h
    exact ⟨rfl, _, _, rfl, rfl⟩
   ·rintro e S ⟨rfl, xt12_41, x28203, rfl, rfl⟩
    dsimp only at h
    refine ⟨_, Turns.refl, ?_⟩
    refine awp_seq ?_
    refine awp_seq ?_
    obtain ⟨a7, h7, h⟩ := bind_some h
    refine ar L 320 [] [(4, .B a7)] [] (cs := [PCall V P 41 [.I xt12_41, .I (x28203.length : Int)] (.B a7), True]) (S' := ⟨[(1, .I p1), (3, .P 28200), (6, .P 28201), (8, .P 28202), (97, .B (!a7))], [(28200, .raw [.own .t_aRep 28203, .ro .t_bool a3_0, .I p0.Leader, .I p0.Epoch]), (28201, .raw [.N, .N, .I 0, .I 0]), (28202, .raw (d_aRep a2_0)), (28203, .lst .t_aRep x28203)]⟩) (And.intro (quorum_Won.ok h7) trivial) ?_
    rcases ite_some h with ⟨c7, h⟩ | ⟨c7, h⟩
    ·refine ff (b := (!a7)) (congrArg Bool.not (c7)) ?_
     refine awp_skip' ?_
     refine awp_seq ?_
     refine aA L mixed 331 [] [] [] [] 0 10 (cs := []) (S' := ⟨[(3, .P 28200), (6, .P 28201)], [(28200, .raw [.own .t_aRep 28203, .ro .t_bool a3_0, .I p1, .I a2_0.Epoch]), (28201, .raw [.N, .N, .I 0, .I 0]), (28203, .lst .t_aRep x28203)]⟩) trivial ?_
     refine sr0 L 339 [] [] [] (S' := ⟨[(6, .P 28201), (7, .I 0)], [(28201, .raw [.own .t_aRep 28203, .ro .t_bool a3_0, .I p1, .I a2_0.Epoch]), (28203, .lst .t_aRep x28203)]⟩) ?_
     refine awp_turn (Turns.trans (Turns.frz 28203 (blk0 := .lst .t_aRep x28203) (by kernel_rfl) (by kernel_rfl) (S' := ⟨[(6, .P 28201), (7, .I 0)], [(28201, .raw [.ro .t_aRep x28203, .ro .t_bool a3_0, .I p1, .I a2_0.Epoch])]⟩) (by kernel_rfl)) (Turns.rn [(28201, 100)] (S' := ⟨[(6, .P 100), (7, .I 0)], [(100, .raw [.ro .t_aRep x28203, .ro .t_bool a3_0, .I p1, .I a2_0.Epoch])]⟩))) ?_
     refine awp_ret ?_
     obtain rfl := Option.some.inj h
     exact er (.tup [.agg [.ro .t_aRep x28203, .ro .t_bool a3_0, .I p1, .I a2_0.Epoch], .I 0])
    refine tt (b := (!a7)) (congrArg Bool.not (eq_false_of_ne_true c7)) ?_
    refine sr0 L 327 [] [] [] (S' := ⟨[(6, .P 28201), (7, .I 27)], [(28201, .raw [.own .t_aRep 28203, .ro .t_bool a3_0, .I p0.Leader, .I p0.Epoch]), (28203, .lst .t_aRep x28203)]⟩) ?_
    refine awp_turn (Turns.trans (Turns.frz 28203 (blk0 := .lst .t_aRep x28203) (by kernel_rfl) (by kernel_rfl) (S' := ⟨[(6, .P 28201), (7, .I 27)], [(28201, .raw [.ro .t_aRep x28203, .ro .t_bool a3_0, .I p0.Leader, .I p0.Epoch])]⟩) (by kernel_rfl)) (Turns.rn [(28201, 100)] (S' := ⟨[(6, .P 100), (7, .I 27)], [(100, .raw [.ro .t_aRep x28203, .ro .t_bool a3_0, .I p0.Leader, .I p0.Epoch])]⟩))) ?_
    refine awp_ret ?_
    obtain rfl := Option.some.inj h
    exact er (.tup [.agg [.ro .t_aRep x28203, .ro .t_bool a3_0, .I p0.Leader, .I p0.Epoch], .I 27])
  refine tt (b := (!(p0.Up.getD (Int.toNat p1) false))) (congrArg Bool.not (eq_false_of_ne_true c2)) ?_
  refine sr0 L 221 [] [] [] (S' := ⟨[(6, .P 201), (7, .I 28)], [(201, .raw [.N, .N, .I 0, .I 0])]⟩) ?_
  refine awp_turn (Turns.rn [(201, 100)] (S' := ⟨[(6, .P 100), (7, .I 28)], [(100, .raw [.N, .N, .I 0, .I 0])]⟩)) ?_
  refine awp_ret ?_
  obtain rfl := Option.some.inj h
  exact er (.tup [.agg [.N, .N, .I 0, .I 0], .I 28])
 refine tt (b := (!a1)) (congrArg Bool.not (eq_false_of_ne_true c1)) ?_
 refine sr0 L 210 [] [] [] (S' := ⟨[(6, .P 201), (7, .I 2)], [(201, .raw [.N, .N, .I 0, .I 0])]⟩) ?_
 refine awp_turn (Turns.rn [(201, 100)] (S' := ⟨[(6, .P 100), (7, .I 2)], [(100, .raw [.N, .N, .I 0, .I 0])]⟩)) ?_
 refine awp_ret ?_
 obtain rfl := Option.some.inj h
 exact er (.tup [.agg [.N, .N, .I 0, .I 0], .I 2])
theorem group_Elect.ok {K : Nat} {p0 : group_Group} {p1 : Int} {p2 : List Int} {r : group_Group × Int} (h : group_Elect K p0 p1 p2 = some r) : PCall V P 17 [.agg (d_group_Group p0), .I p1, .cv (.ro .t_int p2)] (.tup [.agg [.ro .t_aRep r.1.Replicas, .ro .t_bool r.1.Up, .I r.1.Leader, .I r.1.Epoch], .I r.2]) := ECall.pcall (eo (fn := Tryz.f17) (n := 105) (m := 100) fun Γ => group_Elect.body h) (by kernel_rfl)
def wr52_in (K : Nat) (p0 : Int) (p1 : Int) (p2 : Int) : Option Bool := (if p0 ≥ p1 then some (decide (p0 ≤ p2)) else some false)
theorem wr52_in.body {Γ : Ent} {K : Nat} {p0 : Int} {p1 : Int} {p2 : Int} {r : Bool} (h : wr52_in K p0 p1 p2 = some r) : AWp V P 15 100 Γ (Tryz.f66.body.getD .skip) (EndsE P V Tryz.f66 (.B r) []) ⟨args0 0 [.I p0, .I p1, .I p2], []⟩ := by
 unfold wr52_in at h
 refine sr0 L 200 [] [] [] (S' := ⟨[(0, .I p0), (1, .I p1), (2, .I p2)], []⟩) ?_
 refine awp_seq ?_
 rcases ite_some h with ⟨c1, h⟩ | ⟨c1, h⟩
 ·refine ar L 202 [(3, true)] [] [] (cs := [(decide (p0 ≥ p1)) = true]) (S' := ⟨[(6, .B (decide (p0 ≤ p2)))], []⟩) (decide_eq_true c1) ?_
  refine awp_ret ?_
  obtain rfl := Option.some.inj h
  exact er (.B (decide (p0 ≤ p2)))
 refine ar L 202 [(3, false)] [] [] (cs := [(decide (p0 ≥ p1)) = false]) (S' := ⟨[(6, .B false)], []⟩) (decide_eq_false c1) ?_
 refine awp_ret ?_
 obtain rfl := Option.some.inj h
 exact er (.B false)
theorem wr52_in.ok {K : Nat} {p0 : Int} {p1 : Int} {p2 : Int} {r : Bool} (h : wr52_in K p0 p1 p2 = some r) : PCall V P 66 [.I p0, .I p1, .I p2] (.B r) := ECall.pcall (eo (fn := Tryz.f66) (n := 15) (m := 100) fun Γ => wr52_in.body h) (by kernel_rfl)
def wr52_Right.l17 (K : Nat) (p0 : aRep) : Nat → Int → Int → Option (Out Bool Unit)
 | 0, _, _ => none
 | k + 1, xt3_17h, xt4_17h => (if xt4_17h < (p0.Log.length : Int) then (if (0 : Int) ≤ xt4_17h ∧ (xt4_17h : Int) < (p0.Log.length : Int) then (Option.bind (wr52_in K ((p0.Log.getD (Int.toNat xt4_17h) z_aEnt).Epoch) xt3_17h p0.Epoch) (fun a4 => (if a4 = true then (if (((p0.Log.getD (Int.toNat xt4_17h) z_aEnt).Data).length : Int) > 65536 then some (Out.done false) else wr52_Right.l17 K p0 k ((p0.Log.getD (Int.toNat xt4_17h) z_aEnt).Epoch) (IntKind.i64.wrap (xt4_17h + 1))) else some (Out.done false)))) else none) else some (Out.go ()))
def wr52_Right (K : Nat) (p0 : aRep) : Option Bool := (Option.bind (wr52_in K p0.Epoch 0 1099511627776) (fun a1 => (if a1 = true then (Option.bind (wr52_in K p0.Vote (-1) 8) (fun a2 => (if a2 = true then (if (p0.Log.length : Int) > 5000 then some false else (Option.bind (wr52_in K p0.Commit 0 (p0.Log.length : Int)) (fun a3 => (if a3 = true then (obind (wr52_Right.l17 K p0 K 1 0 : Option (Out Bool Unit)) (fun r => r) (fun _ => some true)) else some false)))) else some false))) else some false)))
theorem wr52_Right.body {Γ : Ent} {K : Nat} {p0 : aRep} {r : Bool} (h : wr52_Right K p0 = some r) : AWp V P 64 100 Γ (Tryz.f33.body.getD .skip) (EndsE P V Tryz.f33 (.B r) []) ⟨args0 0 [.agg (d_aRep p0)], []⟩ := by
 unfold wr52_Right at h
 refine sr0 L 200 [] [] [] (S' := ⟨[(1, .P 200)], [(200, .raw (d_aRep p0))]⟩) ?_
 refine awp_seq ?_
 refine awp_seq ?_
 obtain ⟨a1, h1, h⟩ := bind_some h
 rcases ite_some h with ⟨c1, h⟩ | ⟨c1, h⟩
 ·obtain ⟨a2, h2, h⟩ := bind_some h
  rcases ite_some h with ⟨c2, h⟩ | ⟨c2, h⟩
  ·rcases ite_some h with ⟨c3, h⟩ | ⟨c3, h⟩
   ·refine ar L 203 [(4, false), (10, false), (16, true)] [(2, .B a1), (7, .B a2)] [] (cs := [PCall V P 66 [.I p0.Epoch, .I 0, .I 1099511627776] (.B a1), True, (!a1) = false, PCall V P 66 [.I p0.Vote, .I (-1), .I 8] (.B a2), True, (!a2) = false, (decide ((p0.Log.length : Int) > 5000)) = true]) (S' := ⟨[(1, .P 200), (29, .B true)], [(200, .raw (d_aRep p0))]⟩) (And.intro (wr52_in.ok h1) (And.intro trivial (And.intro (congrArg Bool.not (c1)) (And.intro (wr52_in.ok h2) (And.intro trivial (And.intro (congrArg Bool.not (c2)) (decide_eq_true c3))))))) ?_
    refine tt (b := true) (rfl) ?_
    refine sr0 L 229 [] [] [] (S' := ⟨[(2, .B false)], []⟩) ?_
    refine awp_ret ?_
    obtain rfl := Option.some.inj h
    exact er (.B false)
   obtain ⟨a3, h3, h⟩ := bind_some h
   refine ar L 203 [(4, false), (10, false), (16, false)] [(2, .B a1), (7, .B a2), (22, .B a3)] [] (cs := [PCall V P 66 [.I p0.Epoch, .I 0, .I 1099511627776] (.B a1), True, (!a1) = false, PCall V P 66 [.I p0.Vote, .I (-1), .I 8] (.B a2), True, (!a2) = false, (decide ((p0.Log.length : Int) > 5000)) = false, PCall V P 66 [.I p0.Commit, .I 0, .I (p0.Log.length : Int)] (.B a3), True]) (S' := ⟨[(1, .P 200), (29, .B (!a3))], [(200, .raw (d_aRep p0))]⟩) (And.intro (wr52_in.ok h1) (And.intro trivial (And.intro (congrArg Bool.not (c1)) (And.intro (wr52_in.ok h2) (And.intro trivial (And.intro (congrArg Bool.not (c2)) (And.intro (decide_eq_false c3) (And.intro (wr52_in.ok h3) trivial)))))))) ?_
   rcases ite_some h with ⟨c4, h⟩ | ⟨c4, h⟩
   ·refine ff (b := (!a3)) (congrArg Bool.not (c4)) ?_
    refine awp_skip' ?_
    refine sr0 L 231 [] [] [] (S' := ⟨[(1, .P 200), (3, .I 1)], [(200, .raw (d_aRep p0))]⟩) ?_
    refine awp_seq ?_
    refine sr0 L 233 [] [] [] (S' := ⟨[(1, .P 200), (3, .I 1), (4, .I 0)], [(200, .raw (d_aRep p0))]⟩) ?_
    refine awp_block ?_
    refine awp_turn (Turns.trans (Turns.kp (S' := ⟨[(1, .P 200), (3, .I 1), (4, .I 0)], [(200, .raw (d_aRep p0))]⟩)) (Turns.rn [(200, 23500)] (S' := ⟨[(1, .P 23500), (3, .I 1), (4, .I 0)], [(23500, .raw (d_aRep p0))]⟩))) ?_
    refine kp (S' := ⟨[(1, .P 23500), (3, .I 1), (4, .I 0)], [(23500, .raw (d_aRep p0))]⟩) ?_
    obtain ⟨o1, hp1, h⟩ := obind_some h
    refine awp_conseq (Q' := fun e S => (e = .exit 0 ∧ S = ⟨[], []⟩ ∧ Out.go () = o1) ∨ (e = .ret ∧ ∃ a, Out.done a = o1 ∧ EndsE P V Tryz.f33 (.B a) [] .ret S)) (awp_loop (fun k S => ∃ xt3_17h : Int, ∃ xt4_17h : Int, S = ⟨[(1, .P 23500), (3, .I xt3_17h), (4, .I xt4_17h)], [(23500, .raw (d_aRep p0))]⟩ ∧ wr52_Right.l17 K p0 k xt3_17h xt4_17h = some o1) ?_ ⟨_, _, rfl, hp1⟩) ?_
    ·clear h hp1
     intro k S hS
     obtain ⟨xt3_17h, xt4_17h, rfl, h⟩ := hS
     cases k with
     | zero => cases h
     | succ k =>
     unfold wr52_Right.l17 at h
     refine awp_seq ?_
     refine sr0 L 235 [] [] [] (S' := ⟨[(1, .P 23500), (3, .I xt3_17h), (4, .I xt4_17h), (34, .B (decide (xt4_17h < (p0.Log.length : Int))))], [(23500, .raw (d_aRep p0))]⟩) ?_
     rcases ite_some h with ⟨c5, h⟩ | ⟨c5, h⟩
     ·refine tt (b := (decide (xt4_17h < (p0.Log.length : Int)))) (decide_eq_true c5) ?_
      refine awp_skip' ?_
      refine awp_seq ?_
      refine awp_block ?_
      refine awp_seq ?_
      refine awp_seq ?_
      obtain ⟨g1, h⟩ := guard_some h
      obtain ⟨a4, h4, h⟩ := bind_some h
      rcases ite_some h with ⟨c6, h⟩ | ⟨c6, h⟩
      ·refine ad L mixed 241 [(11, false)] [(9, .B a4)] [] [] 21 (cs := [(0 : Int) ≤ xt4_17h, (xt4_17h : Int) < (p0.Log.length : Int), PCall V P 66 [.I ((p0.Log.getD (Int.toNat xt4_17h) z_aEnt).Epoch), .I xt3_17h, .I p0.Epoch] (.B a4), True, (!a4) = false, (0 : Int) ≤ xt4_17h, (xt4_17h : Int) < (p0.Log.length : Int)]) (S' := ⟨[(1, .P 23500), (4, .I xt4_17h), (57, .B ((decide ((((p0.Log.getD (Int.toNat xt4_17h) z_aEnt).Data).length : Int) > 65536))))], [(23500, .raw (d_aRep p0))]⟩) (And.intro g1.1 (And.intro g1.2 (And.intro (wr52_in.ok h4) (And.intro trivial (And.intro (congrArg Bool.not (c6)) (And.intro g1.1 g1.2)))))) ?_
       rcases ite_some h with ⟨c7, h⟩ | ⟨c7, h⟩
       ·refine tt (b := (decide ((((p0.Log.getD (Int.toNat xt4_17h) z_aEnt).Data).length : Int) > 65536))) (decide_eq_true c7) ?_
        refine sr0 L 263 [] [] [] (S' := ⟨[(2, .B false)], []⟩) ?_
        refine awp_ret ?_
        obtain rfl := Option.some.inj h
        exact .inr ⟨rfl, _, rfl, er (.B false)⟩
       refine ff (b := (decide ((((p0.Log.getD (Int.toNat xt4_17h) z_aEnt).Data).length : Int) > 65536))) (decide_eq_false c7) ?_
       refine awp_skip' ?_
       refine ar L 265 [] [] [] (cs := [(0 : Int) ≤ xt4_17h, (xt4_17h : Int) < (p0.Log.length : Int)]) (S' := ⟨[(1, .P 23500), (3, .I ((p0.Log.getD (Int.toNat xt4_17h) z_aEnt).Epoch)), (4, .I xt4_17h)], [(23500, .raw (d_aRep p0))]⟩) (And.intro g1.1 g1.2) ?_
       refine ar0 L 273 [] [] [] (S' := ⟨[(1, .P 23500), (3, .I ((p0.Log.getD (Int.toNat xt4_17h) z_aEnt).Epoch)), (4, .I (IntKind.i64.wrap (xt4_17h + 1)))], [(23500, .raw (d_aRep p0))]⟩) ?_
       exact ⟨k, Nat.lt_succ_self k, _, _, rfl, h⟩
      refine ad L mixed 241 [(11, true)] [(9, .B a4)] [] [] 21 (cs := [(0 : Int) ≤ xt4_17h, (xt4_17h : Int) < (p0.Log.length : Int), PCall V P 66 [.I ((p0.Log.getD (Int.toNat xt4_17h) z_aEnt).Epoch), .I xt3_17h, .I p0.Epoch] (.B a4), True, (!a4) = true]) (S' := ⟨[(1, .P 23500), (4, .I xt4_17h), (57, .B true)], [(23500, .raw (d_aRep p0))]⟩) (And.intro g1.1 (And.intro g1.2 (And.intro (wr52_in.ok h4) (And.intro trivial (congrArg Bool.not (eq_false_of_ne_true c6)))))) ?_
      refine tt (b := true) (rfl) ?_
      refine sr0 L 263 [] [] [] (S' := ⟨[(2, .B false)], []⟩) ?_
      refine awp_ret ?_
      obtain rfl := Option.some.inj h
      exact .inr ⟨rfl, _, rfl, er (.B false)⟩
     refine ff (b := (decide (xt4_17h < (p0.Log.length : Int)))) (decide_eq_false c5) ?_
     refine ex (S' := ⟨[], []⟩) ?_
     obtain rfl := Option.some.inj h
     exact .inl ⟨rfl, rfl, rfl⟩
    ·rintro e S (⟨rfl, rfl, rfl⟩ | ⟨rfl, a, rfl, hr⟩)
     ·rcases h with ⟨_, e1, h⟩ | ⟨_, e1, h⟩
      ·cases e1
      ·have e2 := Out.go.inj e1
       subst e2
       refine ⟨_, Turns.refl, ?_⟩
       refine sr0 L 277 [] [] [] (S' := ⟨[(2, .B true)], []⟩) ?_
       refine awp_ret ?_
       obtain rfl := Option.some.inj h
       exact er (.B true)
     ·rcases h with ⟨_, e1, h⟩ | ⟨_, e1, h⟩
      ·have e2 := Out.done.inj e1
       subst e2
       subst h
       exact ⟨_, Turns.refl, hr⟩
      ·cases e1
   refine tt (b := (!a3)) (congrArg Bool.not (eq_false_of_ne_true c4)) ?_
   refine sr0 L 229 [] [] [] (S' := ⟨[(2, .B false)], []⟩) ?_
   refine awp_ret ?_
   obtain rfl := Option.some.inj h
   exact er (.B false)
  refine ar L 203 [(4, false), (10, true)] [(2, .B a1), (7, .B a2)] [] (cs := [PCall V P 66 [.I p0.Epoch, .I 0, .I 1099511627776] (.B a1), True, (!a1) = false, PCall V P 66 [.I p0.Vote, .I (-1), .I 8] (.B a2), True, (!a2) = true]) (S' := ⟨[(1, .P 200), (29, .B true)], [(200, .raw (d_aRep p0))]⟩) (And.intro (wr52_in.ok h1) (And.intro trivial (And.intro (congrArg Bool.not (c1)) (And.intro (wr52_in.ok h2) (And.intro trivial (congrArg Bool.not (eq_false_of_ne_true c2))))))) ?_
  refine tt (b := true) (rfl) ?_
  refine sr0 L 229 [] [] [] (S' := ⟨[(2, .B false)], []⟩) ?_
  refine awp_ret ?_
  obtain rfl := Option.some.inj h
  exact er (.B false)
 refine ar L 203 [(4, true)] [(2, .B a1)] [] (cs := [PCall V P 66 [.I p0.Epoch, .I 0, .I 1099511627776] (.B a1), True, (!a1) = true]) (S' := ⟨[(1, .P 200), (29, .B true)], [(200, .raw (d_aRep p0))]⟩) (And.intro (wr52_in.ok h1) (And.intro trivial (congrArg Bool.not (eq_false_of_ne_true c1)))) ?_
 refine tt (b := true) (rfl) ?_
 refine sr0 L 229 [] [] [] (S' := ⟨[(2, .B false)], []⟩) ?_
 refine awp_ret ?_
 obtain rfl := Option.some.inj h
 exact er (.B false)
theorem wr52_Right.ok {K : Nat} {p0 : aRep} {r : Bool} (h : wr52_Right K p0 = some r) : PCall V P 33 [.agg (d_aRep p0)] (.B r) := ECall.pcall (eo (fn := Tryz.f33) (n := 64) (m := 100) fun Γ => wr52_Right.body h) (by kernel_rfl)
def wr55_Right.l17 (K : Nat) (p0 : wr55_Group) : Nat → Int → Option (Out Bool Unit)
 | 0, _ => none
 | k + 1, xt4_17h => (if xt4_17h < (p0.Replicas.length : Int) then (if (0 : Int) ≤ xt4_17h ∧ (xt4_17h : Int) < (p0.Replicas.length : Int) then (Option.bind (wr52_Right K (p0.Replicas.getD (Int.toNat xt4_17h) z_aRep)) (fun a1 => (if a1 = true then wr55_Right.l17 K p0 k (IntKind.i64.wrap (xt4_17h + 1)) else some (Out.done false)))) else none) else some (Out.go ()))
def wr55_Right (K : Nat) (p0 : wr55_Group) : Option Bool := (if (p0.Replicas.length : Int) < 1 then some false else (if (p0.Replicas.length : Int) > 9 then some false else (if (p0.Up.length : Int) ≠ (p0.Replicas.length : Int) then some false else (if p0.Leader < (-1) then some false else (if p0.Leader ≥ (p0.Replicas.length : Int) then some false else (if p0.Epoch < 0 then some false else (if p0.Epoch > 1099511627776 then some false else (obind (wr55_Right.l17 K p0 K 0 : Option (Out Bool Unit)) (fun r => r) (fun _ => some true)))))))))
theorem wr55_Right.body {Γ : Ent} {K : Nat} {p0 : wr55_Group} {r : Bool} (h : wr55_Right K p0 = some r) : AWp V P 54 100 Γ (Tryz.f14.body.getD .skip) (EndsE P V Tryz.f14 (.B r) []) ⟨args0 0 [.agg (d_wr55_Group p0)], []⟩ := by
 unfold wr55_Right at h
 refine sr0 L 200 [] [] [] (S' := ⟨[(1, .P 200)], [(200, .raw (d_wr55_Group p0))]⟩) ?_
 refine sr0 L 203 [] [] [] (S' := ⟨[(1, .P 200), (3, .I (p0.Replicas.length : Int))], [(200, .raw (d_wr55_Group p0))]⟩) ?_
 refine awp_seq ?_
 refine awp_seq ?_
 rcases ite_some h with ⟨c1, h⟩ | ⟨c1, h⟩
 ·refine ar L 208 [(2, true)] [] [] (cs := [(decide ((p0.Replicas.length : Int) < 1)) = true]) (S' := ⟨[(1, .P 200), (3, .I (p0.Replicas.length : Int)), (41, .B true)], [(200, .raw (d_wr55_Group p0))]⟩) (decide_eq_true c1) ?_
  refine tt (b := true) (rfl) ?_
  refine sr0 L 243 [] [] [] (S' := ⟨[(2, .B false)], []⟩) ?_
  refine awp_ret ?_
  obtain rfl := Option.some.inj h
  exact er (.B false)
 rcases ite_some h with ⟨c2, h⟩ | ⟨c2, h⟩
 ·refine ar L 208 [(2, false), (6, true)] [] [] (cs := [(decide ((p0.Replicas.length : Int) < 1)) = false, (decide ((p0.Replicas.length : Int) > 9)) = true]) (S' := ⟨[(1, .P 200), (3, .I (p0.Replicas.length : Int)), (41, .B true)], [(200, .raw (d_wr55_Group p0))]⟩) (And.intro (decide_eq_false c1) (decide_eq_true c2)) ?_
  refine tt (b := true) (rfl) ?_
  refine sr0 L 243 [] [] [] (S' := ⟨[(2, .B false)], []⟩) ?_
  refine awp_ret ?_
  obtain rfl := Option.some.inj h
  exact er (.B false)
 rcases ite_some h with ⟨c3, h⟩ | ⟨c3, h⟩
 ·refine ar L 208 [(2, false), (6, false), (13, true)] [] [] (cs := [(decide ((p0.Replicas.length : Int) < 1)) = false, (decide ((p0.Replicas.length : Int) > 9)) = false, (decide ((p0.Up.length : Int) ≠ (p0.Replicas.length : Int))) = true]) (S' := ⟨[(1, .P 200), (3, .I (p0.Replicas.length : Int)), (41, .B true)], [(200, .raw (d_wr55_Group p0))]⟩) (And.intro (decide_eq_false c1) (And.intro (decide_eq_false c2) (decide_eq_true c3))) ?_
  refine tt (b := true) (rfl) ?_
  refine sr0 L 243 [] [] [] (S' := ⟨[(2, .B false)], []⟩) ?_
  refine awp_ret ?_
  obtain rfl := Option.some.inj h
  exact er (.B false)
 rcases ite_some h with ⟨c4, h⟩ | ⟨c4, h⟩
 ·refine ar L 208 [(2, false), (6, false), (13, false), (18, true)] [] [] (cs := [(decide ((p0.Replicas.length : Int) < 1)) = false, (decide ((p0.Replicas.length : Int) > 9)) = false, (decide ((p0.Up.length : Int) ≠ (p0.Replicas.length : Int))) = false, (decide (p0.Leader < (-1))) = true]) (S' := ⟨[(1, .P 200), (3, .I (p0.Replicas.length : Int)), (41, .B true)], [(200, .raw (d_wr55_Group p0))]⟩) (And.intro (decide_eq_false c1) (And.intro (decide_eq_false c2) (And.intro (decide_eq_false c3) (decide_eq_true c4)))) ?_
  refine tt (b := true) (rfl) ?_
  refine sr0 L 243 [] [] [] (S' := ⟨[(2, .B false)], []⟩) ?_
  refine awp_ret ?_
  obtain rfl := Option.some.inj h
  exact er (.B false)
 rcases ite_some h with ⟨c5, h⟩ | ⟨c5, h⟩
 ·refine ar L 208 [(2, false), (6, false), (13, false), (18, false), (24, true)] [] [] (cs := [(decide ((p0.Replicas.length : Int) < 1)) = false, (decide ((p0.Replicas.length : Int) > 9)) = false, (decide ((p0.Up.length : Int) ≠ (p0.Replicas.length : Int))) = false, (decide (p0.Leader < (-1))) = false, (decide (p0.Leader ≥ (p0.Replicas.length : Int))) = true]) (S' := ⟨[(1, .P 200), (3, .I (p0.Replicas.length : Int)), (41, .B true)], [(200, .raw (d_wr55_Group p0))]⟩) (And.intro (decide_eq_false c1) (And.intro (decide_eq_false c2) (And.intro (decide_eq_false c3) (And.intro (decide_eq_false c4) (decide_eq_true c5))))) ?_
  refine tt (b := true) (rfl) ?_
  refine sr0 L 243 [] [] [] (S' := ⟨[(2, .B false)], []⟩) ?_
  refine awp_ret ?_
  obtain rfl := Option.some.inj h
  exact er (.B false)
 rcases ite_some h with ⟨c6, h⟩ | ⟨c6, h⟩
 ·refine ar L 208 [(2, false), (6, false), (13, false), (18, false), (24, false), (29, true)] [] [] (cs := [(decide ((p0.Replicas.length : Int) < 1)) = false, (decide ((p0.Replicas.length : Int) > 9)) = false, (decide ((p0.Up.length : Int) ≠ (p0.Replicas.length : Int))) = false, (decide (p0.Leader < (-1))) = false, (decide (p0.Leader ≥ (p0.Replicas.length : Int))) = false, (decide (p0.Epoch < 0)) = true]) (S' := ⟨[(1, .P 200), (3, .I (p0.Replicas.length : Int)), (41, .B true)], [(200, .raw (d_wr55_Group p0))]⟩) (And.intro (decide_eq_false c1) (And.intro (decide_eq_false c2) (And.intro (decide_eq_false c3) (And.intro (decide_eq_false c4) (And.intro (decide_eq_false c5) (decide_eq_true c6)))))) ?_
  refine tt (b := true) (rfl) ?_
  refine sr0 L 243 [] [] [] (S' := ⟨[(2, .B false)], []⟩) ?_
  refine awp_ret ?_
  obtain rfl := Option.some.inj h
  exact er (.B false)
 refine ar L 208 [(2, false), (6, false), (13, false), (18, false), (24, false), (29, false)] [] [] (cs := [(decide ((p0.Replicas.length : Int) < 1)) = false, (decide ((p0.Replicas.length : Int) > 9)) = false, (decide ((p0.Up.length : Int) ≠ (p0.Replicas.length : Int))) = false, (decide (p0.Leader < (-1))) = false, (decide (p0.Leader ≥ (p0.Replicas.length : Int))) = false, (decide (p0.Epoch < 0)) = false]) (S' := ⟨[(1, .P 200), (3, .I (p0.Replicas.length : Int)), (41, .B (decide (p0.Epoch > 1099511627776)))], [(200, .raw (d_wr55_Group p0))]⟩) (And.intro (decide_eq_false c1) (And.intro (decide_eq_false c2) (And.intro (decide_eq_false c3) (And.intro (decide_eq_false c4) (And.intro (decide_eq_false c5) (decide_eq_false c6)))))) ?_
 rcases ite_some h with ⟨c7, h⟩ | ⟨c7, h⟩
 ·refine tt (b := (decide (p0.Epoch > 1099511627776))) (decide_eq_true c7) ?_
  refine sr0 L 243 [] [] [] (S' := ⟨[(2, .B false)], []⟩) ?_
  refine awp_ret ?_
  obtain rfl := Option.some.inj h
  exact er (.B false)
 refine ff (b := (decide (p0.Epoch > 1099511627776))) (decide_eq_false c7) ?_
 refine awp_skip' ?_
 refine awp_seq ?_
 refine sr0 L 245 [] [] [] (S' := ⟨[(1, .P 200), (3, .I (p0.Replicas.length : Int)), (4, .I 0)], [(200, .raw (d_wr55_Group p0))]⟩) ?_
 refine awp_block ?_
 refine awp_turn (Turns.trans (Turns.kp (S' := ⟨[(1, .P 200), (3, .I (p0.Replicas.length : Int)), (4, .I 0)], [(200, .raw (d_wr55_Group p0))]⟩)) (Turns.rn [(200, 23500)] (S' := ⟨[(1, .P 23500), (3, .I (p0.Replicas.length : Int)), (4, .I 0)], [(23500, .raw (d_wr55_Group p0))]⟩))) ?_
 refine kp (S' := ⟨[(1, .P 23500), (3, .I (p0.Replicas.length : Int)), (4, .I 0)], [(23500, .raw (d_wr55_Group p0))]⟩) ?_
 obtain ⟨o1, hp1, h⟩ := obind_some h
 refine awp_conseq (Q' := fun e S => (e = .exit 0 ∧ S = ⟨[], []⟩ ∧ Out.go () = o1) ∨ (e = .ret ∧ ∃ a, Out.done a = o1 ∧ EndsE P V Tryz.f14 (.B a) [] .ret S)) (awp_loop (fun k S => ∃ xt4_17h : Int, S = ⟨[(1, .P 23500), (3, .I (p0.Replicas.length : Int)), (4, .I xt4_17h)], [(23500, .raw (d_wr55_Group p0))]⟩ ∧ wr55_Right.l17 K p0 k xt4_17h = some o1) ?_ ⟨_, rfl, hp1⟩) ?_
 ·clear h hp1
  intro k S hS
  obtain ⟨xt4_17h, rfl, h⟩ := hS
  cases k with
  | zero => cases h
  | succ k =>
  unfold wr55_Right.l17 at h
  refine awp_seq ?_
  refine sr0 L 247 [] [] [] (S' := ⟨[(1, .P 23500), (3, .I (p0.Replicas.length : Int)), (4, .I xt4_17h), (44, .B (decide (xt4_17h < (p0.Replicas.length : Int))))], [(23500, .raw (d_wr55_Group p0))]⟩) ?_
  rcases ite_some h with ⟨c8, h⟩ | ⟨c8, h⟩
  ·refine tt (b := (decide (xt4_17h < (p0.Replicas.length : Int)))) (decide_eq_true c8) ?_
   refine awp_skip' ?_
   refine awp_seq ?_
   refine awp_block ?_
   refine awp_seq ?_
   obtain ⟨g1, h⟩ := guard_some h
   obtain ⟨a1, h1, h⟩ := bind_some h
   refine ar L 251 [] [(5, .B a1)] [] (cs := [(0 : Int) ≤ xt4_17h, (xt4_17h : Int) < (p0.Replicas.length : Int), PCall V P 33 [.agg (d_aRep (p0.Replicas.getD (Int.toNat xt4_17h) z_aRep))] (.B a1), True]) (S' := ⟨[(1, .P 23500), (3, .I (p0.Replicas.length : Int)), (4, .I xt4_17h), (53, .B (!a1))], [(23500, .raw (d_wr55_Group p0))]⟩) (And.intro g1.1 (And.intro g1.2 (And.intro (wr52_Right.ok h1) trivial))) ?_
   rcases ite_some h with ⟨c9, h⟩ | ⟨c9, h⟩
   ·refine ff (b := (!a1)) (congrArg Bool.not (c9)) ?_
    refine awp_skip' ?_
    refine ar0 L 261 [] [] [] (S' := ⟨[(1, .P 23500), (3, .I (p0.Replicas.length : Int)), (4, .I (IntKind.i64.wrap (xt4_17h + 1)))], [(23500, .raw (d_wr55_Group p0))]⟩) ?_
    exact ⟨k, Nat.lt_succ_self k, _, rfl, h⟩
   refine tt (b := (!a1)) (congrArg Bool.not (eq_false_of_ne_true c9)) ?_
   refine sr0 L 259 [] [] [] (S' := ⟨[(2, .B false)], []⟩) ?_
   refine awp_ret ?_
   obtain rfl := Option.some.inj h
   exact .inr ⟨rfl, _, rfl, er (.B false)⟩
  refine ff (b := (decide (xt4_17h < (p0.Replicas.length : Int)))) (decide_eq_false c8) ?_
  refine ex (S' := ⟨[], []⟩) ?_
  obtain rfl := Option.some.inj h
  exact .inl ⟨rfl, rfl, rfl⟩
 ·rintro e S (⟨rfl, rfl, rfl⟩ | ⟨rfl, a, rfl, hr⟩)
  ·rcases h with ⟨_, e1, h⟩ | ⟨_, e1, h⟩
   ·cases e1
   ·have e2 := Out.go.inj e1
    subst e2
    refine ⟨_, Turns.refl, ?_⟩
    refine sr0 L 265 [] [] [] (S' := ⟨[(2, .B true)], []⟩) ?_
    refine awp_ret ?_
    obtain rfl := Option.some.inj h
    exact er (.B true)
  ·rcases h with ⟨_, e1, h⟩ | ⟨_, e1, h⟩
   ·have e2 := Out.done.inj e1
    subst e2
    subst h
    exact ⟨_, Turns.refl, hr⟩
   ·cases e1
theorem wr55_Right.ok {K : Nat} {p0 : wr55_Group} {r : Bool} (h : wr55_Right K p0 = some r) : PCall V P 14 [.agg (d_wr55_Group p0)] (.B r) := ECall.pcall (eo (fn := Tryz.f14) (n := 54) (m := 100) fun Γ => wr55_Right.body h) (by kernel_rfl)
def wr55_member (K : Nat) (p0 : wr55_Group) (p1 : Int) : Option Bool := (if p1 ≥ 0 then some (decide (p1 < (p0.Replicas.length : Int))) else some false)
theorem wr55_member.body {Γ : Ent} {K : Nat} {p0 : wr55_Group} {p1 : Int} {r : Bool} (h : wr55_member K p0 p1 = some r) : AWp V P 14 100 Γ (Tryz.f76.body.getD .skip) (EndsE P V Tryz.f76 (.B r) []) ⟨args0 0 [.agg (d_wr55_Group p0), .I p1], []⟩ := by
 unfold wr55_member at h
 refine sr0 L 200 [] [] [] (S' := ⟨[(1, .I p1), (2, .P 200)], [(200, .raw (d_wr55_Group p0))]⟩) ?_
 refine awp_seq ?_
 rcases ite_some h with ⟨c1, h⟩ | ⟨c1, h⟩
 ·refine ar L 203 [(2, true)] [] [] (cs := [(decide (p1 ≥ 0)) = true]) (S' := ⟨[(4, .B (decide (p1 < (p0.Replicas.length : Int))))], []⟩) (decide_eq_true c1) ?_
  refine awp_ret ?_
  obtain rfl := Option.some.inj h
  exact er (.B (decide (p1 < (p0.Replicas.length : Int))))
 refine ar L 203 [(2, false)] [] [] (cs := [(decide (p1 ≥ 0)) = false]) (S' := ⟨[(4, .B false)], []⟩) (decide_eq_false c1) ?_
 refine awp_ret ?_
 obtain rfl := Option.some.inj h
 exact er (.B false)
theorem wr55_member.ok {K : Nat} {p0 : wr55_Group} {p1 : Int} {r : Bool} (h : wr55_member K p0 p1 = some r) : PCall V P 76 [.agg (d_wr55_Group p0), .I p1] (.B r) := ECall.pcall (eo (fn := Tryz.f76) (n := 14) (m := 100) fun Γ => wr55_member.body h) (by kernel_rfl)
def wr55_args.l15 (K : Nat) (p0 : wr55_Group) (p2 : List Int) : Nat → Int → Option (Out Int Unit)
 | 0, _ => none
 | k + 1, xt7_15h => (if xt7_15h < (p2.length : Int) then (if (0 : Int) ≤ xt7_15h ∧ (xt7_15h : Int) < (p2.length : Int) then (Option.bind (wr55_member K p0 (p2.getD (Int.toNat xt7_15h) (0 : Int))) (fun a3 => (if a3 = true then wr55_args.l15 K p0 p2 k (IntKind.i64.wrap (xt7_15h + 1)) else some (Out.done 2)))) else none) else some (Out.go ()))
def wr55_args (K : Nat) (p0 : wr55_Group) (p1 : Int) (p2 : List Int) : Option Int := (Option.bind (wr55_Right K p0) (fun a1 => (if a1 = true then (Option.bind (wr55_member K p0 p1) (fun a2 => (if a2 = true then (obind (wr55_args.l15 K p0 p2 K 0 : Option (Out Int Unit)) (fun r => r) (fun _ => (if (0 : Int) ≤ p1 ∧ (p1 : Int) < (p0.Up.length : Int) then (if (p0.Up.getD (Int.toNat p1) false) = true then some 0 else some 28) else none))) else some 2))) else some 2)))
theorem wr55_args.body {Γ : Ent} {K : Nat} {p0 : wr55_Group} {p1 : Int} {p2 : List Int} {r : Int} (h : wr55_args K p0 p1 p2 = some r) : AWp V P 36 100 Γ (Tryz.f42.body.getD .skip) (EndsE P V Tryz.f42 (.I r) []) ⟨args0 0 [.agg (d_wr55_Group p0), .I p1, .cv (.ro .t_int p2)], []⟩ := by
 unfold wr55_args at h
 refine sr0 L 200 [] [] [] (S' := ⟨[(1, .I p1), (2, .cv (.ro .t_int p2)), (3, .P 200)], [(200, .raw (d_wr55_Group p0))]⟩) ?_
 refine awp_seq ?_
 refine awp_seq ?_
 obtain ⟨a1, h1, h⟩ := bind_some h
 rcases ite_some h with ⟨c1, h⟩ | ⟨c1, h⟩
 ·obtain ⟨a2, h2, h⟩ := bind_some h
  refine ar L 203 [(3, false)] [(1, .B a1), (6, .B a2)] [] (cs := [PCall V P 14 [.agg (d_wr55_Group p0)] (.B a1), True, (!a1) = false, PCall V P 76 [.agg (d_wr55_Group p0), .I p1] (.B a2), True]) (S' := ⟨[(1, .I p1), (2, .cv (.ro .t_int p2)), (3, .P 200), (16, .B (!a2))], [(200, .raw (d_wr55_Group p0))]⟩) (And.intro (wr55_Right.ok h1) (And.intro trivial (And.intro (congrArg Bool.not (c1)) (And.intro (wr55_member.ok h2) trivial)))) ?_
  rcases ite_some h with ⟨c2, h⟩ | ⟨c2, h⟩
  ·refine ff (b := (!a2)) (congrArg Bool.not (c2)) ?_
   refine awp_skip' ?_
   refine awp_seq ?_
   refine sr0 L 215 [] [] [] (S' := ⟨[(1, .I p1), (2, .cv (.ro .t_int p2)), (3, .P 200), (7, .I 0)], [(200, .raw (d_wr55_Group p0))]⟩) ?_
   refine awp_block ?_
   refine awp_turn (Turns.trans (Turns.kp (S' := ⟨[(1, .I p1), (2, .cv (.ro .t_int p2)), (3, .P 200), (7, .I 0)], [(200, .raw (d_wr55_Group p0))]⟩)) (Turns.rn [(200, 23100)] (S' := ⟨[(1, .I p1), (2, .cv (.ro .t_int p2)), (3, .P 23100), (7, .I 0)], [(23100, .raw (d_wr55_Group p0))]⟩))) ?_
   refine kp (S' := ⟨[(1, .I p1), (2, .cv (.ro .t_int p2)), (3, .P 23100), (7, .I 0)], [(23100, .raw (d_wr55_Group p0))]⟩) ?_
   obtain ⟨o1, hp1, h⟩ := obind_some h
   refine awp_conseq (Q' := fun e S => (e = .exit 0 ∧ S = ⟨[(1, .I p1), (3, .P 23000)], [(23000, .raw (d_wr55_Group p0))]⟩ ∧ Out.go () = o1) ∨ (e = .ret ∧ ∃ a, Out.done a = o1 ∧ EndsE P V Tryz.f42 (.I a) [] .ret S)) (awp_loop (fun k S => ∃ xt7_15h : Int, S = ⟨[(1, .I p1), (2, .cv (.ro .t_int p2)), (3, .P 23100), (7, .I xt7_15h)], [(23100, .raw (d_wr55_Group p0))]⟩ ∧ wr55_args.l15 K p0 p2 k xt7_15h = some o1) ?_ ⟨_, rfl, hp1⟩) ?_
   ·clear h hp1
    intro k S hS
    obtain ⟨xt7_15h, rfl, h⟩ := hS
    cases k with
    | zero => cases h
    | succ k =>
    unfold wr55_args.l15 at h
    refine awp_seq ?_
    refine sr0 L 217 [] [] [] (S' := ⟨[(1, .I p1), (2, .cv (.ro .t_int p2)), (3, .P 23100), (7, .I xt7_15h), (20, .B (decide (xt7_15h < (p2.length : Int))))], [(23100, .raw (d_wr55_Group p0))]⟩) ?_
    rcases ite_some h with ⟨c3, h⟩ | ⟨c3, h⟩
    ·refine tt (b := (decide (xt7_15h < (p2.length : Int)))) (decide_eq_true c3) ?_
     refine awp_skip' ?_
     refine awp_seq ?_
     refine awp_block ?_
     refine awp_seq ?_
     obtain ⟨g1, h⟩ := guard_some h
     obtain ⟨a3, h3, h⟩ := bind_some h
     refine ad L mixed 222 [] [(5, .B a3)] [] [] 7 (cs := [(0 : Int) ≤ xt7_15h, (xt7_15h : Int) < (p2.length : Int), PCall V P 76 [.agg (d_wr55_Group p0), .I (p2.getD (Int.toNat xt7_15h) (0 : Int))] (.B a3), True]) (S' := ⟨[(1, .I p1), (2, .cv (.ro .t_int p2)), (3, .P 23100), (7, .I xt7_15h), (29, .B (!a3))], [(23100, .raw (d_wr55_Group p0))]⟩) (And.intro g1.1 (And.intro g1.2 (And.intro (wr55_member.ok h3) trivial))) ?_
     rcases ite_some h with ⟨c4, h⟩ | ⟨c4, h⟩
     ·refine ff (b := (!a3)) (congrArg Bool.not (c4)) ?_
      refine awp_skip' ?_
      refine ar0 L 232 [] [] [] (S' := ⟨[(1, .I p1), (2, .cv (.ro .t_int p2)), (3, .P 23100), (7, .I (IntKind.i64.wrap (xt7_15h + 1)))], [(23100, .raw (d_wr55_Group p0))]⟩) ?_
      exact ⟨k, Nat.lt_succ_self k, _, rfl, h⟩
     refine tt (b := (!a3)) (congrArg Bool.not (eq_false_of_ne_true c4)) ?_
     refine sr0 L 230 [] [] [] (S' := ⟨[(6, .I 2)], []⟩) ?_
     refine awp_ret ?_
     obtain rfl := Option.some.inj h
     exact .inr ⟨rfl, _, rfl, er (.I 2)⟩
    refine ff (b := (decide (xt7_15h < (p2.length : Int)))) (decide_eq_false c3) ?_
    refine awp_turn (Turns.trans (Turns.kp (S' := ⟨[(1, .I p1), (3, .P 23100)], [(23100, .raw (d_wr55_Group p0))]⟩)) (Turns.rn [(23100, 23000)] (S' := ⟨[(1, .I p1), (3, .P 23000)], [(23000, .raw (d_wr55_Group p0))]⟩))) ?_
    refine ex (S' := ⟨[(1, .I p1), (3, .P 23000)], [(23000, .raw (d_wr55_Group p0))]⟩) ?_
    obtain rfl := Option.some.inj h
    exact .inl ⟨rfl, rfl, rfl⟩
   ·rintro e S (⟨rfl, rfl, rfl⟩ | ⟨rfl, a, rfl, hr⟩)
    ·rcases h with ⟨_, e1, h⟩ | ⟨_, e1, h⟩
     ·cases e1
     ·have e2 := Out.go.inj e1
      subst e2
      refine ⟨_, Turns.refl, ?_⟩
      refine awp_seq ?_
      refine awp_seq ?_
      obtain ⟨g2, h⟩ := guard_some h
      refine ar L 236 [] [] [] (cs := [(0 : Int) ≤ p1, (p1 : Int) < (p0.Up.length : Int)]) (S' := ⟨[(35, .B (!(p0.Up.getD (Int.toNat p1) false)))], []⟩) (And.intro g2.1 g2.2) ?_
      rcases ite_some h with ⟨c5, h⟩ | ⟨c5, h⟩
      ·refine ff (b := (!(p0.Up.getD (Int.toNat p1) false))) (congrArg Bool.not (c5)) ?_
       refine awp_skip' ?_
       refine sr0 L 245 [] [] [] (S' := ⟨[(6, .I 0)], []⟩) ?_
       refine awp_ret ?_
       obtain rfl := Option.some.inj h
       exact er (.I 0)
      refine tt (b := (!(p0.Up.getD (Int.toNat p1) false))) (congrArg Bool.not (eq_false_of_ne_true c5)) ?_
      refine sr0 L 243 [] [] [] (S' := ⟨[(6, .I 28)], []⟩) ?_
      refine awp_ret ?_
      obtain rfl := Option.some.inj h
      exact er (.I 28)
    ·rcases h with ⟨_, e1, h⟩ | ⟨_, e1, h⟩
     ·have e2 := Out.done.inj e1
      subst e2
      subst h
      exact ⟨_, Turns.refl, hr⟩
     ·cases e1
  refine tt (b := (!a2)) (congrArg Bool.not (eq_false_of_ne_true c2)) ?_
  refine sr0 L 213 [] [] [] (S' := ⟨[(6, .I 2)], []⟩) ?_
  refine awp_ret ?_
  obtain rfl := Option.some.inj h
  exact er (.I 2)
 refine ar L 203 [(3, true)] [(1, .B a1)] [] (cs := [PCall V P 14 [.agg (d_wr55_Group p0)] (.B a1), True, (!a1) = true]) (S' := ⟨[(1, .I p1), (2, .cv (.ro .t_int p2)), (3, .P 200), (16, .B true)], [(200, .raw (d_wr55_Group p0))]⟩) (And.intro (wr55_Right.ok h1) (And.intro trivial (congrArg Bool.not (eq_false_of_ne_true c1)))) ?_
 refine tt (b := true) (rfl) ?_
 refine sr0 L 213 [] [] [] (S' := ⟨[(6, .I 2)], []⟩) ?_
 refine awp_ret ?_
 obtain rfl := Option.some.inj h
 exact er (.I 2)
theorem wr55_args.ok {K : Nat} {p0 : wr55_Group} {p1 : Int} {p2 : List Int} {r : Int} (h : wr55_args K p0 p1 p2 = some r) : PCall V P 42 [.agg (d_wr55_Group p0), .I p1, .cv (.ro .t_int p2)] (.I r) := ECall.pcall (eo (fn := Tryz.f42) (n := 36) (m := 100) fun Γ => wr55_args.body h) (by kernel_rfl)
def wr54_member (K : Nat) (p0 : Int) : Option Bool := (if p0 ≥ 0 then some (decide (p0 < 9)) else some false)
theorem wr54_member.body {Γ : Ent} {K : Nat} {p0 : Int} {r : Bool} (h : wr54_member K p0 = some r) : AWp V P 9 100 Γ (Tryz.f77.body.getD .skip) (EndsE P V Tryz.f77 (.B r) []) ⟨args0 0 [.I p0], []⟩ := by
 unfold wr54_member at h
 refine sr0 L 200 [] [] [] (S' := ⟨[(0, .I p0)], []⟩) ?_
 refine awp_seq ?_
 rcases ite_some h with ⟨c1, h⟩ | ⟨c1, h⟩
 ·refine ar L 202 [(2, true)] [] [] (cs := [(decide (p0 ≥ 0)) = true]) (S' := ⟨[(2, .B (decide (p0 < 9)))], []⟩) (decide_eq_true c1) ?_
  refine awp_ret ?_
  obtain rfl := Option.some.inj h
  exact er (.B (decide (p0 < 9)))
 refine ar L 202 [(2, false)] [] [] (cs := [(decide (p0 ≥ 0)) = false]) (S' := ⟨[(2, .B false)], []⟩) (decide_eq_false c1) ?_
 refine awp_ret ?_
 obtain rfl := Option.some.inj h
 exact er (.B false)
theorem wr54_member.ok {K : Nat} {p0 : Int} {r : Bool} (h : wr54_member K p0 = some r) : PCall V P 77 [.I p0] (.B r) := ECall.pcall (eo (fn := Tryz.f77) (n := 9) (m := 100) fun Γ => wr54_member.body h) (by kernel_rfl)
def wr54_Stand (K : Nat) (p0 : aRep) (p1 : Int) : Option (aRep × Int) := (Option.bind (wr52_Right K p0) (fun a1 => (if a1 = true then (Option.bind (wr54_member K p1) (fun a2 => (if a2 = true then (if p0.Epoch ≥ 1099511627776 then some ((⟨0, 0, 0, ([] : List aEnt)⟩ : aRep), 19) else some ((⟨(IntKind.i64.wrap (p0.Epoch + 1)), p1, p0.Commit, p0.Log⟩ : aRep), 0)) else some ((⟨0, 0, 0, ([] : List aEnt)⟩ : aRep), 2)))) else some ((⟨0, 0, 0, ([] : List aEnt)⟩ : aRep), 2))))
theorem wr54_Stand.body {Γ : Ent} {K : Nat} {p0 : aRep} {p1 : Int} {r : aRep × Int} (h : wr54_Stand K p0 p1 = some r) : AWp V P 26 100 Γ (Tryz.f43.body.getD .skip) (EndsE P V Tryz.f43 (.tup [.agg [.I r.1.Epoch, .I r.1.Vote, .I r.1.Commit, .ro .t_aEnt r.1.Log], .I r.2]) []) ⟨args0 0 [.agg (d_aRep p0), .I p1], []⟩ := by
 unfold wr54_Stand at h
 refine sr0 L 200 [] [] [] (S' := ⟨[(1, .I p1), (2, .P 200), (4, .P 201)], [(200, .raw (d_aRep p0)), (201, .raw [.I 0, .I 0, .I 0, .N])]⟩) ?_
 refine awp_seq ?_
 refine awp_seq ?_
 obtain ⟨a1, h1, h⟩ := bind_some h
 rcases ite_some h with ⟨c1, h⟩ | ⟨c1, h⟩
 ·obtain ⟨a2, h2, h⟩ := bind_some h
  refine ar L 204 [(3, false)] [(1, .B a1), (5, .B a2)] [] (cs := [PCall V P 33 [.agg (d_aRep p0)] (.B a1), True, (!a1) = false, PCall V P 77 [.I p1] (.B a2), True]) (S' := ⟨[(1, .I p1), (2, .P 200), (4, .P 201), (13, .B (!a2))], [(200, .raw (d_aRep p0)), (201, .raw [.I 0, .I 0, .I 0, .N])]⟩) (And.intro (wr52_Right.ok h1) (And.intro trivial (And.intro (congrArg Bool.not (c1)) (And.intro (wr54_member.ok h2) trivial)))) ?_
  rcases ite_some h with ⟨c2, h⟩ | ⟨c2, h⟩
  ·refine ff (b := (!a2)) (congrArg Bool.not (c2)) ?_
   refine awp_skip' ?_
   refine awp_seq ?_
   refine sr0 L 217 [] [] [] (S' := ⟨[(1, .I p1), (2, .P 200), (4, .P 201), (17, .B (decide (p0.Epoch ≥ 1099511627776)))], [(200, .raw (d_aRep p0)), (201, .raw [.I 0, .I 0, .I 0, .N])]⟩) ?_
   rcases ite_some h with ⟨c3, h⟩ | ⟨c3, h⟩
   ·refine tt (b := (decide (p0.Epoch ≥ 1099511627776))) (decide_eq_true c3) ?_
    refine sr0 L 221 [] [] [] (S' := ⟨[(4, .P 201), (5, .I 19)], [(201, .raw [.I 0, .I 0, .I 0, .N])]⟩) ?_
    refine awp_turn (Turns.rn [(201, 100)] (S' := ⟨[(4, .P 100), (5, .I 19)], [(100, .raw [.I 0, .I 0, .I 0, .N])]⟩)) ?_
    refine awp_ret ?_
    obtain rfl := Option.some.inj h
    exact er (.tup [.agg [.I 0, .I 0, .I 0, .N], .I 19])
   refine ff (b := (decide (p0.Epoch ≥ 1099511627776))) (decide_eq_false c3) ?_
   refine awp_skip' ?_
   refine sr0 L 225 [] [] [] (S' := ⟨[(1, .I p1), (2, .P 200), (4, .P 201)], [(200, .raw [.I (IntKind.i64.wrap (p0.Epoch + 1)), .I p0.Vote, .I p0.Commit, .ro .t_aEnt p0.Log]), (201, .raw [.I 0, .I 0, .I 0, .N])]⟩) ?_
   refine sr0 L 231 [] [] [] (S' := ⟨[(2, .P 200), (4, .P 201)], [(200, .raw [.I (IntKind.i64.wrap (p0.Epoch + 1)), .I p1, .I p0.Commit, .ro .t_aEnt p0.Log]), (201, .raw [.I 0, .I 0, .I 0, .N])]⟩) ?_
   refine sr0 L 235 [] [] [] (S' := ⟨[(4, .P 201), (5, .I 0)], [(201, .raw [.I (IntKind.i64.wrap (p0.Epoch + 1)), .I p1, .I p0.Commit, .ro .t_aEnt p0.Log])]⟩) ?_
   refine awp_turn (Turns.rn [(201, 100)] (S' := ⟨[(4, .P 100), (5, .I 0)], [(100, .raw [.I (IntKind.i64.wrap (p0.Epoch + 1)), .I p1, .I p0.Commit, .ro .t_aEnt p0.Log])]⟩)) ?_
   refine awp_ret ?_
   obtain rfl := Option.some.inj h
   exact er (.tup [.agg [.I (IntKind.i64.wrap (p0.Epoch + 1)), .I p1, .I p0.Commit, .ro .t_aEnt p0.Log], .I 0])
  refine tt (b := (!a2)) (congrArg Bool.not (eq_false_of_ne_true c2)) ?_
  refine sr0 L 213 [] [] [] (S' := ⟨[(4, .P 201), (5, .I 2)], [(201, .raw [.I 0, .I 0, .I 0, .N])]⟩) ?_
  refine awp_turn (Turns.rn [(201, 100)] (S' := ⟨[(4, .P 100), (5, .I 2)], [(100, .raw [.I 0, .I 0, .I 0, .N])]⟩)) ?_
  refine awp_ret ?_
  obtain rfl := Option.some.inj h
  exact er (.tup [.agg [.I 0, .I 0, .I 0, .N], .I 2])
 refine ar L 204 [(3, true)] [(1, .B a1)] [] (cs := [PCall V P 33 [.agg (d_aRep p0)] (.B a1), True, (!a1) = true]) (S' := ⟨[(1, .I p1), (2, .P 200), (4, .P 201), (13, .B true)], [(200, .raw (d_aRep p0)), (201, .raw [.I 0, .I 0, .I 0, .N])]⟩) (And.intro (wr52_Right.ok h1) (And.intro trivial (congrArg Bool.not (eq_false_of_ne_true c1)))) ?_
 refine tt (b := true) (rfl) ?_
 refine sr0 L 213 [] [] [] (S' := ⟨[(4, .P 201), (5, .I 2)], [(201, .raw [.I 0, .I 0, .I 0, .N])]⟩) ?_
 refine awp_turn (Turns.rn [(201, 100)] (S' := ⟨[(4, .P 100), (5, .I 2)], [(100, .raw [.I 0, .I 0, .I 0, .N])]⟩)) ?_
 refine awp_ret ?_
 obtain rfl := Option.some.inj h
 exact er (.tup [.agg [.I 0, .I 0, .I 0, .N], .I 2])
theorem wr54_Stand.ok {K : Nat} {p0 : aRep} {p1 : Int} {r : aRep × Int} (h : wr54_Stand K p0 p1 = some r) : PCall V P 43 [.agg (d_aRep p0), .I p1] (.tup [.agg [.I r.1.Epoch, .I r.1.Vote, .I r.1.Commit, .ro .t_aEnt r.1.Log], .I r.2]) := ECall.pcall (eo (fn := Tryz.f43) (n := 26) (m := 100) fun Γ => wr54_Stand.body h) (by kernel_rfl)
def wr55_cloned_v2 (K : Nat) (p0 : wr55_Group) : Option ((List Bool) × (List aRep)) := (if p0.Replicas.length * 48 ≤ 140737488355328 then (if p0.Up.length * 1 ≤ 140737488355328 then some (p0.Up, p0.Replicas) else none) else none)
theorem wr55_cloned_v2.body {Γ : Ent} {K : Nat} {p0 : wr55_Group} {r : (List Bool) × (List aRep)} (h : wr55_cloned_v2 K p0 = some r) : AWp V P 22 100 Γ (Tryz.f44.body.getD .skip) (EndsE P V Tryz.f44 (.agg [.own .t_aRep 100, .ro .t_bool r.1, .I p0.Leader, .I p0.Epoch]) [(100, .lst .t_aRep r.2)]) ⟨args0 0 [.agg (d_wr55_Group p0)], []⟩ := by
 unfold wr55_cloned_v2 at h
 refine sr0 L 200 [] [] [] (S' := ⟨[(1, .P 200), (2, .P 201)], [(200, .raw (d_wr55_Group p0)), (201, .raw [.N, .N, .I 0, .I 0])]⟩) ?_
 refine sr0 L 203 [] [] [] (S' := ⟨[(1, .P 200), (2, .P 201), (3, .P 208)], [(200, .raw (d_wr55_Group p0)), (201, .raw [.N, .N, .I 0, .I 0]), (208, .raw [.N, .N, .I p0.Leader, .I p0.Epoch])]⟩) ?_
 refine awp_seq ?_
 obtain ⟨g1, h⟩ := guard_some h
 refine ar L 211 [] [] [] (cs := [p0.Replicas.length * 48 ≤ 140737488355328, True]) (S' := ⟨[(1, .P 200), (2, .P 201), (3, .P 208)], [(200, .raw (d_wr55_Group p0)), (201, .raw [.N, .N, .I 0, .I 0]), (208, .raw [.own .t_aRep 215, .N, .I p0.Leader, .I p0.Epoch]), (215, .lst .t_aRep p0.Replicas)]⟩) (And.intro g1 trivial) ?_
 refine awp_seq ?_
 obtain ⟨g2, h⟩ := guard_some h
 refine ar L 219 [] [] [] (cs := [p0.Up.length * 1 ≤ 140737488355328, True]) (S' := ⟨[(2, .P 201), (3, .P 208)], [(201, .raw [.N, .N, .I 0, .I 0]), (208, .raw [.own .t_aRep 215, .own .t_bool 223, .I p0.Leader, .I p0.Epoch]), (215, .lst .t_aRep p0.Replicas), (223, .lst .t_bool p0.Up)]⟩) (And.intro g2 trivial) ?_
 refine sr0 L 227 [] [] [] (S' := ⟨[(2, .P 201)], [(201, .raw [.own .t_aRep 215, .own .t_bool 223, .I p0.Leader, .I p0.Epoch]), (215, .lst .t_aRep p0.Replicas), (223, .lst .t_bool p0.Up)]⟩) ?_
 refine awp_turn (Turns.trans (Turns.frz 223 (blk0 := .lst .t_bool p0.Up) (by kernel_rfl) (by kernel_rfl) (S' := ⟨[(2, .P 201)], [(201, .raw [.own .t_aRep 215, .ro .t_bool p0.Up, .I p0.Leader, .I p0.Epoch]), (215, .lst .t_aRep p0.Replicas)]⟩) (by kernel_rfl)) (Turns.rn [(201, 101), (215, 100)] (S' := ⟨[(2, .P 101)], [(101, .raw [.own .t_aRep 100, .ro .t_bool p0.Up, .I p0.Leader, .I p0.Epoch]), (100, .lst .t_aRep p0.Replicas)]⟩))) ?_
 refine awp_ret ?_
 obtain rfl := Option.some.inj h
 exact er (.agg [.own .t_aRep 100, .ro .t_bool p0.Up, .I p0.Leader, .I p0.Epoch])
theorem wr55_cloned_v2.okE {K : Nat} {p0 : wr55_Group} {r : (List Bool) × (List aRep)} (h : wr55_cloned_v2 K p0 = some r) : ECall V P 44 [.agg (d_wr55_Group p0)] [] [] (.agg [.own .t_aRep 100, .ro .t_bool r.1, .I p0.Leader, .I p0.Epoch]) [(100, .lst .t_aRep r.2)] :=
 eo (fn := Tryz.f44) (n := 22) (m := 100) fun Γ => wr55_cloned_v2.body h
def wr55_partakes.l9 (K : Nat) (p0 : wr55_Group) (p1 : Int) (p2 : List Int) : Nat → Int → (List Bool) → Option (List Bool)
 | 0, _, _ => none
 | k + 1, xt8_9h, x21901 => (if xt8_9h < (p2.length : Int) then (if (0 : Int) ≤ xt8_9h ∧ (xt8_9h : Int) < (p2.length : Int) then (if (0 : Int) ≤ (p2.getD (Int.toNat xt8_9h) (0 : Int)) ∧ ((p2.getD (Int.toNat xt8_9h) (0 : Int)) : Int) < (p0.Up.length : Int) then (if (p0.Up.getD (Int.toNat (p2.getD (Int.toNat xt8_9h) (0 : Int))) false) = true then (if ((p2.getD (Int.toNat xt8_9h) (0 : Int)) : Int) < (x21901.length : Int) then (if (Int.toNat (p2.getD (Int.toNat xt8_9h) (0 : Int))) < x21901.length then wr55_partakes.l9 K p0 p1 p2 k (IntKind.i64.wrap (xt8_9h + 1)) (x21901.set (Int.toNat (p2.getD (Int.toNat xt8_9h) (0 : Int))) (decide ((p2.getD (Int.toNat xt8_9h) (0 : Int)) ≠ p1))) else none) else none) else (if ((p2.getD (Int.toNat xt8_9h) (0 : Int)) : Int) < (x21901.length : Int) then (if (Int.toNat (p2.getD (Int.toNat xt8_9h) (0 : Int))) < x21901.length then wr55_partakes.l9 K p0 p1 p2 k (IntKind.i64.wrap (xt8_9h + 1)) (x21901.set (Int.toNat (p2.getD (Int.toNat xt8_9h) (0 : Int))) false) else none) else none)) else none) else none) else some x21901)
def wr55_partakes (K : Nat) (p0 : wr55_Group) (p1 : Int) (p2 : List Int) : Option (List Bool) := (if (0 : Int) ≤ (p0.Replicas.length : Int) ∧ (1 : Int) * (p0.Replicas.length : Int) ≤ 281474976710656 then (Option.bind (wr55_partakes.l9 K p0 p1 p2 K 0 (List.replicate (Int.toNat (p0.Replicas.length : Int)) false) : Option (List Bool)) (fun x21800 => some x21800)) else none)
theorem wr55_partakes.body {Γ : Ent} {K : Nat} {p0 : wr55_Group} {p1 : Int} {p2 : List Int} {r : List Bool} (h : wr55_partakes K p0 p1 p2 = some r) : AWp V P 42 100 Γ (Tryz.f45.body.getD .skip) (EndsE P V Tryz.f45 (.cv (.ro .t_bool r)) []) ⟨args0 0 [.agg (d_wr55_Group p0), .I p1, .cv (.ro .t_int p2)], []⟩ := by
 unfold wr55_partakes at h
 refine sr0 L 200 [] [] [] (S' := ⟨[(1, .I p1), (2, .cv (.ro .t_int p2)), (3, .P 200)], [(200, .raw (d_wr55_Group p0))]⟩) ?_
 refine awp_seq ?_
 obtain ⟨g1, h⟩ := guard_some h
 refine ar L 203 [] [] [] (cs := [(0 : Int) ≤ (p0.Replicas.length : Int), (p0.Replicas.length : Int) ≤ (p0.Replicas.length : Int), (1 : Int) * (p0.Replicas.length : Int) ≤ 281474976710656, True]) (S' := ⟨[(1, .I p1), (2, .cv (.ro .t_int p2)), (3, .P 200), (7, .cv (.own .t_bool 206))], [(200, .raw (d_wr55_Group p0)), (206, .lst .t_bool (List.replicate (Int.toNat (p0.Replicas.length : Int)) false))]⟩) (And.intro g1.1 (And.intro (Int.le_refl _) (And.intro g1.2 trivial))) ?_
 refine awp_seq ?_
 refine sr0 L 209 [] [] [] (S' := ⟨[(1, .I p1), (2, .cv (.ro .t_int p2)), (3, .P 200), (7, .cv (.own .t_bool 206)), (8, .I 0)], [(200, .raw (d_wr55_Group p0)), (206, .lst .t_bool (List.replicate (Int.toNat (p0.Replicas.length : Int)) false))]⟩) ?_
 refine awp_block ?_
 refine awp_turn (Turns.trans (Turns.kp (S' := ⟨[(1, .I p1), (2, .cv (.ro .t_int p2)), (3, .P 200), (7, .cv (.own .t_bool 206)), (8, .I 0)], [(200, .raw (d_wr55_Group p0)), (206, .lst .t_bool (List.replicate (Int.toNat (p0.Replicas.length : Int)) false))]⟩)) (Turns.rn [(200, 21900), (206, 21901)] (S' := ⟨[(1, .I p1), (2, .cv (.ro .t_int p2)), (3, .P 21900), (7, .cv (.own .t_bool 21901)), (8, .I 0)], [(21900, .raw (d_wr55_Group p0)), (21901, .lst .t_bool (List.replicate (Int.toNat (p0.Replicas.length : Int)) false))]⟩))) ?_
 refine kp (S' := ⟨[(1, .I p1), (2, .cv (.ro .t_int p2)), (3, .P 21900), (7, .cv (.own .t_bool 21901)), (8, .I 0)], [(21900, .raw (d_wr55_Group p0)), (21901, .lst .t_bool (List.replicate (Int.toNat (p0.Replicas.length : Int)) false))]⟩) ?_
 obtain ⟨o1, hp1, h⟩ := bind_some h
 refine awp_conseq (Q' := fun e S => (e = .exit 0 ∧ ∃ x21800 : List Bool, S = ⟨[(7, .cv (.own .t_bool 21800))], [(21800, .lst .t_bool x21800)]⟩ ∧ x21800 = o1)) (awp_loop (fun k S => ∃ xt8_9h : Int, ∃ x21901 : List Bool, S = ⟨[(1, .I p1), (2, .cv (.ro .t_int p2)), (3, .P 21900), (7, .cv (.own .t_bool 21901)), (8, .I xt8_9h)], [(21900, .raw (d_wr55_Group p0)), (21901, .lst .t_bool x21901)]⟩ ∧ wr55_partakes.l9 K p0 p1 p2 k xt8_9h x21901 = some o1) ?_ ⟨_, _, rfl, hp1⟩) ?_
 ·clear h hp1
  intro k S hS
  obtain ⟨xt8_9h, x21901, rfl, h⟩ := hS
  cases k with
  | zero => cases h
  | succ k =>
  unfold wr55_partakes.l9 at h
  refine awp_seq ?_
  refine sr0 L 211 [] [] [] (S' := ⟨[(1, .I p1), (2, .cv (.ro .t_int p2)), (3, .P 21900), (7, .cv (.own .t_bool 21901)), (8, .I xt8_9h), (16, .B (decide (xt8_9h < (p2.length : Int))))], [(21900, .raw (d_wr55_Group p0)), (21901, .lst .t_bool x21901)]⟩) ?_
  rcases ite_some h with ⟨c1, h⟩ | ⟨c1, h⟩
  ·refine tt (b := (decide (xt8_9h < (p2.length : Int)))) (decide_eq_true c1) ?_
   refine awp_skip' ?_
   refine awp_seq ?_
   refine awp_block ?_
   obtain ⟨g2, h⟩ := guard_some h
   obtain ⟨g3, h⟩ := guard_some h
   rcases ite_some h with ⟨c2, h⟩ | ⟨c2, h⟩
   ·obtain ⟨g4, h⟩ := guard_some h
    obtain ⟨g5, h⟩ := guard_some h
    refine ad L mixed 216 [(13, true)] [] [] [] 22 (cs := [(0 : Int) ≤ xt8_9h, (xt8_9h : Int) < (p2.length : Int), (0 : Int) ≤ xt8_9h, (xt8_9h : Int) < (p2.length : Int), (0 : Int) ≤ (p2.getD (Int.toNat xt8_9h) (0 : Int)), ((p2.getD (Int.toNat xt8_9h) (0 : Int)) : Int) < (p0.Up.length : Int), (p0.Up.getD (Int.toNat (p2.getD (Int.toNat xt8_9h) (0 : Int))) false) = true, (0 : Int) ≤ xt8_9h, (xt8_9h : Int) < (p2.length : Int), (0 : Int) ≤ (p2.getD (Int.toNat xt8_9h) (0 : Int)), ((p2.getD (Int.toNat xt8_9h) (0 : Int)) : Int) < (x21901.length : Int), (Int.toNat (p2.getD (Int.toNat xt8_9h) (0 : Int))) < x21901.length, True]) (S' := ⟨[(1, .I p1), (2, .cv (.ro .t_int p2)), (3, .P 21900), (7, .cv (.own .t_bool 21901)), (8, .I xt8_9h)], [(21900, .raw (d_wr55_Group p0)), (21901, .lst .t_bool (x21901.set (Int.toNat (p2.getD (Int.toNat xt8_9h) (0 : Int))) (decide ((p2.getD (Int.toNat xt8_9h) (0 : Int)) ≠ p1))))]⟩) (And.intro g2.1 (And.intro g2.2 (And.intro g2.1 (And.intro g2.2 (And.intro g3.1 (And.intro g3.2 (And.intro c2 (And.intro g2.1 (And.intro g2.2 (And.intro g3.1 (And.intro g4 (And.intro g5 trivial)))))))))))) ?_
    refine ar0 L 240 [] [] [] (S' := ⟨[(1, .I p1), (2, .cv (.ro .t_int p2)), (3, .P 21900), (7, .cv (.own .t_bool 21901)), (8, .I (IntKind.i64.wrap (xt8_9h + 1)))], [(21900, .raw (d_wr55_Group p0)), (21901, .lst .t_bool (x21901.set (Int.toNat (p2.getD (Int.toNat xt8_9h) (0 : Int))) (decide ((p2.getD (Int.toNat xt8_9h) (0 : Int)) ≠ p1))))]⟩) ?_
    exact ⟨k, Nat.lt_succ_self k, _, _, rfl, h⟩
   obtain ⟨g6, h⟩ := guard_some h
   obtain ⟨g7, h⟩ := guard_some h
   refine ad L mixed 216 [(13, false)] [] [] [] 22 (cs := [(0 : Int) ≤ xt8_9h, (xt8_9h : Int) < (p2.length : Int), (0 : Int) ≤ xt8_9h, (xt8_9h : Int) < (p2.length : Int), (0 : Int) ≤ (p2.getD (Int.toNat xt8_9h) (0 : Int)), ((p2.getD (Int.toNat xt8_9h) (0 : Int)) : Int) < (p0.Up.length : Int), (p0.Up.getD (Int.toNat (p2.getD (Int.toNat xt8_9h) (0 : Int))) false) = false, (0 : Int) ≤ (p2.getD (Int.toNat xt8_9h) (0 : Int)), ((p2.getD (Int.toNat xt8_9h) (0 : Int)) : Int) < (x21901.length : Int), (Int.toNat (p2.getD (Int.toNat xt8_9h) (0 : Int))) < x21901.length, True]) (S' := ⟨[(1, .I p1), (2, .cv (.ro .t_int p2)), (3, .P 21900), (7, .cv (.own .t_bool 21901)), (8, .I xt8_9h)], [(21900, .raw (d_wr55_Group p0)), (21901, .lst .t_bool (x21901.set (Int.toNat (p2.getD (Int.toNat xt8_9h) (0 : Int))) false))]⟩) (And.intro g2.1 (And.intro g2.2 (And.intro g2.1 (And.intro g2.2 (And.intro g3.1 (And.intro g3.2 (And.intro (eq_false_of_ne_true c2) (And.intro g3.1 (And.intro g6 (And.intro g7 trivial)))))))))) ?_
   refine ar0 L 240 [] [] [] (S' := ⟨[(1, .I p1), (2, .cv (.ro .t_int p2)), (3, .P 21900), (7, .cv (.own .t_bool 21901)), (8, .I (IntKind.i64.wrap (xt8_9h + 1)))], [(21900, .raw (d_wr55_Group p0)), (21901, .lst .t_bool (x21901.set (Int.toNat (p2.getD (Int.toNat xt8_9h) (0 : Int))) false))]⟩) ?_
   exact ⟨k, Nat.lt_succ_self k, _, _, rfl, h⟩
  refine ff (b := (decide (xt8_9h < (p2.length : Int)))) (decide_eq_false c1) ?_
  refine awp_turn (Turns.trans (Turns.kp (S' := ⟨[(7, .cv (.own .t_bool 21901))], [(21901, .lst .t_bool x21901)]⟩)) (Turns.rn [(21901, 21800)] (S' := ⟨[(7, .cv (.own .t_bool 21800))], [(21800, .lst .t_bool x21901)]⟩))) ?_
  refine ex (S' := ⟨[(7, .cv (.own .t_bool 21800))], [(21800, .lst .t_bool x21901)]⟩) ?_
  obtain rfl := Option.some.inj h
  exact ⟨rfl, _, rfl, rfl⟩
 ·rintro e S ⟨rfl, x21800, rfl, rfl⟩
  refine ⟨_, Turns.refl, ?_⟩
  refine sr0 L 244 [] [] [] (S' := ⟨[(6, .cv (.own .t_bool 21800))], [(21800, .lst .t_bool x21800)]⟩) ?_
  refine awp_turn (Turns.frz 21800 (blk0 := .lst .t_bool x21800) (by kernel_rfl) (by kernel_rfl) (S' := ⟨[(6, .cv (.ro .t_bool x21800))], []⟩) (by kernel_rfl)) ?_
  refine awp_ret ?_
  obtain rfl := Option.some.inj h
  exact er (.cv (.ro .t_bool x21800))
theorem wr55_partakes.ok {K : Nat} {p0 : wr55_Group} {p1 : Int} {p2 : List Int} {r : List Bool} (h : wr55_partakes K p0 p1 p2 = some r) : PCall V P 45 [.agg (d_wr55_Group p0), .I p1, .cv (.ro .t_int p2)] (.cv (.ro .t_bool r)) := ECall.pcall (eo (fn := Tryz.f45) (n := 42) (m := 100) fun Γ => wr55_partakes.body h) (by kernel_rfl)
def wr52_Last (K : Nat) (p0 : aRep) : Option (Int × Int) := (if (p0.Log.length : Int) = 0 then some (0, 0) else (if (0 : Int) ≤ (IntKind.i64.wrap ((p0.Log.length : Int) - 1)) ∧ ((IntKind.i64.wrap ((p0.Log.length : Int) - 1)) : Int) < (p0.Log.length : Int) then some (((p0.Log.length : Int), (p0.Log.getD (Int.toNat (IntKind.i64.wrap ((p0.Log.length : Int) - 1))) z_aEnt).Epoch)) else none))
theorem wr52_Last.body {Γ : Ent} {K : Nat} {p0 : aRep} {r : Int × Int} (h : wr52_Last K p0 = some r) : AWp V P 18 100 Γ (Tryz.f46.body.getD .skip) (EndsE P V Tryz.f46 (.tup [.I r.1, .I r.2]) []) ⟨args0 0 [.agg (d_aRep p0)], []⟩ := by
 unfold wr52_Last at h
 refine sr0 L 200 [] [] [] (S' := ⟨[(1, .P 200)], [(200, .raw (d_aRep p0))]⟩) ?_
 refine sr0 L 204 [] [] [] (S' := ⟨[(1, .P 200), (4, .I (p0.Log.length : Int))], [(200, .raw (d_aRep p0))]⟩) ?_
 refine awp_seq ?_
 refine sr0 L 209 [] [] [] (S' := ⟨[(1, .P 200), (4, .I (p0.Log.length : Int)), (9, .B (decide ((p0.Log.length : Int) = 0)))], [(200, .raw (d_aRep p0))]⟩) ?_
 rcases ite_some h with ⟨c1, h⟩ | ⟨c1, h⟩
 ·refine tt (b := (decide ((p0.Log.length : Int) = 0))) (decide_eq_true c1) ?_
  refine sr0 L 212 [] [] [] (S' := ⟨[(2, .I 0), (3, .I 0)], []⟩) ?_
  refine awp_ret ?_
  obtain rfl := Option.some.inj h
  exact er (.tup [.I 0, .I 0])
 refine ff (b := (decide ((p0.Log.length : Int) = 0))) (decide_eq_false c1) ?_
 refine awp_skip' ?_
 refine awp_seq ?_
 obtain ⟨g1, h⟩ := guard_some h
 refine ad L mixed 215 [] [] [] [] 10 (cs := [(0 : Int) ≤ (IntKind.i64.wrap ((p0.Log.length : Int) - 1)), ((IntKind.i64.wrap ((p0.Log.length : Int) - 1)) : Int) < (p0.Log.length : Int)]) (S' := ⟨[(2, .I (p0.Log.length : Int)), (3, .I ((p0.Log.getD (Int.toNat (IntKind.i64.wrap ((p0.Log.length : Int) - 1))) z_aEnt).Epoch))], []⟩) (And.intro g1.1 g1.2) ?_
 refine awp_ret ?_
 obtain rfl := Option.some.inj h
 exact er (.tup [.I (p0.Log.length : Int), .I ((p0.Log.getD (Int.toNat (IntKind.i64.wrap ((p0.Log.length : Int) - 1))) z_aEnt).Epoch)])
theorem wr52_Last.ok {K : Nat} {p0 : aRep} {r : Int × Int} (h : wr52_Last K p0 = some r) : PCall V P 46 [.agg (d_aRep p0)] (.tup [.I r.1, .I r.2]) := ECall.pcall (eo (fn := Tryz.f46) (n := 18) (m := 100) fun Γ => wr52_Last.body h) (by kernel_rfl)
end Go.Proofs.YtmafcdkdcfaajaaGreat
