/- What functions of the program compute, as Lean functions, and that they compute it. -/
import Derived.Test.YtmafcdkdcfaajaaSvc
set_option linter.unusedVariables false
set_option maxHeartbeats 0
namespace Go.Proofs.Ytmafcdkdcfaajaa
open Eng

def slices_Clone_65 (K : Nat) (p0 : List api_Entry) : Option (List api_Entry) := if p0.length * 32 ≤ 140737488355328 then some p0 else none

theorem slices_Clone_65.body {Γ : Ent} {K : Nat} {p0 : List api_Entry} {r : List api_Entry} (h : slices_Clone_65 K p0 = some r) : AWp V P 8 0 Γ (Try.f65.body.getD .skip) (EndsF P V Try.f65 Tag.t_api_Entry r) ⟨args0 0 [.cv (.ro Tag.t_api_Entry p0)], []⟩ := by
  unfold slices_Clone_65 at h
  obtain ⟨g, h⟩ := guard_some h
  cases h
  refine awp_nilsplit 0 (tg := Tag.t_api_Entry) (xs := p0) (by kernel_rfl) (fun cap hx => ?_) ?_
  · subst hx
    refine awp_keep (ts := [0]) (ids := []) (S' := ⟨[(0, .cv (.lit (.slice none 0 cap)))], []⟩) (by kernel_rfl) ?_
    refine awp_seq ?_
    refine awp_region L 0 [] [] [] [0, 2] [] (cs := []) (S' := ⟨[(0, .cv (.lit (.slice none 0 cap))), (2, .cv (.lit (.slice none 0 0)))], []⟩) (by kernel_rfl) trivial ?_
    refine awp_seq ?_
    refine awp_seq ?_
    refine awp_region L 10 [] [] [] [4] [] (cs := []) (S' := ⟨[(4, .cv (.lit (.bool true)))], []⟩) (by kernel_rfl) trivial ?_
    refine awp_true (b := true) (by kernel_rfl) rfl ?_
    refine awp_seq ?_
    refine awp_region L 20 [] [] [] [2] [] (cs := []) (S' := ⟨[(2, .cv (.lit (.slice none 0 0)))], []⟩) (by kernel_rfl) trivial ?_
    refine awp_ret ?_
    exact ⟨.inr rfl, .inl ⟨by kernel_rfl, rfl⟩⟩
  · refine awp_keep (ts := [0]) (ids := []) (S' := ⟨[(0, .cv (.ron Tag.t_api_Entry p0))], []⟩) (by kernel_rfl) ?_
    refine awp_seq ?_
    refine awp_region L 0 [] [] [] [0] [] (cs := []) (S' := ⟨[(0, .cv (.ron Tag.t_api_Entry p0))], []⟩) (by kernel_rfl) trivial ?_
    refine awp_seq ?_
    refine awp_seq ?_
    refine awp_region L 10 [] [] [] [0, 4] [] (cs := []) (S' := ⟨[(0, .cv (.ron Tag.t_api_Entry p0)), (4, .cv (.lit (.bool false)))], []⟩) (by kernel_rfl) trivial ?_
    refine awp_false (b := false) (by kernel_rfl) rfl ?_
    refine awp_skip [0] [] (S' := ⟨[(0, .cv (.ron Tag.t_api_Entry p0))], []⟩) (by kernel_rfl) ?_
    refine awp_seq ?_
    refine awp_region L 30 [] [] [] [2] [30] (cs := [(([] : List api_Entry).length + p0.length) * 32 ≤ 140737488355328, True]) (S' := ⟨[(2, .cv (.own Tag.t_api_Entry 30))], [(30, .lst Tag.t_api_Entry p0)]⟩) (by kernel_rfl) (And.intro (by simpa using g) trivial) ?_
    refine awp_ret ?_
    exact ⟨.inr rfl, .inr ⟨30, by kernel_rfl, by kernel_rfl⟩⟩

theorem slices_Clone_65.okF {K : Nat} {p0 : List api_Entry} {r : List api_Entry} (h : slices_Clone_65 K p0 = some r) : FCall V P 65 [.cv (.ro Tag.t_api_Entry p0)] Tag.t_api_Entry r :=
  fcall_of (fn := Try.f65) (n := 8) (by kernel_rfl) (by kernel_rfl) (by kernel_rfl) rfl (by kernel_rfl) (by kernel_rfl) fun Γ => slices_Clone_65.body h

theorem slices_Clone_65.ok {K : Nat} {p0 : List api_Entry} {r : List api_Entry} (h : slices_Clone_65 K p0 = some r) : PCall V P 65 [.cv (.ro Tag.t_api_Entry p0)] (.cv (.ro Tag.t_api_Entry r)) := (slices_Clone_65.okF h).pcall

def slices_Clone_49 (K : Nat) (p0 : List Bool) : Option (List Bool) := if p0.length * 1 ≤ 140737488355328 then some p0 else none

theorem slices_Clone_49.body {Γ : Ent} {K : Nat} {p0 : List Bool} {r : List Bool} (h : slices_Clone_49 K p0 = some r) : AWp V P 8 0 Γ (Try.f49.body.getD .skip) (EndsF P V Try.f49 Tag.t_bool r) ⟨args0 0 [.cv (.ro Tag.t_bool p0)], []⟩ := by
  unfold slices_Clone_49 at h
  obtain ⟨g, h⟩ := guard_some h
  cases h
  refine awp_nilsplit 0 (tg := Tag.t_bool) (xs := p0) (by kernel_rfl) (fun cap hx => ?_) ?_
  · subst hx
    refine awp_keep (ts := [0]) (ids := []) (S' := ⟨[(0, .cv (.lit (.slice none 0 cap)))], []⟩) (by kernel_rfl) ?_
    refine awp_seq ?_
    refine awp_region L 0 [] [] [] [0, 2] [] (cs := []) (S' := ⟨[(0, .cv (.lit (.slice none 0 cap))), (2, .cv (.lit (.slice none 0 0)))], []⟩) (by kernel_rfl) trivial ?_
    refine awp_seq ?_
    refine awp_seq ?_
    refine awp_region L 10 [] [] [] [4] [] (cs := []) (S' := ⟨[(4, .cv (.lit (.bool true)))], []⟩) (by kernel_rfl) trivial ?_
    refine awp_true (b := true) (by kernel_rfl) rfl ?_
    refine awp_seq ?_
    refine awp_region L 20 [] [] [] [2] [] (cs := []) (S' := ⟨[(2, .cv (.lit (.slice none 0 0)))], []⟩) (by kernel_rfl) trivial ?_
    refine awp_ret ?_
    exact ⟨.inr rfl, .inl ⟨by kernel_rfl, rfl⟩⟩
  · refine awp_keep (ts := [0]) (ids := []) (S' := ⟨[(0, .cv (.ron Tag.t_bool p0))], []⟩) (by kernel_rfl) ?_
    refine awp_seq ?_
    refine awp_region L 0 [] [] [] [0] [] (cs := []) (S' := ⟨[(0, .cv (.ron Tag.t_bool p0))], []⟩) (by kernel_rfl) trivial ?_
    refine awp_seq ?_
    refine awp_seq ?_
    refine awp_region L 10 [] [] [] [0, 4] [] (cs := []) (S' := ⟨[(0, .cv (.ron Tag.t_bool p0)), (4, .cv (.lit (.bool false)))], []⟩) (by kernel_rfl) trivial ?_
    refine awp_false (b := false) (by kernel_rfl) rfl ?_
    refine awp_skip [0] [] (S' := ⟨[(0, .cv (.ron Tag.t_bool p0))], []⟩) (by kernel_rfl) ?_
    refine awp_seq ?_
    refine awp_region L 30 [] [] [] [2] [30] (cs := [(([] : List Bool).length + p0.length) * 1 ≤ 140737488355328, True]) (S' := ⟨[(2, .cv (.own Tag.t_bool 30))], [(30, .lst Tag.t_bool p0)]⟩) (by kernel_rfl) (And.intro (by simpa using g) trivial) ?_
    refine awp_ret ?_
    exact ⟨.inr rfl, .inr ⟨30, by kernel_rfl, by kernel_rfl⟩⟩

theorem slices_Clone_49.okF {K : Nat} {p0 : List Bool} {r : List Bool} (h : slices_Clone_49 K p0 = some r) : FCall V P 49 [.cv (.ro Tag.t_bool p0)] Tag.t_bool r :=
  fcall_of (fn := Try.f49) (n := 8) (by kernel_rfl) (by kernel_rfl) (by kernel_rfl) rfl (by kernel_rfl) (by kernel_rfl) fun Γ => slices_Clone_49.body h

theorem slices_Clone_49.ok {K : Nat} {p0 : List Bool} {r : List Bool} (h : slices_Clone_49 K p0 = some r) : PCall V P 49 [.cv (.ro Tag.t_bool p0)] (.cv (.ro Tag.t_bool r)) := (slices_Clone_49.okF h).pcall

def slices_Clone_48 (K : Nat) (p0 : List api_Replica) : Option (List api_Replica) := if p0.length * 48 ≤ 140737488355328 then some p0 else none

theorem slices_Clone_48.body {Γ : Ent} {K : Nat} {p0 : List api_Replica} {r : List api_Replica} (h : slices_Clone_48 K p0 = some r) : AWp V P 8 0 Γ (Try.f48.body.getD .skip) (EndsF P V Try.f48 Tag.t_api_Replica r) ⟨args0 0 [.cv (.ro Tag.t_api_Replica p0)], []⟩ := by
  unfold slices_Clone_48 at h
  obtain ⟨g, h⟩ := guard_some h
  cases h
  refine awp_nilsplit 0 (tg := Tag.t_api_Replica) (xs := p0) (by kernel_rfl) (fun cap hx => ?_) ?_
  · subst hx
    refine awp_keep (ts := [0]) (ids := []) (S' := ⟨[(0, .cv (.lit (.slice none 0 cap)))], []⟩) (by kernel_rfl) ?_
    refine awp_seq ?_
    refine awp_region L 0 [] [] [] [0, 2] [] (cs := []) (S' := ⟨[(0, .cv (.lit (.slice none 0 cap))), (2, .cv (.lit (.slice none 0 0)))], []⟩) (by kernel_rfl) trivial ?_
    refine awp_seq ?_
    refine awp_seq ?_
    refine awp_region L 10 [] [] [] [4] [] (cs := []) (S' := ⟨[(4, .cv (.lit (.bool true)))], []⟩) (by kernel_rfl) trivial ?_
    refine awp_true (b := true) (by kernel_rfl) rfl ?_
    refine awp_seq ?_
    refine awp_region L 20 [] [] [] [2] [] (cs := []) (S' := ⟨[(2, .cv (.lit (.slice none 0 0)))], []⟩) (by kernel_rfl) trivial ?_
    refine awp_ret ?_
    exact ⟨.inr rfl, .inl ⟨by kernel_rfl, rfl⟩⟩
  · refine awp_keep (ts := [0]) (ids := []) (S' := ⟨[(0, .cv (.ron Tag.t_api_Replica p0))], []⟩) (by kernel_rfl) ?_
    refine awp_seq ?_
    refine awp_region L 0 [] [] [] [0] [] (cs := []) (S' := ⟨[(0, .cv (.ron Tag.t_api_Replica p0))], []⟩) (by kernel_rfl) trivial ?_
    refine awp_seq ?_
    refine awp_seq ?_
    refine awp_region L 10 [] [] [] [0, 4] [] (cs := []) (S' := ⟨[(0, .cv (.ron Tag.t_api_Replica p0)), (4, .cv (.lit (.bool false)))], []⟩) (by kernel_rfl) trivial ?_
    refine awp_false (b := false) (by kernel_rfl) rfl ?_
    refine awp_skip [0] [] (S' := ⟨[(0, .cv (.ron Tag.t_api_Replica p0))], []⟩) (by kernel_rfl) ?_
    refine awp_seq ?_
    refine awp_region L 30 [] [] [] [2] [30] (cs := [(([] : List api_Replica).length + p0.length) * 48 ≤ 140737488355328, True]) (S' := ⟨[(2, .cv (.own Tag.t_api_Replica 30))], [(30, .lst Tag.t_api_Replica p0)]⟩) (by kernel_rfl) (And.intro (by simpa using g) trivial) ?_
    refine awp_ret ?_
    exact ⟨.inr rfl, .inr ⟨30, by kernel_rfl, by kernel_rfl⟩⟩

theorem slices_Clone_48.okF {K : Nat} {p0 : List api_Replica} {r : List api_Replica} (h : slices_Clone_48 K p0 = some r) : FCall V P 48 [.cv (.ro Tag.t_api_Replica p0)] Tag.t_api_Replica r :=
  fcall_of (fn := Try.f48) (n := 8) (by kernel_rfl) (by kernel_rfl) (by kernel_rfl) rfl (by kernel_rfl) (by kernel_rfl) fun Γ => slices_Clone_48.body h

theorem slices_Clone_48.ok {K : Nat} {p0 : List api_Replica} {r : List api_Replica} (h : slices_Clone_48 K p0 = some r) : PCall V P 48 [.cv (.ro Tag.t_api_Replica p0)] (.cv (.ro Tag.t_api_Replica r)) := (slices_Clone_48.okF h).pcall

def bytes_Clone_38 (K : Nat) (p0 : List UInt8) : Option (List UInt8) := if p0.length * 1 ≤ 140737488355328 then some p0 else none

theorem bytes_Clone_38.body {Γ : Ent} {K : Nat} {p0 : List UInt8} {r : List UInt8} (h : bytes_Clone_38 K p0 = some r) : AWp V P 8 0 Γ (Try.f38.body.getD .skip) (EndsF P V Try.f38 Tag.t_uint8 r) ⟨args0 0 [.cv (.ro Tag.t_uint8 p0)], []⟩ := by
  unfold bytes_Clone_38 at h
  obtain ⟨g, h⟩ := guard_some h
  cases h
  refine awp_nilsplit 0 (tg := Tag.t_uint8) (xs := p0) (by kernel_rfl) (fun cap hx => ?_) ?_
  · subst hx
    refine awp_keep (ts := [0]) (ids := []) (S' := ⟨[(0, .cv (.lit (.slice none 0 cap)))], []⟩) (by kernel_rfl) ?_
    refine awp_seq ?_
    refine awp_region L 0 [] [] [] [0, 2] [] (cs := []) (S' := ⟨[(0, .cv (.lit (.slice none 0 cap))), (2, .cv (.lit (.slice none 0 0)))], []⟩) (by kernel_rfl) trivial ?_
    refine awp_seq ?_
    refine awp_seq ?_
    refine awp_region L 10 [] [] [] [4] [] (cs := []) (S' := ⟨[(4, .cv (.lit (.bool true)))], []⟩) (by kernel_rfl) trivial ?_
    refine awp_true (b := true) (by kernel_rfl) rfl ?_
    refine awp_seq ?_
    refine awp_region L 20 [] [] [] [2] [] (cs := []) (S' := ⟨[(2, .cv (.lit (.slice none 0 0)))], []⟩) (by kernel_rfl) trivial ?_
    refine awp_ret ?_
    exact ⟨.inr rfl, .inl ⟨by kernel_rfl, rfl⟩⟩
  · refine awp_keep (ts := [0]) (ids := []) (S' := ⟨[(0, .cv (.ron Tag.t_uint8 p0))], []⟩) (by kernel_rfl) ?_
    refine awp_seq ?_
    refine awp_region L 0 [] [] [] [0] [] (cs := []) (S' := ⟨[(0, .cv (.ron Tag.t_uint8 p0))], []⟩) (by kernel_rfl) trivial ?_
    refine awp_seq ?_
    refine awp_seq ?_
    refine awp_region L 10 [] [] [] [0, 4] [] (cs := []) (S' := ⟨[(0, .cv (.ron Tag.t_uint8 p0)), (4, .cv (.lit (.bool false)))], []⟩) (by kernel_rfl) trivial ?_
    refine awp_false (b := false) (by kernel_rfl) rfl ?_
    refine awp_skip [0] [] (S' := ⟨[(0, .cv (.ron Tag.t_uint8 p0))], []⟩) (by kernel_rfl) ?_
    refine awp_seq ?_
    refine awp_region L 30 [] [] [] [2] [30] (cs := [(([] : List UInt8).length + p0.length) * 1 ≤ 140737488355328, True]) (S' := ⟨[(2, .cv (.own Tag.t_uint8 30))], [(30, .lst Tag.t_uint8 p0)]⟩) (by kernel_rfl) (And.intro (by simpa using g) trivial) ?_
    refine awp_ret ?_
    exact ⟨.inr rfl, .inr ⟨30, by kernel_rfl, by kernel_rfl⟩⟩

theorem bytes_Clone_38.okF {K : Nat} {p0 : List UInt8} {r : List UInt8} (h : bytes_Clone_38 K p0 = some r) : FCall V P 38 [.cv (.ro Tag.t_uint8 p0)] Tag.t_uint8 r :=
  fcall_of (fn := Try.f38) (n := 8) (by kernel_rfl) (by kernel_rfl) (by kernel_rfl) rfl (by kernel_rfl) (by kernel_rfl) fun Γ => bytes_Clone_38.body h

theorem bytes_Clone_38.ok {K : Nat} {p0 : List UInt8} {r : List UInt8} (h : bytes_Clone_38 K p0 = some r) : PCall V P 38 [.cv (.ro Tag.t_uint8 p0)] (.cv (.ro Tag.t_uint8 r)) := (bytes_Clone_38.okF h).pcall

def workflowref55_Small.l9 (K : Nat) (p0 : workflowref55_Group) : Nat → Int → Int → Option Int
  | 0, _, _ => none
  | k + 1, xt3_9h, xt4_9h => (if xt4_9h < (p0.Replicas.length : Int) then (if (0 : Int) ≤ xt4_9h ∧ (xt4_9h : Int) < (p0.Replicas.length : Int) then workflowref55_Small.l9 K p0 k ((IntKind.i64.wrap (xt3_9h + ((((p0.Replicas.getD (Int.toNat xt4_9h) z_api_Replica)).Log).length : Int)))) ((IntKind.i64.wrap (xt4_9h + 1))) else none) else some xt3_9h)

def workflowref55_Small (K : Nat) (p0 : workflowref55_Group) : Option Bool := (Option.bind (workflowref55_Small.l9 K p0 K 0 0 : Option Int) (fun xt3_9 => (if (p0.Replicas.length : Int) ≤ 12 then (if (p0.Up.length : Int) ≤ 12 then some ((decide (xt3_9 ≤ 2000))) else some false) else some false)))

theorem workflowref55_Small.body {Γ : Ent} {K : Nat} {p0 : workflowref55_Group} {r : Bool} (h : workflowref55_Small K p0 = some r) : AWp V P 35 100 Γ (Try.f4.body.getD .skip) (EndsE P V Try.f4 (.B r) []) ⟨args0 0 [.agg [.ro Tag.t_api_Replica p0.Replicas, .ro Tag.t_bool p0.Up, .I p0.Leader, .I p0.Epoch]], []⟩ := by
  unfold workflowref55_Small at h
  refine awp_seq ?_
  refine awp_region L 200 [] [] [] [1] [200] (cs := []) (S' := ⟨[(1, .P 200)], [(200, .raw [.ro Tag.t_api_Replica p0.Replicas, .ro Tag.t_bool p0.Up, .I p0.Leader, .I p0.Epoch])]⟩) (by kernel_rfl) trivial ?_
  refine awp_seq ?_
  refine awp_region L 203 [] [] [] [1, 3] [200] (cs := []) (S' := ⟨[(1, .P 200), (3, .I 0)], [(200, .raw [.ro Tag.t_api_Replica p0.Replicas, .ro Tag.t_bool p0.Up, .I p0.Leader, .I p0.Epoch])]⟩) (by kernel_rfl) trivial ?_
  refine awp_seq ?_
  refine awp_seq ?_
  refine awp_region L 205 [] [] [] [1, 3, 4] [200] (cs := []) (S' := ⟨[(1, .P 200), (3, .I 0), (4, .I 0)], [(200, .raw [.ro Tag.t_api_Replica p0.Replicas, .ro Tag.t_bool p0.Up, .I p0.Leader, .I p0.Epoch])]⟩) (by kernel_rfl) trivial ?_
  refine awp_block ?_
  refine awp_turn (Turns.trans (Turns.keep [1, 3, 4] [200] (S' := ⟨[(1, .P 200), (3, .I 0), (4, .I 0)], [(200, .raw [.ro Tag.t_api_Replica p0.Replicas, .ro Tag.t_bool p0.Up, .I p0.Leader, .I p0.Epoch])]⟩) (by kernel_rfl)) (Turns.ren [(200, 21900)] (S' := ⟨[(1, .P 21900), (3, .I 0), (4, .I 0)], [(21900, .raw [.ro Tag.t_api_Replica p0.Replicas, .ro Tag.t_bool p0.Up, .I p0.Leader, .I p0.Epoch])]⟩) (by kernel_rfl) (by kernel_rfl))) ?_
  refine awp_keep (ts := [1, 3, 4]) (ids := [21900]) (S' := ⟨[(1, .P 21900), (3, .I 0), (4, .I 0)], [(21900, .raw [.ro Tag.t_api_Replica p0.Replicas, .ro Tag.t_bool p0.Up, .I p0.Leader, .I p0.Epoch])]⟩) (by kernel_rfl) ?_
  obtain ⟨o1, hp1, h⟩ := bind_some h
  refine awp_conseq (Q' := fun e S => (e = .exit 0 ∧ ∃ xt3_9 : Int, S = ⟨[(1, .P 21800), (3, .I xt3_9)], [(21800, .raw [.ro Tag.t_api_Replica p0.Replicas, .ro Tag.t_bool p0.Up, .I p0.Leader, .I p0.Epoch])]⟩ ∧ xt3_9 = o1)) (awp_loop (fun k S => ∃ xt3_9h : Int, ∃ xt4_9h : Int, S = ⟨[(1, .P 21900), (3, .I xt3_9h), (4, .I xt4_9h)], [(21900, .raw [.ro Tag.t_api_Replica p0.Replicas, .ro Tag.t_bool p0.Up, .I p0.Leader, .I p0.Epoch])]⟩ ∧ workflowref55_Small.l9 K p0 k xt3_9h xt4_9h = some o1) ?_ ⟨_, _, rfl, hp1⟩) ?_
  · clear h hp1
    intro k S hS
    obtain ⟨xt3_9h, xt4_9h, rfl, h⟩ := hS
    cases k with
    | zero => cases h
    | succ k =>
    unfold workflowref55_Small.l9 at h
    refine awp_seq ?_
    refine awp_seq ?_
    refine awp_region L 207 [] [] [] [1, 3, 4, 9] [21900] (cs := []) (S' := ⟨[(1, .P 21900), (3, .I xt3_9h), (4, .I xt4_9h), (9, .B ((decide (xt4_9h < (p0.Replicas.length : Int)))))], [(21900, .raw [.ro Tag.t_api_Replica p0.Replicas, .ro Tag.t_bool p0.Up, .I p0.Leader, .I p0.Epoch])]⟩) (by kernel_rfl) trivial ?_
    rcases ite_some h with ⟨c1, h⟩ | ⟨c1, h⟩
    · refine awp_true (b := (decide (xt4_9h < (p0.Replicas.length : Int)))) (by kernel_rfl) (decide_eq_true c1) ?_
      refine awp_skip [1, 3, 4] [21900] (S' := ⟨[(1, .P 21900), (3, .I xt3_9h), (4, .I xt4_9h)], [(21900, .raw [.ro Tag.t_api_Replica p0.Replicas, .ro Tag.t_bool p0.Up, .I p0.Leader, .I p0.Epoch])]⟩) (by kernel_rfl) ?_
      refine awp_seq ?_
      refine awp_block ?_
      obtain ⟨g1, h⟩ := guard_some h
      refine awp_region L 213 [] [] [] [1, 3, 4] [21900] (cs := [(0 : Int) ≤ xt4_9h, (xt4_9h : Int) < (p0.Replicas.length : Int)]) (S' := ⟨[(1, .P 21900), (3, .I ((IntKind.i64.wrap (xt3_9h + ((((p0.Replicas.getD (Int.toNat xt4_9h) z_api_Replica)).Log).length : Int))))), (4, .I xt4_9h)], [(21900, .raw [.ro Tag.t_api_Replica p0.Replicas, .ro Tag.t_bool p0.Up, .I p0.Leader, .I p0.Epoch])]⟩) (by kernel_rfl) (And.intro g1.1 g1.2) ?_
      refine awp_region L 224 [] [] [] [1, 3, 4] [21900] (cs := []) (S' := ⟨[(1, .P 21900), (3, .I ((IntKind.i64.wrap (xt3_9h + ((((p0.Replicas.getD (Int.toNat xt4_9h) z_api_Replica)).Log).length : Int))))), (4, .I ((IntKind.i64.wrap (xt4_9h + 1))))], [(21900, .raw [.ro Tag.t_api_Replica p0.Replicas, .ro Tag.t_bool p0.Up, .I p0.Leader, .I p0.Epoch])]⟩) (by kernel_rfl) trivial ?_
      exact ⟨k, Nat.lt_succ_self k, _, _, rfl, h⟩
    · refine awp_false (b := (decide (xt4_9h < (p0.Replicas.length : Int)))) (by kernel_rfl) (decide_eq_false c1) ?_
      refine awp_turn (Turns.trans (Turns.keep [1, 3] [21900] (S' := ⟨[(1, .P 21900), (3, .I xt3_9h)], [(21900, .raw [.ro Tag.t_api_Replica p0.Replicas, .ro Tag.t_bool p0.Up, .I p0.Leader, .I p0.Epoch])]⟩) (by kernel_rfl)) (Turns.ren [(21900, 21800)] (S' := ⟨[(1, .P 21800), (3, .I xt3_9h)], [(21800, .raw [.ro Tag.t_api_Replica p0.Replicas, .ro Tag.t_bool p0.Up, .I p0.Leader, .I p0.Epoch])]⟩) (by kernel_rfl) (by kernel_rfl))) ?_
      refine awp_exit [1, 3] [21800] (S' := ⟨[(1, .P 21800), (3, .I xt3_9h)], [(21800, .raw [.ro Tag.t_api_Replica p0.Replicas, .ro Tag.t_bool p0.Up, .I p0.Leader, .I p0.Epoch])]⟩) (by kernel_rfl) ?_
      have hr := Option.some.inj h
      subst hr
      exact ⟨rfl, _, rfl, rfl⟩
  · rintro e S ⟨rfl, xt3_9, rfl, rfl⟩
    refine ⟨_, Turns.refl, ?_⟩
    refine awp_seq ?_
    rcases ite_some h with ⟨c2, h⟩ | ⟨c2, h⟩
    · rcases ite_some h with ⟨c3, h⟩ | ⟨c3, h⟩
      · refine awp_region L 228 [(4, true), (10, true)] [] [] [2] [] (cs := [(decide ((p0.Replicas.length : Int) ≤ 12)) = true, (decide ((p0.Up.length : Int) ≤ 12)) = true]) (S' := ⟨[(2, .B ((decide (xt3_9 ≤ 2000))))], []⟩) (by kernel_rfl) (And.intro (decide_eq_true c2) (decide_eq_true c3)) ?_
        refine awp_ret ?_
        have hr := Option.some.inj h
        subst hr
        exact ⟨.inr rfl, .B ((decide (xt3_9 ≤ 2000))), by kernel_rfl, by kernel_rfl, by kernel_rfl⟩
      · refine awp_region L 228 [(4, true), (10, false)] [] [] [2] [] (cs := [(decide ((p0.Replicas.length : Int) ≤ 12)) = true, (decide ((p0.Up.length : Int) ≤ 12)) = false]) (S' := ⟨[(2, .B false)], []⟩) (by kernel_rfl) (And.intro (decide_eq_true c2) (decide_eq_false c3)) ?_
        refine awp_ret ?_
        have hr := Option.some.inj h
        subst hr
        exact ⟨.inr rfl, .B false, by kernel_rfl, by kernel_rfl, by kernel_rfl⟩
    · refine awp_region L 228 [(4, false)] [] [] [2] [] (cs := [(decide ((p0.Replicas.length : Int) ≤ 12)) = false]) (S' := ⟨[(2, .B false)], []⟩) (by kernel_rfl) (decide_eq_false c2) ?_
      refine awp_ret ?_
      have hr := Option.some.inj h
      subst hr
      exact ⟨.inr rfl, .B false, by kernel_rfl, by kernel_rfl, by kernel_rfl⟩

theorem workflowref55_Small.okE {K : Nat} {p0 : workflowref55_Group} {r : Bool} (h : workflowref55_Small K p0 = some r) : ECall V P 4 [.agg [.ro Tag.t_api_Replica p0.Replicas, .ro Tag.t_bool p0.Up, .I p0.Leader, .I p0.Epoch]] [] [] (.B r) [] :=
  ecall_of (fn := Try.f4) (n := 35) (m := 100) (by kernel_rfl) (by kernel_rfl) (by kernel_rfl) rfl (by kernel_rfl) (by kernel_rfl) fun Γ => workflowref55_Small.body h

theorem workflowref55_Small.ok {K : Nat} {p0 : workflowref55_Group} {r : Bool} (h : workflowref55_Small K p0 = some r) : PCall V P 4 [.agg [.ro Tag.t_api_Replica p0.Replicas, .ro Tag.t_bool p0.Up, .I p0.Leader, .I p0.Epoch]] (.B r) := (workflowref55_Small.okE h).pcall (by kernel_rfl)

def group_New.l17 (K : Nat) (p0 : Int) : Nat → Int → (List api_Replica) → (List Bool) → Option ((List api_Replica) × (List Bool))
  | 0, _, _, _ => none
  | k + 1, xt14_17h, xh23502_17h, xh23503_17h => (if xt14_17h < p0 then (if (xh23502_17h.length + (([(⟨0, (-1), 0, ([] : List api_Entry)⟩ : api_Replica)] : List api_Replica)).length) * 48 ≤ 140737488355328 then (if (xh23503_17h.length + ([true] : List Bool).length) * 1 ≤ 140737488355328 then group_New.l17 K p0 k ((IntKind.i64.wrap (xt14_17h + 1))) ((xh23502_17h ++ ([(⟨0, (-1), 0, ([] : List api_Entry)⟩ : api_Replica)] : List api_Replica))) ((xh23503_17h ++ ([true] : List Bool))) else none) else none) else some (xh23502_17h, xh23503_17h))

def group_New (K : Nat) (p0 : Int) : Option (group_Group × Int) := (if p0 < 1 then some (((⟨([] : List api_Replica), ([] : List Bool), 0, 0⟩ : group_Group), 2)) else (if p0 > 9 then some (((⟨([] : List api_Replica), ([] : List Bool), 0, 0⟩ : group_Group), 2)) else (Option.bind (group_New.l17 K p0 K 0 ([] : List api_Replica) ([] : List Bool) : Option ((List api_Replica) × (List Bool))) (fun (xh23402_17, xh23403_17) => some (((⟨xh23402_17, xh23403_17, (-1), 0⟩ : group_Group), 0))))))

theorem group_New.body {Γ : Ent} {K : Nat} {p0 : Int} {r : group_Group × Int} (h : group_New K p0 = some r) : AWp V P 29 100 Γ (Try.f6.body.getD .skip) (EndsE P V Try.f6 (.tup [.agg [.ro Tag.t_api_Replica ((r.1).Replicas), .ro Tag.t_bool ((r.1).Up), .I ((r.1).Leader), .I ((r.1).Epoch)], .I r.2]) []) ⟨args0 0 [.I p0], []⟩ := by
  unfold group_New at h
  refine awp_seq ?_
  refine awp_region L 200 [] [] [] [0, 2] [200] (cs := []) (S' := ⟨[(0, .I p0), (2, .P 200)], [(200, .raw [.N, .N, .I 0, .I 0])]⟩) (by kernel_rfl) trivial ?_
  refine awp_seq ?_
  refine awp_seq ?_
  rcases ite_some h with ⟨c1, h⟩ | ⟨c1, h⟩
  · refine awp_region L 203 [(2, true)] [] [] [0, 2, 10] [200] (cs := [(decide (p0 < 1)) = true]) (S' := ⟨[(0, .I p0), (2, .P 200), (10, .B true)], [(200, .raw [.N, .N, .I 0, .I 0])]⟩) (by kernel_rfl) (decide_eq_true c1) ?_
    refine awp_true (b := true) (by kernel_rfl) (rfl) ?_
    refine awp_seq ?_
    refine awp_region L 210 [] [] [] [2, 3] [200] (cs := []) (S' := ⟨[(2, .P 200), (3, .I 2)], [(200, .raw [.N, .N, .I 0, .I 0])]⟩) (by kernel_rfl) trivial ?_
    refine awp_turn (Turns.trans (Turns.keep [2, 3] [200] (S' := ⟨[(2, .P 200), (3, .I 2)], [(200, .raw [.N, .N, .I 0, .I 0])]⟩) (by kernel_rfl)) (Turns.ren [(200, 100)] (S' := ⟨[(2, .P 100), (3, .I 2)], [(100, .raw [.N, .N, .I 0, .I 0])]⟩) (by kernel_rfl) (by kernel_rfl))) ?_
    refine awp_ret ?_
    have hr := Option.some.inj h
    subst hr
    exact ⟨.inr rfl, .tup [.agg [.N, .N, .I 0, .I 0], .I 2], by kernel_rfl, by kernel_rfl, by kernel_rfl⟩
  · refine awp_region L 203 [(2, false)] [] [] [0, 2, 10] [200] (cs := [(decide (p0 < 1)) = false]) (S' := ⟨[(0, .I p0), (2, .P 200), (10, .B ((decide (p0 > 9))))], [(200, .raw [.N, .N, .I 0, .I 0])]⟩) (by kernel_rfl) (decide_eq_false c1) ?_
    rcases ite_some h with ⟨c2, h⟩ | ⟨c2, h⟩
    · refine awp_true (b := (decide (p0 > 9))) (by kernel_rfl) (decide_eq_true c2) ?_
      refine awp_seq ?_
      refine awp_region L 210 [] [] [] [2, 3] [200] (cs := []) (S' := ⟨[(2, .P 200), (3, .I 2)], [(200, .raw [.N, .N, .I 0, .I 0])]⟩) (by kernel_rfl) trivial ?_
      refine awp_turn (Turns.trans (Turns.keep [2, 3] [200] (S' := ⟨[(2, .P 200), (3, .I 2)], [(200, .raw [.N, .N, .I 0, .I 0])]⟩) (by kernel_rfl)) (Turns.ren [(200, 100)] (S' := ⟨[(2, .P 100), (3, .I 2)], [(100, .raw [.N, .N, .I 0, .I 0])]⟩) (by kernel_rfl) (by kernel_rfl))) ?_
      refine awp_ret ?_
      have hr := Option.some.inj h
      subst hr
      exact ⟨.inr rfl, .tup [.agg [.N, .N, .I 0, .I 0], .I 2], by kernel_rfl, by kernel_rfl, by kernel_rfl⟩
    · refine awp_false (b := (decide (p0 > 9))) (by kernel_rfl) (decide_eq_false c2) ?_
      refine awp_skip [0, 2] [200] (S' := ⟨[(0, .I p0), (2, .P 200)], [(200, .raw [.N, .N, .I 0, .I 0])]⟩) (by kernel_rfl) ?_
      refine awp_seq ?_
      refine awp_region L 214 [] [] [] [0, 2, 4] [200, 215] (cs := []) (S' := ⟨[(0, .I p0), (2, .P 200), (4, .P 215)], [(200, .raw [.N, .N, .I 0, .I 0]), (215, .raw [.N, .N, .I (-1), .I 0])]⟩) (by kernel_rfl) trivial ?_
      refine awp_seq ?_
      refine awp_seq ?_
      refine awp_region L 218 [] [] [] [2, 4, 13, 14] [200, 215] (cs := []) (S' := ⟨[(2, .P 200), (4, .P 215), (13, .I p0), (14, .I 0)], [(200, .raw [.N, .N, .I 0, .I 0]), (215, .raw [.N, .N, .I (-1), .I 0])]⟩) (by kernel_rfl) trivial ?_
      refine awp_block ?_
      refine awp_turn (Turns.trans (Turns.keep [2, 4, 13, 14] [200, 215] (S' := ⟨[(2, .P 200), (4, .P 215), (13, .I p0), (14, .I 0)], [(200, .raw [.N, .N, .I 0, .I 0]), (215, .raw [.N, .N, .I (-1), .I 0])]⟩) (by kernel_rfl)) (Turns.trans (Turns.nilownc 215 0 9500 Tag.t_api_Replica [.N, .N, .I (-1), .I 0] (by kernel_rfl) (by kernel_rfl) (by kernel_rfl) (by kernel_rfl) (S' := ⟨[(2, .P 200), (4, .P 215), (13, .I p0), (14, .I 0)], [(9500, .lst Tag.t_api_Replica ([] : List api_Replica)), (215, .raw [.own Tag.t_api_Replica 9500, .N, .I (-1), .I 0]), (200, .raw [.N, .N, .I 0, .I 0])]⟩) (by kernel_rfl)) (Turns.trans (Turns.keep [2, 4, 13, 14] [200, 215, 9500] (S' := ⟨[(2, .P 200), (4, .P 215), (13, .I p0), (14, .I 0)], [(200, .raw [.N, .N, .I 0, .I 0]), (215, .raw [.own Tag.t_api_Replica 9500, .N, .I (-1), .I 0]), (9500, .lst Tag.t_api_Replica ([] : List api_Replica))]⟩) (by kernel_rfl)) (Turns.trans (Turns.nilownc 215 1 9501 Tag.t_bool [.own Tag.t_api_Replica 9500, .N, .I (-1), .I 0] (by kernel_rfl) (by kernel_rfl) (by kernel_rfl) (by kernel_rfl) (S' := ⟨[(2, .P 200), (4, .P 215), (13, .I p0), (14, .I 0)], [(9501, .lst Tag.t_bool ([] : List Bool)), (215, .raw [.own Tag.t_api_Replica 9500, .own Tag.t_bool 9501, .I (-1), .I 0]), (200, .raw [.N, .N, .I 0, .I 0]), (9500, .lst Tag.t_api_Replica ([] : List api_Replica))]⟩) (by kernel_rfl)) (Turns.trans (Turns.keep [2, 4, 13, 14] [200, 215, 9500, 9501] (S' := ⟨[(2, .P 200), (4, .P 215), (13, .I p0), (14, .I 0)], [(200, .raw [.N, .N, .I 0, .I 0]), (215, .raw [.own Tag.t_api_Replica 9500, .own Tag.t_bool 9501, .I (-1), .I 0]), (9500, .lst Tag.t_api_Replica ([] : List api_Replica)), (9501, .lst Tag.t_bool ([] : List Bool))]⟩) (by kernel_rfl)) (Turns.ren [(200, 23500), (215, 23501), (9500, 23502), (9501, 23503)] (S' := ⟨[(2, .P 23500), (4, .P 23501), (13, .I p0), (14, .I 0)], [(23500, .raw [.N, .N, .I 0, .I 0]), (23501, .raw [.own Tag.t_api_Replica 23502, .own Tag.t_bool 23503, .I (-1), .I 0]), (23502, .lst Tag.t_api_Replica ([] : List api_Replica)), (23503, .lst Tag.t_bool ([] : List Bool))]⟩) (by kernel_rfl) (by kernel_rfl))))))) ?_
      refine awp_keep (ts := [2, 4, 13, 14]) (ids := [23500, 23501, 23502, 23503]) (S' := ⟨[(2, .P 23500), (4, .P 23501), (13, .I p0), (14, .I 0)], [(23500, .raw [.N, .N, .I 0, .I 0]), (23501, .raw [.own Tag.t_api_Replica 23502, .own Tag.t_bool 23503, .I (-1), .I 0]), (23502, .lst Tag.t_api_Replica ([] : List api_Replica)), (23503, .lst Tag.t_bool ([] : List Bool))]⟩) (by kernel_rfl) ?_
      obtain ⟨o1, hp1, h⟩ := bind_some h
      refine awp_conseq (Q' := fun e S => (e = .exit 0 ∧ ∃ xh23402_17 : List api_Replica, ∃ xh23403_17 : List Bool, S = ⟨[(2, .P 23400), (4, .P 23401)], [(23400, .raw [.N, .N, .I 0, .I 0]), (23401, .raw [.own Tag.t_api_Replica 23402, .own Tag.t_bool 23403, .I (-1), .I 0]), (23402, .lst Tag.t_api_Replica xh23402_17), (23403, .lst Tag.t_bool xh23403_17)]⟩ ∧ (xh23402_17, xh23403_17) = o1)) (awp_loop (fun k S => ∃ xt14_17h : Int, ∃ xh23502_17h : List api_Replica, ∃ xh23503_17h : List Bool, S = ⟨[(2, .P 23500), (4, .P 23501), (13, .I p0), (14, .I xt14_17h)], [(23500, .raw [.N, .N, .I 0, .I 0]), (23501, .raw [.own Tag.t_api_Replica 23502, .own Tag.t_bool 23503, .I (-1), .I 0]), (23502, .lst Tag.t_api_Replica xh23502_17h), (23503, .lst Tag.t_bool xh23503_17h)]⟩ ∧ group_New.l17 K p0 k xt14_17h xh23502_17h xh23503_17h = some o1) ?_ ⟨_, _, _, rfl, hp1⟩) ?_
      · clear h hp1
        intro k S hS
        obtain ⟨xt14_17h, xh23502_17h, xh23503_17h, rfl, h⟩ := hS
        cases k with
        | zero => cases h
        | succ k =>
        unfold group_New.l17 at h
        refine awp_seq ?_
        refine awp_region L 221 [] [] [] [2, 4, 13, 14, 15] [23500, 23501, 23502, 23503] (cs := []) (S' := ⟨[(2, .P 23500), (4, .P 23501), (13, .I p0), (14, .I xt14_17h), (15, .B ((decide (xt14_17h < p0))))], [(23500, .raw [.N, .N, .I 0, .I 0]), (23501, .raw [.own Tag.t_api_Replica 23502, .own Tag.t_bool 23503, .I (-1), .I 0]), (23502, .lst Tag.t_api_Replica xh23502_17h), (23503, .lst Tag.t_bool xh23503_17h)]⟩) (by kernel_rfl) trivial ?_
        refine awp_seq ?_
        rcases ite_some h with ⟨c3, h⟩ | ⟨c3, h⟩
        · refine awp_true (b := (decide (xt14_17h < p0))) (by kernel_rfl) (decide_eq_true c3) ?_
          refine awp_skip [2, 4, 13, 14] [23500, 23501, 23502, 23503] (S' := ⟨[(2, .P 23500), (4, .P 23501), (13, .I p0), (14, .I xt14_17h)], [(23500, .raw [.N, .N, .I 0, .I 0]), (23501, .raw [.own Tag.t_api_Replica 23502, .own Tag.t_bool 23503, .I (-1), .I 0]), (23502, .lst Tag.t_api_Replica xh23502_17h), (23503, .lst Tag.t_bool xh23503_17h)]⟩) (by kernel_rfl) ?_
          refine awp_seq ?_
          refine awp_block ?_
          refine awp_seq ?_
          obtain ⟨g1, h⟩ := guard_some h
          refine awp_region L 223 [] [] [] [2, 4, 13, 14] [23500, 23501, 23502, 23503] (cs := [(xh23502_17h.length + (([(⟨0, (-1), 0, ([] : List api_Entry)⟩ : api_Replica)] : List api_Replica)).length) * 48 ≤ 140737488355328, True]) (S' := ⟨[(2, .P 23500), (4, .P 23501), (13, .I p0), (14, .I xt14_17h)], [(23500, .raw [.N, .N, .I 0, .I 0]), (23501, .raw [.own Tag.t_api_Replica 23502, .own Tag.t_bool 23503, .I (-1), .I 0]), (23502, .lst Tag.t_api_Replica ((xh23502_17h ++ ([(⟨0, (-1), 0, ([] : List api_Entry)⟩ : api_Replica)] : List api_Replica)))), (23503, .lst Tag.t_bool xh23503_17h)]⟩) (by kernel_rfl) (And.intro g1 trivial) ?_
          obtain ⟨g2, h⟩ := guard_some h
          refine awp_region L 231 [] [] [] [2, 4, 13, 14] [23500, 23501, 23502, 23503] (cs := [(xh23503_17h.length + ([true] : List Bool).length) * 1 ≤ 140737488355328, True]) (S' := ⟨[(2, .P 23500), (4, .P 23501), (13, .I p0), (14, .I xt14_17h)], [(23500, .raw [.N, .N, .I 0, .I 0]), (23501, .raw [.own Tag.t_api_Replica 23502, .own Tag.t_bool 23503, .I (-1), .I 0]), (23502, .lst Tag.t_api_Replica ((xh23502_17h ++ ([(⟨0, (-1), 0, ([] : List api_Entry)⟩ : api_Replica)] : List api_Replica)))), (23503, .lst Tag.t_bool ((xh23503_17h ++ ([true] : List Bool))))]⟩) (by kernel_rfl) (And.intro g2 trivial) ?_
          refine awp_region L 238 [] [] [] [2, 4, 13, 14] [23500, 23501, 23502, 23503] (cs := []) (S' := ⟨[(2, .P 23500), (4, .P 23501), (13, .I p0), (14, .I ((IntKind.i64.wrap (xt14_17h + 1))))], [(23500, .raw [.N, .N, .I 0, .I 0]), (23501, .raw [.own Tag.t_api_Replica 23502, .own Tag.t_bool 23503, .I (-1), .I 0]), (23502, .lst Tag.t_api_Replica ((xh23502_17h ++ ([(⟨0, (-1), 0, ([] : List api_Entry)⟩ : api_Replica)] : List api_Replica)))), (23503, .lst Tag.t_bool ((xh23503_17h ++ ([true] : List Bool))))]⟩) (by kernel_rfl) trivial ?_
          exact ⟨k, Nat.lt_succ_self k, _, _, _, rfl, h⟩
        · refine awp_false (b := (decide (xt14_17h < p0))) (by kernel_rfl) (decide_eq_false c3) ?_
          refine awp_turn (Turns.trans (Turns.keep [2, 4] [23500, 23501, 23502, 23503] (S' := ⟨[(2, .P 23500), (4, .P 23501)], [(23500, .raw [.N, .N, .I 0, .I 0]), (23501, .raw [.own Tag.t_api_Replica 23502, .own Tag.t_bool 23503, .I (-1), .I 0]), (23502, .lst Tag.t_api_Replica xh23502_17h), (23503, .lst Tag.t_bool xh23503_17h)]⟩) (by kernel_rfl)) (Turns.ren [(23500, 23400), (23501, 23401), (23502, 23402), (23503, 23403)] (S' := ⟨[(2, .P 23400), (4, .P 23401)], [(23400, .raw [.N, .N, .I 0, .I 0]), (23401, .raw [.own Tag.t_api_Replica 23402, .own Tag.t_bool 23403, .I (-1), .I 0]), (23402, .lst Tag.t_api_Replica xh23502_17h), (23403, .lst Tag.t_bool xh23503_17h)]⟩) (by kernel_rfl) (by kernel_rfl))) ?_
          refine awp_exit [2, 4] [23400, 23401, 23402, 23403] (S' := ⟨[(2, .P 23400), (4, .P 23401)], [(23400, .raw [.N, .N, .I 0, .I 0]), (23401, .raw [.own Tag.t_api_Replica 23402, .own Tag.t_bool 23403, .I (-1), .I 0]), (23402, .lst Tag.t_api_Replica xh23502_17h), (23403, .lst Tag.t_bool xh23503_17h)]⟩) (by kernel_rfl) ?_
          have hr := Option.some.inj h
          subst hr
          exact ⟨rfl, _, _, rfl, rfl⟩
      · rintro e S ⟨rfl, xh23402_17, xh23403_17, rfl, rfl⟩
        dsimp only at h
        refine ⟨_, Turns.refl, ?_⟩
        refine awp_seq ?_
        refine awp_region L 241 [] [] [] [2, 3] [23400, 23402, 23403] (cs := []) (S' := ⟨[(2, .P 23400), (3, .I 0)], [(23400, .raw [.own Tag.t_api_Replica 23402, .own Tag.t_bool 23403, .I (-1), .I 0]), (23402, .lst Tag.t_api_Replica xh23402_17), (23403, .lst Tag.t_bool xh23403_17)]⟩) (by kernel_rfl) trivial ?_
        refine awp_turn (Turns.trans (Turns.keep [2, 3] [23400, 23402, 23403] (S' := ⟨[(2, .P 23400), (3, .I 0)], [(23400, .raw [.own Tag.t_api_Replica 23402, .own Tag.t_bool 23403, .I (-1), .I 0]), (23402, .lst Tag.t_api_Replica xh23402_17), (23403, .lst Tag.t_bool xh23403_17)]⟩) (by kernel_rfl)) (Turns.trans (Turns.frz 23402 (blk0 := .lst Tag.t_api_Replica xh23402_17) (by kernel_rfl) (by kernel_rfl) (S' := ⟨[(2, .P 23400), (3, .I 0)], [(23400, .raw [.ro Tag.t_api_Replica xh23402_17, .own Tag.t_bool 23403, .I (-1), .I 0]), (23403, .lst Tag.t_bool xh23403_17)]⟩) (by kernel_rfl)) (Turns.trans (Turns.frz 23403 (blk0 := .lst Tag.t_bool xh23403_17) (by kernel_rfl) (by kernel_rfl) (S' := ⟨[(2, .P 23400), (3, .I 0)], [(23400, .raw [.ro Tag.t_api_Replica xh23402_17, .ro Tag.t_bool xh23403_17, .I (-1), .I 0])]⟩) (by kernel_rfl)) (Turns.trans (Turns.keep [2, 3] [23400] (S' := ⟨[(2, .P 23400), (3, .I 0)], [(23400, .raw [.ro Tag.t_api_Replica xh23402_17, .ro Tag.t_bool xh23403_17, .I (-1), .I 0])]⟩) (by kernel_rfl)) (Turns.ren [(23400, 100)] (S' := ⟨[(2, .P 100), (3, .I 0)], [(100, .raw [.ro Tag.t_api_Replica xh23402_17, .ro Tag.t_bool xh23403_17, .I (-1), .I 0])]⟩) (by kernel_rfl) (by kernel_rfl)))))) ?_
        refine awp_ret ?_
        have hr := Option.some.inj h
        subst hr
        exact ⟨.inr rfl, .tup [.agg [.ro Tag.t_api_Replica xh23402_17, .ro Tag.t_bool xh23403_17, .I (-1), .I 0], .I 0], by kernel_rfl, by kernel_rfl, by kernel_rfl⟩

theorem group_New.okE {K : Nat} {p0 : Int} {r : group_Group × Int} (h : group_New K p0 = some r) : ECall V P 6 [.I p0] [] [] (.tup [.agg [.ro Tag.t_api_Replica ((r.1).Replicas), .ro Tag.t_bool ((r.1).Up), .I ((r.1).Leader), .I ((r.1).Epoch)], .I r.2]) [] :=
  ecall_of (fn := Try.f6) (n := 29) (m := 100) (by kernel_rfl) (by kernel_rfl) (by kernel_rfl) rfl (by kernel_rfl) (by kernel_rfl) fun Γ => group_New.body h

theorem group_New.ok {K : Nat} {p0 : Int} {r : group_Group × Int} (h : group_New K p0 = some r) : PCall V P 6 [.I p0] (.tup [.agg [.ro Tag.t_api_Replica ((r.1).Replicas), .ro Tag.t_bool ((r.1).Up), .I ((r.1).Leader), .I ((r.1).Epoch)], .I r.2]) := (group_New.okE h).pcall (by kernel_rfl)

def workflowref55_New.l17 (K : Nat) (p0 : Int) : Nat → Int → (List api_Replica) → (List Bool) → Option ((List api_Replica) × (List Bool))
  | 0, _, _, _ => none
  | k + 1, xt5_17h, xh23502_17h, xh23503_17h => (if xt5_17h < p0 then (if (xh23502_17h.length + (([(⟨0, (-1), 0, ([] : List api_Entry)⟩ : api_Replica)] : List api_Replica)).length) * 48 ≤ 140737488355328 then (if (xh23503_17h.length + ([true] : List Bool).length) * 1 ≤ 140737488355328 then workflowref55_New.l17 K p0 k ((IntKind.i64.wrap (xt5_17h + 1))) ((xh23502_17h ++ ([(⟨0, (-1), 0, ([] : List api_Entry)⟩ : api_Replica)] : List api_Replica))) ((xh23503_17h ++ ([true] : List Bool))) else none) else none) else some (xh23502_17h, xh23503_17h))

def workflowref55_New (K : Nat) (p0 : Int) : Option (workflowref55_Group × Int) := (if p0 < 1 then some (((⟨([] : List api_Replica), ([] : List Bool), 0, 0⟩ : workflowref55_Group), 2)) else (if p0 > 9 then some (((⟨([] : List api_Replica), ([] : List Bool), 0, 0⟩ : workflowref55_Group), 2)) else (Option.bind (workflowref55_New.l17 K p0 K 0 ([] : List api_Replica) ([] : List Bool) : Option ((List api_Replica) × (List Bool))) (fun (xh23402_17, xh23403_17) => some (((⟨xh23402_17, xh23403_17, (-1), 0⟩ : workflowref55_Group), 0))))))

theorem workflowref55_New.body {Γ : Ent} {K : Nat} {p0 : Int} {r : workflowref55_Group × Int} (h : workflowref55_New K p0 = some r) : AWp V P 31 100 Γ (Try.f7.body.getD .skip) (EndsE P V Try.f7 (.tup [.agg [.ro Tag.t_api_Replica ((r.1).Replicas), .ro Tag.t_bool ((r.1).Up), .I ((r.1).Leader), .I ((r.1).Epoch)], .I r.2]) []) ⟨args0 0 [.I p0], []⟩ := by
  unfold workflowref55_New at h
  refine awp_seq ?_
  refine awp_region L 200 [] [] [] [0, 2] [200] (cs := []) (S' := ⟨[(0, .I p0), (2, .P 200)], [(200, .raw [.N, .N, .I 0, .I 0])]⟩) (by kernel_rfl) trivial ?_
  refine awp_seq ?_
  refine awp_seq ?_
  rcases ite_some h with ⟨c1, h⟩ | ⟨c1, h⟩
  · refine awp_region L 203 [(2, true)] [] [] [0, 2, 11] [200] (cs := [(decide (p0 < 1)) = true]) (S' := ⟨[(0, .I p0), (2, .P 200), (11, .B true)], [(200, .raw [.N, .N, .I 0, .I 0])]⟩) (by kernel_rfl) (decide_eq_true c1) ?_
    refine awp_true (b := true) (by kernel_rfl) (rfl) ?_
    refine awp_seq ?_
    refine awp_region L 210 [] [] [] [2, 3] [200] (cs := []) (S' := ⟨[(2, .P 200), (3, .I 2)], [(200, .raw [.N, .N, .I 0, .I 0])]⟩) (by kernel_rfl) trivial ?_
    refine awp_turn (Turns.trans (Turns.keep [2, 3] [200] (S' := ⟨[(2, .P 200), (3, .I 2)], [(200, .raw [.N, .N, .I 0, .I 0])]⟩) (by kernel_rfl)) (Turns.ren [(200, 100)] (S' := ⟨[(2, .P 100), (3, .I 2)], [(100, .raw [.N, .N, .I 0, .I 0])]⟩) (by kernel_rfl) (by kernel_rfl))) ?_
    refine awp_ret ?_
    have hr := Option.some.inj h
    subst hr
    exact ⟨.inr rfl, .tup [.agg [.N, .N, .I 0, .I 0], .I 2], by kernel_rfl, by kernel_rfl, by kernel_rfl⟩
  · refine awp_region L 203 [(2, false)] [] [] [0, 2, 11] [200] (cs := [(decide (p0 < 1)) = false]) (S' := ⟨[(0, .I p0), (2, .P 200), (11, .B ((decide (p0 > 9))))], [(200, .raw [.N, .N, .I 0, .I 0])]⟩) (by kernel_rfl) (decide_eq_false c1) ?_
    rcases ite_some h with ⟨c2, h⟩ | ⟨c2, h⟩
    · refine awp_true (b := (decide (p0 > 9))) (by kernel_rfl) (decide_eq_true c2) ?_
      refine awp_seq ?_
      refine awp_region L 210 [] [] [] [2, 3] [200] (cs := []) (S' := ⟨[(2, .P 200), (3, .I 2)], [(200, .raw [.N, .N, .I 0, .I 0])]⟩) (by kernel_rfl) trivial ?_
      refine awp_turn (Turns.trans (Turns.keep [2, 3] [200] (S' := ⟨[(2, .P 200), (3, .I 2)], [(200, .raw [.N, .N, .I 0, .I 0])]⟩) (by kernel_rfl)) (Turns.ren [(200, 100)] (S' := ⟨[(2, .P 100), (3, .I 2)], [(100, .raw [.N, .N, .I 0, .I 0])]⟩) (by kernel_rfl) (by kernel_rfl))) ?_
      refine awp_ret ?_
      have hr := Option.some.inj h
      subst hr
      exact ⟨.inr rfl, .tup [.agg [.N, .N, .I 0, .I 0], .I 2], by kernel_rfl, by kernel_rfl, by kernel_rfl⟩
    · refine awp_false (b := (decide (p0 > 9))) (by kernel_rfl) (decide_eq_false c2) ?_
      refine awp_skip [0, 2] [200] (S' := ⟨[(0, .I p0), (2, .P 200)], [(200, .raw [.N, .N, .I 0, .I 0])]⟩) (by kernel_rfl) ?_
      refine awp_seq ?_
      refine awp_region L 214 [] [] [] [0, 2, 4] [200, 215] (cs := []) (S' := ⟨[(0, .I p0), (2, .P 200), (4, .P 215)], [(200, .raw [.N, .N, .I 0, .I 0]), (215, .raw [.N, .N, .I (-1), .I 0])]⟩) (by kernel_rfl) trivial ?_
      refine awp_seq ?_
      refine awp_seq ?_
      refine awp_region L 218 [] [] [] [0, 2, 4, 5] [200, 215] (cs := []) (S' := ⟨[(0, .I p0), (2, .P 200), (4, .P 215), (5, .I 0)], [(200, .raw [.N, .N, .I 0, .I 0]), (215, .raw [.N, .N, .I (-1), .I 0])]⟩) (by kernel_rfl) trivial ?_
      refine awp_block ?_
      refine awp_turn (Turns.trans (Turns.keep [0, 2, 4, 5] [200, 215] (S' := ⟨[(0, .I p0), (2, .P 200), (4, .P 215), (5, .I 0)], [(200, .raw [.N, .N, .I 0, .I 0]), (215, .raw [.N, .N, .I (-1), .I 0])]⟩) (by kernel_rfl)) (Turns.trans (Turns.nilownc 215 0 9500 Tag.t_api_Replica [.N, .N, .I (-1), .I 0] (by kernel_rfl) (by kernel_rfl) (by kernel_rfl) (by kernel_rfl) (S' := ⟨[(0, .I p0), (2, .P 200), (4, .P 215), (5, .I 0)], [(9500, .lst Tag.t_api_Replica ([] : List api_Replica)), (215, .raw [.own Tag.t_api_Replica 9500, .N, .I (-1), .I 0]), (200, .raw [.N, .N, .I 0, .I 0])]⟩) (by kernel_rfl)) (Turns.trans (Turns.keep [0, 2, 4, 5] [200, 215, 9500] (S' := ⟨[(0, .I p0), (2, .P 200), (4, .P 215), (5, .I 0)], [(200, .raw [.N, .N, .I 0, .I 0]), (215, .raw [.own Tag.t_api_Replica 9500, .N, .I (-1), .I 0]), (9500, .lst Tag.t_api_Replica ([] : List api_Replica))]⟩) (by kernel_rfl)) (Turns.trans (Turns.nilownc 215 1 9501 Tag.t_bool [.own Tag.t_api_Replica 9500, .N, .I (-1), .I 0] (by kernel_rfl) (by kernel_rfl) (by kernel_rfl) (by kernel_rfl) (S' := ⟨[(0, .I p0), (2, .P 200), (4, .P 215), (5, .I 0)], [(9501, .lst Tag.t_bool ([] : List Bool)), (215, .raw [.own Tag.t_api_Replica 9500, .own Tag.t_bool 9501, .I (-1), .I 0]), (200, .raw [.N, .N, .I 0, .I 0]), (9500, .lst Tag.t_api_Replica ([] : List api_Replica))]⟩) (by kernel_rfl)) (Turns.trans (Turns.keep [0, 2, 4, 5] [200, 215, 9500, 9501] (S' := ⟨[(0, .I p0), (2, .P 200), (4, .P 215), (5, .I 0)], [(200, .raw [.N, .N, .I 0, .I 0]), (215, .raw [.own Tag.t_api_Replica 9500, .own Tag.t_bool 9501, .I (-1), .I 0]), (9500, .lst Tag.t_api_Replica ([] : List api_Replica)), (9501, .lst Tag.t_bool ([] : List Bool))]⟩) (by kernel_rfl)) (Turns.ren [(200, 23500), (215, 23501), (9500, 23502), (9501, 23503)] (S' := ⟨[(0, .I p0), (2, .P 23500), (4, .P 23501), (5, .I 0)], [(23500, .raw [.N, .N, .I 0, .I 0]), (23501, .raw [.own Tag.t_api_Replica 23502, .own Tag.t_bool 23503, .I (-1), .I 0]), (23502, .lst Tag.t_api_Replica ([] : List api_Replica)), (23503, .lst Tag.t_bool ([] : List Bool))]⟩) (by kernel_rfl) (by kernel_rfl))))))) ?_
      refine awp_keep (ts := [0, 2, 4, 5]) (ids := [23500, 23501, 23502, 23503]) (S' := ⟨[(0, .I p0), (2, .P 23500), (4, .P 23501), (5, .I 0)], [(23500, .raw [.N, .N, .I 0, .I 0]), (23501, .raw [.own Tag.t_api_Replica 23502, .own Tag.t_bool 23503, .I (-1), .I 0]), (23502, .lst Tag.t_api_Replica ([] : List api_Replica)), (23503, .lst Tag.t_bool ([] : List Bool))]⟩) (by kernel_rfl) ?_
      obtain ⟨o1, hp1, h⟩ := bind_some h
      refine awp_conseq (Q' := fun e S => (e = .exit 0 ∧ ∃ xh23402_17 : List api_Replica, ∃ xh23403_17 : List Bool, S = ⟨[(2, .P 23400), (4, .P 23401)], [(23400, .raw [.N, .N, .I 0, .I 0]), (23401, .raw [.own Tag.t_api_Replica 23402, .own Tag.t_bool 23403, .I (-1), .I 0]), (23402, .lst Tag.t_api_Replica xh23402_17), (23403, .lst Tag.t_bool xh23403_17)]⟩ ∧ (xh23402_17, xh23403_17) = o1)) (awp_loop (fun k S => ∃ xt5_17h : Int, ∃ xh23502_17h : List api_Replica, ∃ xh23503_17h : List Bool, S = ⟨[(0, .I p0), (2, .P 23500), (4, .P 23501), (5, .I xt5_17h)], [(23500, .raw [.N, .N, .I 0, .I 0]), (23501, .raw [.own Tag.t_api_Replica 23502, .own Tag.t_bool 23503, .I (-1), .I 0]), (23502, .lst Tag.t_api_Replica xh23502_17h), (23503, .lst Tag.t_bool xh23503_17h)]⟩ ∧ workflowref55_New.l17 K p0 k xt5_17h xh23502_17h xh23503_17h = some o1) ?_ ⟨_, _, _, rfl, hp1⟩) ?_
      · clear h hp1
        intro k S hS
        obtain ⟨xt5_17h, xh23502_17h, xh23503_17h, rfl, h⟩ := hS
        cases k with
        | zero => cases h
        | succ k =>
        unfold workflowref55_New.l17 at h
        refine awp_seq ?_
        refine awp_seq ?_
        refine awp_region L 220 [] [] [] [0, 2, 4, 5, 16] [23500, 23501, 23502, 23503] (cs := []) (S' := ⟨[(0, .I p0), (2, .P 23500), (4, .P 23501), (5, .I xt5_17h), (16, .B ((decide (xt5_17h < p0))))], [(23500, .raw [.N, .N, .I 0, .I 0]), (23501, .raw [.own Tag.t_api_Replica 23502, .own Tag.t_bool 23503, .I (-1), .I 0]), (23502, .lst Tag.t_api_Replica xh23502_17h), (23503, .lst Tag.t_bool xh23503_17h)]⟩) (by kernel_rfl) trivial ?_
        rcases ite_some h with ⟨c3, h⟩ | ⟨c3, h⟩
        · refine awp_true (b := (decide (xt5_17h < p0))) (by kernel_rfl) (decide_eq_true c3) ?_
          refine awp_skip [0, 2, 4, 5] [23500, 23501, 23502, 23503] (S' := ⟨[(0, .I p0), (2, .P 23500), (4, .P 23501), (5, .I xt5_17h)], [(23500, .raw [.N, .N, .I 0, .I 0]), (23501, .raw [.own Tag.t_api_Replica 23502, .own Tag.t_bool 23503, .I (-1), .I 0]), (23502, .lst Tag.t_api_Replica xh23502_17h), (23503, .lst Tag.t_bool xh23503_17h)]⟩) (by kernel_rfl) ?_
          refine awp_seq ?_
          refine awp_block ?_
          refine awp_seq ?_
          obtain ⟨g1, h⟩ := guard_some h
          refine awp_region L 224 [] [] [] [0, 2, 4, 5] [23500, 23501, 23502, 23503] (cs := [(xh23502_17h.length + (([(⟨0, (-1), 0, ([] : List api_Entry)⟩ : api_Replica)] : List api_Replica)).length) * 48 ≤ 140737488355328, True]) (S' := ⟨[(0, .I p0), (2, .P 23500), (4, .P 23501), (5, .I xt5_17h)], [(23500, .raw [.N, .N, .I 0, .I 0]), (23501, .raw [.own Tag.t_api_Replica 23502, .own Tag.t_bool 23503, .I (-1), .I 0]), (23502, .lst Tag.t_api_Replica ((xh23502_17h ++ ([(⟨0, (-1), 0, ([] : List api_Entry)⟩ : api_Replica)] : List api_Replica)))), (23503, .lst Tag.t_bool xh23503_17h)]⟩) (by kernel_rfl) (And.intro g1 trivial) ?_
          obtain ⟨g2, h⟩ := guard_some h
          refine awp_region L 232 [] [] [] [0, 2, 4, 5] [23500, 23501, 23502, 23503] (cs := [(xh23503_17h.length + ([true] : List Bool).length) * 1 ≤ 140737488355328, True]) (S' := ⟨[(0, .I p0), (2, .P 23500), (4, .P 23501), (5, .I xt5_17h)], [(23500, .raw [.N, .N, .I 0, .I 0]), (23501, .raw [.own Tag.t_api_Replica 23502, .own Tag.t_bool 23503, .I (-1), .I 0]), (23502, .lst Tag.t_api_Replica ((xh23502_17h ++ ([(⟨0, (-1), 0, ([] : List api_Entry)⟩ : api_Replica)] : List api_Replica)))), (23503, .lst Tag.t_bool ((xh23503_17h ++ ([true] : List Bool))))]⟩) (by kernel_rfl) (And.intro g2 trivial) ?_
          refine awp_region L 239 [] [] [] [0, 2, 4, 5] [23500, 23501, 23502, 23503] (cs := []) (S' := ⟨[(0, .I p0), (2, .P 23500), (4, .P 23501), (5, .I ((IntKind.i64.wrap (xt5_17h + 1))))], [(23500, .raw [.N, .N, .I 0, .I 0]), (23501, .raw [.own Tag.t_api_Replica 23502, .own Tag.t_bool 23503, .I (-1), .I 0]), (23502, .lst Tag.t_api_Replica ((xh23502_17h ++ ([(⟨0, (-1), 0, ([] : List api_Entry)⟩ : api_Replica)] : List api_Replica)))), (23503, .lst Tag.t_bool ((xh23503_17h ++ ([true] : List Bool))))]⟩) (by kernel_rfl) trivial ?_
          exact ⟨k, Nat.lt_succ_self k, _, _, _, rfl, h⟩
        · refine awp_false (b := (decide (xt5_17h < p0))) (by kernel_rfl) (decide_eq_false c3) ?_
          refine awp_turn (Turns.trans (Turns.keep [2, 4] [23500, 23501, 23502, 23503] (S' := ⟨[(2, .P 23500), (4, .P 23501)], [(23500, .raw [.N, .N, .I 0, .I 0]), (23501, .raw [.own Tag.t_api_Replica 23502, .own Tag.t_bool 23503, .I (-1), .I 0]), (23502, .lst Tag.t_api_Replica xh23502_17h), (23503, .lst Tag.t_bool xh23503_17h)]⟩) (by kernel_rfl)) (Turns.ren [(23500, 23400), (23501, 23401), (23502, 23402), (23503, 23403)] (S' := ⟨[(2, .P 23400), (4, .P 23401)], [(23400, .raw [.N, .N, .I 0, .I 0]), (23401, .raw [.own Tag.t_api_Replica 23402, .own Tag.t_bool 23403, .I (-1), .I 0]), (23402, .lst Tag.t_api_Replica xh23502_17h), (23403, .lst Tag.t_bool xh23503_17h)]⟩) (by kernel_rfl) (by kernel_rfl))) ?_
          refine awp_exit [2, 4] [23400, 23401, 23402, 23403] (S' := ⟨[(2, .P 23400), (4, .P 23401)], [(23400, .raw [.N, .N, .I 0, .I 0]), (23401, .raw [.own Tag.t_api_Replica 23402, .own Tag.t_bool 23403, .I (-1), .I 0]), (23402, .lst Tag.t_api_Replica xh23502_17h), (23403, .lst Tag.t_bool xh23503_17h)]⟩) (by kernel_rfl) ?_
          have hr := Option.some.inj h
          subst hr
          exact ⟨rfl, _, _, rfl, rfl⟩
      · rintro e S ⟨rfl, xh23402_17, xh23403_17, rfl, rfl⟩
        dsimp only at h
        refine ⟨_, Turns.refl, ?_⟩
        refine awp_seq ?_
        refine awp_region L 243 [] [] [] [2, 3] [23400, 23402, 23403] (cs := []) (S' := ⟨[(2, .P 23400), (3, .I 0)], [(23400, .raw [.own Tag.t_api_Replica 23402, .own Tag.t_bool 23403, .I (-1), .I 0]), (23402, .lst Tag.t_api_Replica xh23402_17), (23403, .lst Tag.t_bool xh23403_17)]⟩) (by kernel_rfl) trivial ?_
        refine awp_turn (Turns.trans (Turns.keep [2, 3] [23400, 23402, 23403] (S' := ⟨[(2, .P 23400), (3, .I 0)], [(23400, .raw [.own Tag.t_api_Replica 23402, .own Tag.t_bool 23403, .I (-1), .I 0]), (23402, .lst Tag.t_api_Replica xh23402_17), (23403, .lst Tag.t_bool xh23403_17)]⟩) (by kernel_rfl)) (Turns.trans (Turns.frz 23402 (blk0 := .lst Tag.t_api_Replica xh23402_17) (by kernel_rfl) (by kernel_rfl) (S' := ⟨[(2, .P 23400), (3, .I 0)], [(23400, .raw [.ro Tag.t_api_Replica xh23402_17, .own Tag.t_bool 23403, .I (-1), .I 0]), (23403, .lst Tag.t_bool xh23403_17)]⟩) (by kernel_rfl)) (Turns.trans (Turns.frz 23403 (blk0 := .lst Tag.t_bool xh23403_17) (by kernel_rfl) (by kernel_rfl) (S' := ⟨[(2, .P 23400), (3, .I 0)], [(23400, .raw [.ro Tag.t_api_Replica xh23402_17, .ro Tag.t_bool xh23403_17, .I (-1), .I 0])]⟩) (by kernel_rfl)) (Turns.trans (Turns.keep [2, 3] [23400] (S' := ⟨[(2, .P 23400), (3, .I 0)], [(23400, .raw [.ro Tag.t_api_Replica xh23402_17, .ro Tag.t_bool xh23403_17, .I (-1), .I 0])]⟩) (by kernel_rfl)) (Turns.ren [(23400, 100)] (S' := ⟨[(2, .P 100), (3, .I 0)], [(100, .raw [.ro Tag.t_api_Replica xh23402_17, .ro Tag.t_bool xh23403_17, .I (-1), .I 0])]⟩) (by kernel_rfl) (by kernel_rfl)))))) ?_
        refine awp_ret ?_
        have hr := Option.some.inj h
        subst hr
        exact ⟨.inr rfl, .tup [.agg [.ro Tag.t_api_Replica xh23402_17, .ro Tag.t_bool xh23403_17, .I (-1), .I 0], .I 0], by kernel_rfl, by kernel_rfl, by kernel_rfl⟩

theorem workflowref55_New.okE {K : Nat} {p0 : Int} {r : workflowref55_Group × Int} (h : workflowref55_New K p0 = some r) : ECall V P 7 [.I p0] [] [] (.tup [.agg [.ro Tag.t_api_Replica ((r.1).Replicas), .ro Tag.t_bool ((r.1).Up), .I ((r.1).Leader), .I ((r.1).Epoch)], .I r.2]) [] :=
  ecall_of (fn := Try.f7) (n := 31) (m := 100) (by kernel_rfl) (by kernel_rfl) (by kernel_rfl) rfl (by kernel_rfl) (by kernel_rfl) fun Γ => workflowref55_New.body h

theorem workflowref55_New.ok {K : Nat} {p0 : Int} {r : workflowref55_Group × Int} (h : workflowref55_New K p0 = some r) : PCall V P 7 [.I p0] (.tup [.agg [.ro Tag.t_api_Replica ((r.1).Replicas), .ro Tag.t_bool ((r.1).Up), .I ((r.1).Leader), .I ((r.1).Epoch)], .I r.2]) := (workflowref55_New.okE h).pcall (by kernel_rfl)

def workflowlaw55_back (K : Nat) (p0 : group_Group) : Option workflowref55_Group := some (⟨p0.Replicas, p0.Up, p0.Leader, p0.Epoch⟩ : workflowref55_Group)

theorem workflowlaw55_back.body {Γ : Ent} {K : Nat} {p0 : group_Group} {r : workflowref55_Group} (h : workflowlaw55_back K p0 = some r) : AWp V P 12 100 Γ (Try.f9.body.getD .skip) (EndsE P V Try.f9 (.agg [.ro Tag.t_api_Replica ((r).Replicas), .ro Tag.t_bool ((r).Up), .I ((r).Leader), .I ((r).Epoch)]) []) ⟨args0 0 [.agg [.ro Tag.t_api_Replica p0.Replicas, .ro Tag.t_bool p0.Up, .I p0.Leader, .I p0.Epoch]], []⟩ := by
  unfold workflowlaw55_back at h
  refine awp_seq ?_
  refine awp_region L 200 [] [] [] [1, 2] [200, 201] (cs := []) (S' := ⟨[(1, .P 200), (2, .P 201)], [(200, .raw [.ro Tag.t_api_Replica p0.Replicas, .ro Tag.t_bool p0.Up, .I p0.Leader, .I p0.Epoch]), (201, .raw [.N, .N, .I 0, .I 0])]⟩) (by kernel_rfl) trivial ?_
  refine awp_seq ?_
  refine awp_region L 203 [] [] [] [2] [201] (cs := []) (S' := ⟨[(2, .P 201)], [(201, .raw [.ro Tag.t_api_Replica p0.Replicas, .ro Tag.t_bool p0.Up, .I p0.Leader, .I p0.Epoch])]⟩) (by kernel_rfl) trivial ?_
  refine awp_turn (Turns.trans (Turns.keep [2] [201] (S' := ⟨[(2, .P 201)], [(201, .raw [.ro Tag.t_api_Replica p0.Replicas, .ro Tag.t_bool p0.Up, .I p0.Leader, .I p0.Epoch])]⟩) (by kernel_rfl)) (Turns.ren [(201, 100)] (S' := ⟨[(2, .P 100)], [(100, .raw [.ro Tag.t_api_Replica p0.Replicas, .ro Tag.t_bool p0.Up, .I p0.Leader, .I p0.Epoch])]⟩) (by kernel_rfl) (by kernel_rfl))) ?_
  refine awp_ret ?_
  have hr := Option.some.inj h
  subst hr
  exact ⟨.inr rfl, .agg [.ro Tag.t_api_Replica p0.Replicas, .ro Tag.t_bool p0.Up, .I p0.Leader, .I p0.Epoch], by kernel_rfl, by kernel_rfl, by kernel_rfl⟩

theorem workflowlaw55_back.okE {K : Nat} {p0 : group_Group} {r : workflowref55_Group} (h : workflowlaw55_back K p0 = some r) : ECall V P 9 [.agg [.ro Tag.t_api_Replica p0.Replicas, .ro Tag.t_bool p0.Up, .I p0.Leader, .I p0.Epoch]] [] [] (.agg [.ro Tag.t_api_Replica ((r).Replicas), .ro Tag.t_bool ((r).Up), .I ((r).Leader), .I ((r).Epoch)]) [] :=
  ecall_of (fn := Try.f9) (n := 12) (m := 100) (by kernel_rfl) (by kernel_rfl) (by kernel_rfl) rfl (by kernel_rfl) (by kernel_rfl) fun Γ => workflowlaw55_back.body h

theorem workflowlaw55_back.ok {K : Nat} {p0 : group_Group} {r : workflowref55_Group} (h : workflowlaw55_back K p0 = some r) : PCall V P 9 [.agg [.ro Tag.t_api_Replica p0.Replicas, .ro Tag.t_bool p0.Up, .I p0.Leader, .I p0.Epoch]] (.agg [.ro Tag.t_api_Replica ((r).Replicas), .ro Tag.t_bool ((r).Up), .I ((r).Leader), .I ((r).Epoch)]) := (workflowlaw55_back.okE h).pcall (by kernel_rfl)

def workflowref52_Agree.l15 (K : Nat) (p0 : api_Entry) (p1 : api_Entry) : Nat → Int → Option (Out Bool Unit)
  | 0, _ => none
  | k + 1, xt5_15h => (if xt5_15h < (p0.Data.length : Int) then (if (0 : Int) ≤ xt5_15h ∧ (xt5_15h : Int) < (p0.Data.length : Int) then (if (xt5_15h : Int) < (p1.Data.length : Int) then (if (((p0.Data.getD (Int.toNat xt5_15h) (0 : UInt8))).toNat : Int) ≠ (((p1.Data.getD (Int.toNat xt5_15h) (0 : UInt8))).toNat : Int) then some (Out.done false) else workflowref52_Agree.l15 K p0 p1 k ((IntKind.i64.wrap (xt5_15h + 1)))) else none) else none) else some (Out.go ()))

def workflowref52_Agree (K : Nat) (p0 : api_Entry) (p1 : api_Entry) : Option Bool := (if p0.Epoch ≠ p1.Epoch then some false else (if (p0.Data.length : Int) ≠ (p1.Data.length : Int) then some false else (obind (workflowref52_Agree.l15 K p0 p1 K 0 : Option (Out Bool Unit)) (fun r => r) (fun _ => some true))))

theorem workflowref52_Agree.body {Γ : Ent} {K : Nat} {p0 : api_Entry} {p1 : api_Entry} {r : Bool} (h : workflowref52_Agree K p0 p1 = some r) : AWp V P 38 100 Γ (Try.f20.body.getD .skip) (EndsE P V Try.f20 (.B r) []) ⟨args0 0 [.agg [.I p0.Epoch, .ro Tag.t_uint8 p0.Data], .agg [.I p1.Epoch, .ro Tag.t_uint8 p1.Data]], []⟩ := by
  unfold workflowref52_Agree at h
  refine awp_seq ?_
  refine awp_region L 200 [] [] [] [2, 3] [200, 201] (cs := []) (S' := ⟨[(2, .P 200), (3, .P 201)], [(200, .raw [.I p0.Epoch, .ro Tag.t_uint8 p0.Data]), (201, .raw [.I p1.Epoch, .ro Tag.t_uint8 p1.Data])]⟩) (by kernel_rfl) trivial ?_
  refine awp_seq ?_
  refine awp_seq ?_
  rcases ite_some h with ⟨c1, h⟩ | ⟨c1, h⟩
  · refine awp_region L 204 [(5, true)] [] [] [2, 3, 19] [200, 201] (cs := [(decide (p0.Epoch ≠ p1.Epoch)) = true]) (S' := ⟨[(2, .P 200), (3, .P 201), (19, .B true)], [(200, .raw [.I p0.Epoch, .ro Tag.t_uint8 p0.Data]), (201, .raw [.I p1.Epoch, .ro Tag.t_uint8 p1.Data])]⟩) (by kernel_rfl) (decide_eq_true c1) ?_
    refine awp_true (b := true) (by kernel_rfl) (rfl) ?_
    refine awp_seq ?_
    refine awp_region L 219 [] [] [] [4] [] (cs := []) (S' := ⟨[(4, .B false)], []⟩) (by kernel_rfl) trivial ?_
    refine awp_ret ?_
    have hr := Option.some.inj h
    subst hr
    exact ⟨.inr rfl, .B false, by kernel_rfl, by kernel_rfl, by kernel_rfl⟩
  · refine awp_region L 204 [(5, false)] [] [] [2, 3, 19] [200, 201] (cs := [(decide (p0.Epoch ≠ p1.Epoch)) = false]) (S' := ⟨[(2, .P 200), (3, .P 201), (19, .B ((decide ((p0.Data.length : Int) ≠ (p1.Data.length : Int)))))], [(200, .raw [.I p0.Epoch, .ro Tag.t_uint8 p0.Data]), (201, .raw [.I p1.Epoch, .ro Tag.t_uint8 p1.Data])]⟩) (by kernel_rfl) (decide_eq_false c1) ?_
    rcases ite_some h with ⟨c2, h⟩ | ⟨c2, h⟩
    · refine awp_true (b := (decide ((p0.Data.length : Int) ≠ (p1.Data.length : Int)))) (by kernel_rfl) (decide_eq_true c2) ?_
      refine awp_seq ?_
      refine awp_region L 219 [] [] [] [4] [] (cs := []) (S' := ⟨[(4, .B false)], []⟩) (by kernel_rfl) trivial ?_
      refine awp_ret ?_
      have hr := Option.some.inj h
      subst hr
      exact ⟨.inr rfl, .B false, by kernel_rfl, by kernel_rfl, by kernel_rfl⟩
    · refine awp_false (b := (decide ((p0.Data.length : Int) ≠ (p1.Data.length : Int)))) (by kernel_rfl) (decide_eq_false c2) ?_
      refine awp_skip [2, 3] [200, 201] (S' := ⟨[(2, .P 200), (3, .P 201)], [(200, .raw [.I p0.Epoch, .ro Tag.t_uint8 p0.Data]), (201, .raw [.I p1.Epoch, .ro Tag.t_uint8 p1.Data])]⟩) (by kernel_rfl) ?_
      refine awp_seq ?_
      refine awp_seq ?_
      refine awp_region L 221 [] [] [] [2, 3, 5] [200, 201] (cs := []) (S' := ⟨[(2, .P 200), (3, .P 201), (5, .I 0)], [(200, .raw [.I p0.Epoch, .ro Tag.t_uint8 p0.Data]), (201, .raw [.I p1.Epoch, .ro Tag.t_uint8 p1.Data])]⟩) (by kernel_rfl) trivial ?_
      refine awp_block ?_
      refine awp_turn (Turns.trans (Turns.keep [2, 3, 5] [200, 201] (S' := ⟨[(2, .P 200), (3, .P 201), (5, .I 0)], [(200, .raw [.I p0.Epoch, .ro Tag.t_uint8 p0.Data]), (201, .raw [.I p1.Epoch, .ro Tag.t_uint8 p1.Data])]⟩) (by kernel_rfl)) (Turns.ren [(200, 23100), (201, 23101)] (S' := ⟨[(2, .P 23100), (3, .P 23101), (5, .I 0)], [(23100, .raw [.I p0.Epoch, .ro Tag.t_uint8 p0.Data]), (23101, .raw [.I p1.Epoch, .ro Tag.t_uint8 p1.Data])]⟩) (by kernel_rfl) (by kernel_rfl))) ?_
      refine awp_keep (ts := [2, 3, 5]) (ids := [23100, 23101]) (S' := ⟨[(2, .P 23100), (3, .P 23101), (5, .I 0)], [(23100, .raw [.I p0.Epoch, .ro Tag.t_uint8 p0.Data]), (23101, .raw [.I p1.Epoch, .ro Tag.t_uint8 p1.Data])]⟩) (by kernel_rfl) ?_
      obtain ⟨o1, hp1, h⟩ := obind_some h
      refine awp_conseq (Q' := fun e S => (e = .exit 0 ∧ S = ⟨[], []⟩ ∧ Out.go () = o1) ∨ (e = .ret ∧ ∃ a, Out.done a = o1 ∧ EndsE P V Try.f20 (.B a) [] .ret S)) (awp_loop (fun k S => ∃ xt5_15h : Int, S = ⟨[(2, .P 23100), (3, .P 23101), (5, .I xt5_15h)], [(23100, .raw [.I p0.Epoch, .ro Tag.t_uint8 p0.Data]), (23101, .raw [.I p1.Epoch, .ro Tag.t_uint8 p1.Data])]⟩ ∧ workflowref52_Agree.l15 K p0 p1 k xt5_15h = some o1) ?_ ⟨_, rfl, hp1⟩) ?_
      · clear h hp1
        intro k S hS
        obtain ⟨xt5_15h, rfl, h⟩ := hS
        cases k with
        | zero => cases h
        | succ k =>
        unfold workflowref52_Agree.l15 at h
        refine awp_seq ?_
        refine awp_seq ?_
        refine awp_region L 223 [] [] [] [2, 3, 5, 24] [23100, 23101] (cs := []) (S' := ⟨[(2, .P 23100), (3, .P 23101), (5, .I xt5_15h), (24, .B ((decide (xt5_15h < (p0.Data.length : Int)))))], [(23100, .raw [.I p0.Epoch, .ro Tag.t_uint8 p0.Data]), (23101, .raw [.I p1.Epoch, .ro Tag.t_uint8 p1.Data])]⟩) (by kernel_rfl) trivial ?_
        rcases ite_some h with ⟨c3, h⟩ | ⟨c3, h⟩
        · refine awp_true (b := (decide (xt5_15h < (p0.Data.length : Int)))) (by kernel_rfl) (decide_eq_true c3) ?_
          refine awp_skip [2, 3, 5] [23100, 23101] (S' := ⟨[(2, .P 23100), (3, .P 23101), (5, .I xt5_15h)], [(23100, .raw [.I p0.Epoch, .ro Tag.t_uint8 p0.Data]), (23101, .raw [.I p1.Epoch, .ro Tag.t_uint8 p1.Data])]⟩) (by kernel_rfl) ?_
          refine awp_seq ?_
          refine awp_block ?_
          refine awp_seq ?_
          obtain ⟨g1, h⟩ := guard_some h
          obtain ⟨g2, h⟩ := guard_some h
          refine awp_draw L mixed 229 [] [] [] [] 11 [2, 3, 5, 37] [23100, 23101] (cs := [(0 : Int) ≤ xt5_15h, (xt5_15h : Int) < (p0.Data.length : Int), (0 : Int) ≤ xt5_15h, (xt5_15h : Int) < (p1.Data.length : Int)]) (S' := ⟨[(2, .P 23100), (3, .P 23101), (5, .I xt5_15h), (37, .B ((decide ((((p0.Data.getD (Int.toNat xt5_15h) (0 : UInt8))).toNat : Int) ≠ (((p1.Data.getD (Int.toNat xt5_15h) (0 : UInt8))).toNat : Int)))))], [(23100, .raw [.I p0.Epoch, .ro Tag.t_uint8 p0.Data]), (23101, .raw [.I p1.Epoch, .ro Tag.t_uint8 p1.Data])]⟩) (by kernel_rfl) (And.intro g1.1 (And.intro g1.2 (And.intro g1.1 g2))) ?_
          rcases ite_some h with ⟨c4, h⟩ | ⟨c4, h⟩
          · refine awp_true (b := (decide ((((p0.Data.getD (Int.toNat xt5_15h) (0 : UInt8))).toNat : Int) ≠ (((p1.Data.getD (Int.toNat xt5_15h) (0 : UInt8))).toNat : Int)))) (by kernel_rfl) (decide_eq_true c4) ?_
            refine awp_seq ?_
            refine awp_region L 241 [] [] [] [4] [] (cs := []) (S' := ⟨[(4, .B false)], []⟩) (by kernel_rfl) trivial ?_
            refine awp_ret ?_
            have hr := Option.some.inj h
            subst hr
            exact .inr ⟨rfl, _, rfl, ⟨.inr rfl, .B false, by kernel_rfl, by kernel_rfl, by kernel_rfl⟩⟩
          · refine awp_false (b := (decide ((((p0.Data.getD (Int.toNat xt5_15h) (0 : UInt8))).toNat : Int) ≠ (((p1.Data.getD (Int.toNat xt5_15h) (0 : UInt8))).toNat : Int)))) (by kernel_rfl) (decide_eq_false c4) ?_
            refine awp_skip [2, 3, 5] [23100, 23101] (S' := ⟨[(2, .P 23100), (3, .P 23101), (5, .I xt5_15h)], [(23100, .raw [.I p0.Epoch, .ro Tag.t_uint8 p0.Data]), (23101, .raw [.I p1.Epoch, .ro Tag.t_uint8 p1.Data])]⟩) (by kernel_rfl) ?_
            refine awp_region L 243 [] [] [] [2, 3, 5] [23100, 23101] (cs := []) (S' := ⟨[(2, .P 23100), (3, .P 23101), (5, .I ((IntKind.i64.wrap (xt5_15h + 1))))], [(23100, .raw [.I p0.Epoch, .ro Tag.t_uint8 p0.Data]), (23101, .raw [.I p1.Epoch, .ro Tag.t_uint8 p1.Data])]⟩) (by kernel_rfl) trivial ?_
            exact ⟨k, Nat.lt_succ_self k, _, rfl, h⟩
        · refine awp_false (b := (decide (xt5_15h < (p0.Data.length : Int)))) (by kernel_rfl) (decide_eq_false c3) ?_
          refine awp_exit [] [] (S' := ⟨[], []⟩) (by kernel_rfl) ?_
          have hr := Option.some.inj h
          subst hr
          exact .inl ⟨rfl, rfl, rfl⟩
      · rintro e S (⟨rfl, rfl, rfl⟩ | ⟨rfl, a, rfl, hr⟩)
        · rcases h with ⟨_, e1, h⟩ | ⟨_, e1, h⟩
          · cases e1
          · have e2 := Out.go.inj e1
            subst e2
            refine ⟨_, Turns.refl, ?_⟩
            refine awp_seq ?_
            refine awp_region L 247 [] [] [] [4] [] (cs := []) (S' := ⟨[(4, .B true)], []⟩) (by kernel_rfl) trivial ?_
            refine awp_ret ?_
            have hr := Option.some.inj h
            subst hr
            exact ⟨.inr rfl, .B true, by kernel_rfl, by kernel_rfl, by kernel_rfl⟩
        · rcases h with ⟨_, e1, h⟩ | ⟨_, e1, h⟩
          · have e2 := Out.done.inj e1
            subst e2
            subst h
            exact ⟨_, Turns.refl, hr⟩
          · cases e1

theorem workflowref52_Agree.okE {K : Nat} {p0 : api_Entry} {p1 : api_Entry} {r : Bool} (h : workflowref52_Agree K p0 p1 = some r) : ECall V P 20 [.agg [.I p0.Epoch, .ro Tag.t_uint8 p0.Data], .agg [.I p1.Epoch, .ro Tag.t_uint8 p1.Data]] [] [] (.B r) [] :=
  ecall_of (fn := Try.f20) (n := 38) (m := 100) (by kernel_rfl) (by kernel_rfl) (by kernel_rfl) rfl (by kernel_rfl) (by kernel_rfl) fun Γ => workflowref52_Agree.body h

theorem workflowref52_Agree.ok {K : Nat} {p0 : api_Entry} {p1 : api_Entry} {r : Bool} (h : workflowref52_Agree K p0 p1 = some r) : PCall V P 20 [.agg [.I p0.Epoch, .ro Tag.t_uint8 p0.Data], .agg [.I p1.Epoch, .ro Tag.t_uint8 p1.Data]] (.B r) := (workflowref52_Agree.okE h).pcall (by kernel_rfl)

def workflowref52_Common.l7 (K : Nat) (p0 : api_Replica) (p1 : api_Replica) : Nat → Int → Option Int
  | 0, _ => none
  | k + 1, xt5_7h => (if xt5_7h < (p0.Log.length : Int) then (if xt5_7h < (p1.Log.length : Int) then (if (0 : Int) ≤ xt5_7h ∧ (xt5_7h : Int) < (p0.Log.length : Int) then (if (xt5_7h : Int) < (p1.Log.length : Int) then (Option.bind (workflowref52_Agree K ((p0.Log.getD (Int.toNat xt5_7h) z_api_Entry)) ((p1.Log.getD (Int.toNat xt5_7h) z_api_Entry))) (fun a1 => (if a1 = true then workflowref52_Common.l7 K p0 p1 k ((IntKind.i64.wrap (xt5_7h + 1))) else some xt5_7h))) else none) else none) else some xt5_7h) else some xt5_7h)

def workflowref52_Common (K : Nat) (p0 : api_Replica) (p1 : api_Replica) : Option Int := (Option.bind (workflowref52_Common.l7 K p0 p1 K 0 : Option Int) (fun xt5_7 => some xt5_7))

theorem workflowref52_Common.body {Γ : Ent} {K : Nat} {p0 : api_Replica} {p1 : api_Replica} {r : Int} (h : workflowref52_Common K p0 p1 = some r) : AWp V P 34 100 Γ (Try.f24.body.getD .skip) (EndsE P V Try.f24 (.I r) []) ⟨args0 0 [.agg [.I p0.Epoch, .I p0.Vote, .I p0.Commit, .ro Tag.t_api_Entry p0.Log], .agg [.I p1.Epoch, .I p1.Vote, .I p1.Commit, .ro Tag.t_api_Entry p1.Log]], []⟩ := by
  unfold workflowref52_Common at h
  refine awp_seq ?_
  refine awp_region L 200 [] [] [] [2, 3] [200, 201] (cs := []) (S' := ⟨[(2, .P 200), (3, .P 201)], [(200, .raw [.I p0.Epoch, .I p0.Vote, .I p0.Commit, .ro Tag.t_api_Entry p0.Log]), (201, .raw [.I p1.Epoch, .I p1.Vote, .I p1.Commit, .ro Tag.t_api_Entry p1.Log])]⟩) (by kernel_rfl) trivial ?_
  refine awp_seq ?_
  refine awp_region L 204 [] [] [] [2, 3, 5] [200, 201] (cs := []) (S' := ⟨[(2, .P 200), (3, .P 201), (5, .I 0)], [(200, .raw [.I p0.Epoch, .I p0.Vote, .I p0.Commit, .ro Tag.t_api_Entry p0.Log]), (201, .raw [.I p1.Epoch, .I p1.Vote, .I p1.Commit, .ro Tag.t_api_Entry p1.Log])]⟩) (by kernel_rfl) trivial ?_
  refine awp_seq ?_
  refine awp_block ?_
  refine awp_turn (Turns.trans (Turns.keep [2, 3, 5] [200, 201] (S' := ⟨[(2, .P 200), (3, .P 201), (5, .I 0)], [(200, .raw [.I p0.Epoch, .I p0.Vote, .I p0.Commit, .ro Tag.t_api_Entry p0.Log]), (201, .raw [.I p1.Epoch, .I p1.Vote, .I p1.Commit, .ro Tag.t_api_Entry p1.Log])]⟩) (by kernel_rfl)) (Turns.ren [(200, 21500), (201, 21501)] (S' := ⟨[(2, .P 21500), (3, .P 21501), (5, .I 0)], [(21500, .raw [.I p0.Epoch, .I p0.Vote, .I p0.Commit, .ro Tag.t_api_Entry p0.Log]), (21501, .raw [.I p1.Epoch, .I p1.Vote, .I p1.Commit, .ro Tag.t_api_Entry p1.Log])]⟩) (by kernel_rfl) (by kernel_rfl))) ?_
  refine awp_keep (ts := [2, 3, 5]) (ids := [21500, 21501]) (S' := ⟨[(2, .P 21500), (3, .P 21501), (5, .I 0)], [(21500, .raw [.I p0.Epoch, .I p0.Vote, .I p0.Commit, .ro Tag.t_api_Entry p0.Log]), (21501, .raw [.I p1.Epoch, .I p1.Vote, .I p1.Commit, .ro Tag.t_api_Entry p1.Log])]⟩) (by kernel_rfl) ?_
  obtain ⟨o1, hp1, h⟩ := bind_some h
  refine awp_conseq (Q' := fun e S => (e = .exit 0 ∧ ∃ xt5_7 : Int, S = ⟨[(5, .I xt5_7)], []⟩ ∧ xt5_7 = o1)) (awp_loop (fun k S => ∃ xt5_7h : Int, S = ⟨[(2, .P 21500), (3, .P 21501), (5, .I xt5_7h)], [(21500, .raw [.I p0.Epoch, .I p0.Vote, .I p0.Commit, .ro Tag.t_api_Entry p0.Log]), (21501, .raw [.I p1.Epoch, .I p1.Vote, .I p1.Commit, .ro Tag.t_api_Entry p1.Log])]⟩ ∧ workflowref52_Common.l7 K p0 p1 k xt5_7h = some o1) ?_ ⟨_, rfl, hp1⟩) ?_
  · clear h hp1
    intro k S hS
    obtain ⟨xt5_7h, rfl, h⟩ := hS
    cases k with
    | zero => cases h
    | succ k =>
    unfold workflowref52_Common.l7 at h
    refine awp_seq ?_
    refine awp_seq ?_
    rcases ite_some h with ⟨c1, h⟩ | ⟨c1, h⟩
    · rcases ite_some h with ⟨c2, h⟩ | ⟨c2, h⟩
      · obtain ⟨g1, h⟩ := guard_some h
        obtain ⟨g2, h⟩ := guard_some h
        obtain ⟨a1, h1, h⟩ := bind_some h
        refine awp_draw L mixed 206 [(5, true), (12, true)] [(23, .B a1)] [] [] 25 [2, 3, 5, 30] [21500, 21501] (cs := [(decide (xt5_7h < (p0.Log.length : Int))) = true, (decide (xt5_7h < (p1.Log.length : Int))) = true, (0 : Int) ≤ xt5_7h, (xt5_7h : Int) < (p0.Log.length : Int), (0 : Int) ≤ xt5_7h, (xt5_7h : Int) < (p1.Log.length : Int), PCall V P 20 [.agg [.I (((p0.Log.getD (Int.toNat xt5_7h) z_api_Entry)).Epoch), .ro Tag.t_uint8 (((p0.Log.getD (Int.toNat xt5_7h) z_api_Entry)).Data)], .agg [.I (((p1.Log.getD (Int.toNat xt5_7h) z_api_Entry)).Epoch), .ro Tag.t_uint8 (((p1.Log.getD (Int.toNat xt5_7h) z_api_Entry)).Data)]] (.B a1), True]) (S' := ⟨[(2, .P 21500), (3, .P 21501), (5, .I xt5_7h), (30, .B a1)], [(21500, .raw [.I p0.Epoch, .I p0.Vote, .I p0.Commit, .ro Tag.t_api_Entry p0.Log]), (21501, .raw [.I p1.Epoch, .I p1.Vote, .I p1.Commit, .ro Tag.t_api_Entry p1.Log])]⟩) (by kernel_rfl) (And.intro (decide_eq_true c1) (And.intro (decide_eq_true c2) (And.intro g1.1 (And.intro g1.2 (And.intro g1.1 (And.intro g2 (And.intro (workflowref52_Agree.ok h1) trivial))))))) ?_
        rcases ite_some h with ⟨c3, h⟩ | ⟨c3, h⟩
        · refine awp_true (b := a1) (by kernel_rfl) (c3) ?_
          refine awp_skip [2, 3, 5] [21500, 21501] (S' := ⟨[(2, .P 21500), (3, .P 21501), (5, .I xt5_7h)], [(21500, .raw [.I p0.Epoch, .I p0.Vote, .I p0.Commit, .ro Tag.t_api_Entry p0.Log]), (21501, .raw [.I p1.Epoch, .I p1.Vote, .I p1.Commit, .ro Tag.t_api_Entry p1.Log])]⟩) (by kernel_rfl) ?_
          refine awp_block ?_
          refine awp_region L 232 [] [] [] [2, 3, 5] [21500, 21501] (cs := []) (S' := ⟨[(2, .P 21500), (3, .P 21501), (5, .I ((IntKind.i64.wrap (xt5_7h + 1))))], [(21500, .raw [.I p0.Epoch, .I p0.Vote, .I p0.Commit, .ro Tag.t_api_Entry p0.Log]), (21501, .raw [.I p1.Epoch, .I p1.Vote, .I p1.Commit, .ro Tag.t_api_Entry p1.Log])]⟩) (by kernel_rfl) trivial ?_
          exact ⟨k, Nat.lt_succ_self k, _, rfl, h⟩
        · refine awp_false (b := a1) (by kernel_rfl) (eq_false_of_ne_true c3) ?_
          refine awp_exit [5] [] (S' := ⟨[(5, .I xt5_7h)], []⟩) (by kernel_rfl) ?_
          have hr := Option.some.inj h
          subst hr
          exact ⟨rfl, _, rfl, rfl⟩
      · refine awp_draw L mixed 206 [(5, true), (12, false)] [] [] [] 25 [2, 3, 5, 30] [21500, 21501] (cs := [(decide (xt5_7h < (p0.Log.length : Int))) = true, (decide (xt5_7h < (p1.Log.length : Int))) = false]) (S' := ⟨[(2, .P 21500), (3, .P 21501), (5, .I xt5_7h), (30, .B false)], [(21500, .raw [.I p0.Epoch, .I p0.Vote, .I p0.Commit, .ro Tag.t_api_Entry p0.Log]), (21501, .raw [.I p1.Epoch, .I p1.Vote, .I p1.Commit, .ro Tag.t_api_Entry p1.Log])]⟩) (by kernel_rfl) (And.intro (decide_eq_true c1) (decide_eq_false c2)) ?_
        refine awp_false (b := false) (by kernel_rfl) (rfl) ?_
        refine awp_exit [5] [] (S' := ⟨[(5, .I xt5_7h)], []⟩) (by kernel_rfl) ?_
        have hr := Option.some.inj h
        subst hr
        exact ⟨rfl, _, rfl, rfl⟩
    · refine awp_draw L mixed 206 [(5, false)] [] [] [] 25 [2, 3, 5, 30] [21500, 21501] (cs := [(decide (xt5_7h < (p0.Log.length : Int))) = false]) (S' := ⟨[(2, .P 21500), (3, .P 21501), (5, .I xt5_7h), (30, .B false)], [(21500, .raw [.I p0.Epoch, .I p0.Vote, .I p0.Commit, .ro Tag.t_api_Entry p0.Log]), (21501, .raw [.I p1.Epoch, .I p1.Vote, .I p1.Commit, .ro Tag.t_api_Entry p1.Log])]⟩) (by kernel_rfl) (decide_eq_false c1) ?_
      refine awp_false (b := false) (by kernel_rfl) (rfl) ?_
      refine awp_exit [5] [] (S' := ⟨[(5, .I xt5_7h)], []⟩) (by kernel_rfl) ?_
      have hr := Option.some.inj h
      subst hr
      exact ⟨rfl, _, rfl, rfl⟩
  · rintro e S ⟨rfl, xt5_7, rfl, rfl⟩
    refine ⟨_, Turns.refl, ?_⟩
    refine awp_seq ?_
    refine awp_region L 236 [] [] [] [4] [] (cs := []) (S' := ⟨[(4, .I xt5_7)], []⟩) (by kernel_rfl) trivial ?_
    refine awp_ret ?_
    have hr := Option.some.inj h
    subst hr
    exact ⟨.inr rfl, .I xt5_7, by kernel_rfl, by kernel_rfl, by kernel_rfl⟩

theorem workflowref52_Common.okE {K : Nat} {p0 : api_Replica} {p1 : api_Replica} {r : Int} (h : workflowref52_Common K p0 p1 = some r) : ECall V P 24 [.agg [.I p0.Epoch, .I p0.Vote, .I p0.Commit, .ro Tag.t_api_Entry p0.Log], .agg [.I p1.Epoch, .I p1.Vote, .I p1.Commit, .ro Tag.t_api_Entry p1.Log]] [] [] (.I r) [] :=
  ecall_of (fn := Try.f24) (n := 34) (m := 100) (by kernel_rfl) (by kernel_rfl) (by kernel_rfl) rfl (by kernel_rfl) (by kernel_rfl) fun Γ => workflowref52_Common.body h

theorem workflowref52_Common.ok {K : Nat} {p0 : api_Replica} {p1 : api_Replica} {r : Int} (h : workflowref52_Common K p0 p1 = some r) : PCall V P 24 [.agg [.I p0.Epoch, .I p0.Vote, .I p0.Commit, .ro Tag.t_api_Entry p0.Log], .agg [.I p1.Epoch, .I p1.Vote, .I p1.Commit, .ro Tag.t_api_Entry p1.Log]] (.I r) := (workflowref52_Common.okE h).pcall (by kernel_rfl)

def workflowref52_Same (K : Nat) (p0 : api_Replica) (p1 : api_Replica) : Option Bool := (if p0.Epoch = p1.Epoch then (if p0.Vote = p1.Vote then (if p0.Commit = p1.Commit then (if (p0.Log.length : Int) = (p1.Log.length : Int) then (Option.bind (workflowref52_Common K p0 p1) (fun a1 => some ((decide (a1 = (p0.Log.length : Int)))))) else some false) else some false) else some false) else some false)

theorem workflowref52_Same.body {Γ : Ent} {K : Nat} {p0 : api_Replica} {p1 : api_Replica} {r : Bool} (h : workflowref52_Same K p0 p1 = some r) : AWp V P 42 100 Γ (Try.f19.body.getD .skip) (EndsE P V Try.f19 (.B r) []) ⟨args0 0 [.agg [.I p0.Epoch, .I p0.Vote, .I p0.Commit, .ro Tag.t_api_Entry p0.Log], .agg [.I p1.Epoch, .I p1.Vote, .I p1.Commit, .ro Tag.t_api_Entry p1.Log]], []⟩ := by
  unfold workflowref52_Same at h
  refine awp_seq ?_
  refine awp_region L 200 [] [] [] [2, 3] [200, 201] (cs := []) (S' := ⟨[(2, .P 200), (3, .P 201)], [(200, .raw [.I p0.Epoch, .I p0.Vote, .I p0.Commit, .ro Tag.t_api_Entry p0.Log]), (201, .raw [.I p1.Epoch, .I p1.Vote, .I p1.Commit, .ro Tag.t_api_Entry p1.Log])]⟩) (by kernel_rfl) trivial ?_
  refine awp_seq ?_
  rcases ite_some h with ⟨c1, h⟩ | ⟨c1, h⟩
  · rcases ite_some h with ⟨c2, h⟩ | ⟨c2, h⟩
    · rcases ite_some h with ⟨c3, h⟩ | ⟨c3, h⟩
      · rcases ite_some h with ⟨c4, h⟩ | ⟨c4, h⟩
        · obtain ⟨a1, h1, h⟩ := bind_some h
          refine awp_draw L mixed 204 [(5, true), (12, true), (19, true), (28, true)] [(31, .I a1)] [] [] 38 [4] [] (cs := [(decide (p0.Epoch = p1.Epoch)) = true, (decide (p0.Vote = p1.Vote)) = true, (decide (p0.Commit = p1.Commit)) = true, (decide ((p0.Log.length : Int) = (p1.Log.length : Int))) = true, PCall V P 24 [.agg [.I p0.Epoch, .I p0.Vote, .I p0.Commit, .ro Tag.t_api_Entry p0.Log], .agg [.I p1.Epoch, .I p1.Vote, .I p1.Commit, .ro Tag.t_api_Entry p1.Log]] (.I a1), True]) (S' := ⟨[(4, .B ((decide (a1 = (p0.Log.length : Int)))))], []⟩) (by kernel_rfl) (And.intro (decide_eq_true c1) (And.intro (decide_eq_true c2) (And.intro (decide_eq_true c3) (And.intro (decide_eq_true c4) (And.intro (workflowref52_Common.ok h1) trivial))))) ?_
          refine awp_ret ?_
          have hr := Option.some.inj h
          subst hr
          exact ⟨.inr rfl, .B ((decide (a1 = (p0.Log.length : Int)))), by kernel_rfl, by kernel_rfl, by kernel_rfl⟩
        · refine awp_draw L mixed 204 [(5, true), (12, true), (19, true), (28, false)] [] [] [] 38 [4] [] (cs := [(decide (p0.Epoch = p1.Epoch)) = true, (decide (p0.Vote = p1.Vote)) = true, (decide (p0.Commit = p1.Commit)) = true, (decide ((p0.Log.length : Int) = (p1.Log.length : Int))) = false]) (S' := ⟨[(4, .B false)], []⟩) (by kernel_rfl) (And.intro (decide_eq_true c1) (And.intro (decide_eq_true c2) (And.intro (decide_eq_true c3) (decide_eq_false c4)))) ?_
          refine awp_ret ?_
          have hr := Option.some.inj h
          subst hr
          exact ⟨.inr rfl, .B false, by kernel_rfl, by kernel_rfl, by kernel_rfl⟩
      · refine awp_draw L mixed 204 [(5, true), (12, true), (19, false)] [] [] [] 38 [4] [] (cs := [(decide (p0.Epoch = p1.Epoch)) = true, (decide (p0.Vote = p1.Vote)) = true, (decide (p0.Commit = p1.Commit)) = false]) (S' := ⟨[(4, .B false)], []⟩) (by kernel_rfl) (And.intro (decide_eq_true c1) (And.intro (decide_eq_true c2) (decide_eq_false c3))) ?_
        refine awp_ret ?_
        have hr := Option.some.inj h
        subst hr
        exact ⟨.inr rfl, .B false, by kernel_rfl, by kernel_rfl, by kernel_rfl⟩
    · refine awp_draw L mixed 204 [(5, true), (12, false)] [] [] [] 38 [4] [] (cs := [(decide (p0.Epoch = p1.Epoch)) = true, (decide (p0.Vote = p1.Vote)) = false]) (S' := ⟨[(4, .B false)], []⟩) (by kernel_rfl) (And.intro (decide_eq_true c1) (decide_eq_false c2)) ?_
      refine awp_ret ?_
      have hr := Option.some.inj h
      subst hr
      exact ⟨.inr rfl, .B false, by kernel_rfl, by kernel_rfl, by kernel_rfl⟩
  · refine awp_draw L mixed 204 [(5, false)] [] [] [] 38 [4] [] (cs := [(decide (p0.Epoch = p1.Epoch)) = false]) (S' := ⟨[(4, .B false)], []⟩) (by kernel_rfl) (decide_eq_false c1) ?_
    refine awp_ret ?_
    have hr := Option.some.inj h
    subst hr
    exact ⟨.inr rfl, .B false, by kernel_rfl, by kernel_rfl, by kernel_rfl⟩

theorem workflowref52_Same.okE {K : Nat} {p0 : api_Replica} {p1 : api_Replica} {r : Bool} (h : workflowref52_Same K p0 p1 = some r) : ECall V P 19 [.agg [.I p0.Epoch, .I p0.Vote, .I p0.Commit, .ro Tag.t_api_Entry p0.Log], .agg [.I p1.Epoch, .I p1.Vote, .I p1.Commit, .ro Tag.t_api_Entry p1.Log]] [] [] (.B r) [] :=
  ecall_of (fn := Try.f19) (n := 42) (m := 100) (by kernel_rfl) (by kernel_rfl) (by kernel_rfl) rfl (by kernel_rfl) (by kernel_rfl) fun Γ => workflowref52_Same.body h

theorem workflowref52_Same.ok {K : Nat} {p0 : api_Replica} {p1 : api_Replica} {r : Bool} (h : workflowref52_Same K p0 p1 = some r) : PCall V P 19 [.agg [.I p0.Epoch, .I p0.Vote, .I p0.Commit, .ro Tag.t_api_Entry p0.Log], .agg [.I p1.Epoch, .I p1.Vote, .I p1.Commit, .ro Tag.t_api_Entry p1.Log]] (.B r) := (workflowref52_Same.okE h).pcall (by kernel_rfl)

def workflowref55_Same.l15 (K : Nat) (p0 : workflowref55_Group) (p1 : workflowref55_Group) : Nat → Int → Option (Out Bool Unit)
  | 0, _ => none
  | k + 1, xt5_15h => (if xt5_15h < (p0.Replicas.length : Int) then (if (0 : Int) ≤ xt5_15h ∧ (xt5_15h : Int) < (p0.Replicas.length : Int) then (if (xt5_15h : Int) < (p1.Replicas.length : Int) then (Option.bind (workflowref52_Same K ((p0.Replicas.getD (Int.toNat xt5_15h) z_api_Replica)) ((p1.Replicas.getD (Int.toNat xt5_15h) z_api_Replica))) (fun a1 => (if a1 = true then workflowref55_Same.l15 K p0 p1 k ((IntKind.i64.wrap (xt5_15h + 1))) else some (Out.done false)))) else none) else none) else some (Out.go ()))

def workflowref55_Same.l36 (K : Nat) (p0 : workflowref55_Group) (p1 : workflowref55_Group) : Nat → Int → Option (Out Bool Unit)
  | 0, _ => none
  | k + 1, xt6_36h => (if xt6_36h < (p0.Up.length : Int) then (if (0 : Int) ≤ xt6_36h ∧ (xt6_36h : Int) < (p0.Up.length : Int) then (if (xt6_36h : Int) < (p1.Up.length : Int) then (if (((p0.Up.getD (Int.toNat xt6_36h) false) == (p1.Up.getD (Int.toNat xt6_36h) false))) = true then workflowref55_Same.l36 K p0 p1 k ((IntKind.i64.wrap (xt6_36h + 1))) else some (Out.done false)) else none) else none) else some (Out.go ()))

def workflowref55_Same (K : Nat) (p0 : workflowref55_Group) (p1 : workflowref55_Group) : Option Bool := (if (p0.Replicas.length : Int) ≠ (p1.Replicas.length : Int) then some false else (if (p0.Up.length : Int) ≠ (p1.Up.length : Int) then some false else (if p0.Leader ≠ p1.Leader then some false else (if p0.Epoch ≠ p1.Epoch then some false else (obind (workflowref55_Same.l15 K p0 p1 K 0 : Option (Out Bool Unit)) (fun r => r) (fun _ => (obind (workflowref55_Same.l36 K p0 p1 K 0 : Option (Out Bool Unit)) (fun r => r) (fun _ => some true))))))))

theorem workflowref55_Same.body {Γ : Ent} {K : Nat} {p0 : workflowref55_Group} {p1 : workflowref55_Group} {r : Bool} (h : workflowref55_Same K p0 p1 = some r) : AWp V P 74 100 Γ (Try.f8.body.getD .skip) (EndsE P V Try.f8 (.B r) []) ⟨args0 0 [.agg [.ro Tag.t_api_Replica p0.Replicas, .ro Tag.t_bool p0.Up, .I p0.Leader, .I p0.Epoch], .agg [.ro Tag.t_api_Replica p1.Replicas, .ro Tag.t_bool p1.Up, .I p1.Leader, .I p1.Epoch]], []⟩ := by
  unfold workflowref55_Same at h
  refine awp_seq ?_
  refine awp_region L 200 [] [] [] [2, 3] [200, 201] (cs := []) (S' := ⟨[(2, .P 200), (3, .P 201)], [(200, .raw [.ro Tag.t_api_Replica p0.Replicas, .ro Tag.t_bool p0.Up, .I p0.Leader, .I p0.Epoch]), (201, .raw [.ro Tag.t_api_Replica p1.Replicas, .ro Tag.t_bool p1.Up, .I p1.Leader, .I p1.Epoch])]⟩) (by kernel_rfl) trivial ?_
  refine awp_seq ?_
  refine awp_seq ?_
  rcases ite_some h with ⟨c1, h⟩ | ⟨c1, h⟩
  · refine awp_region L 204 [(7, true)] [] [] [2, 3, 36] [200, 201] (cs := [(decide ((p0.Replicas.length : Int) ≠ (p1.Replicas.length : Int))) = true]) (S' := ⟨[(2, .P 200), (3, .P 201), (36, .B true)], [(200, .raw [.ro Tag.t_api_Replica p0.Replicas, .ro Tag.t_bool p0.Up, .I p0.Leader, .I p0.Epoch]), (201, .raw [.ro Tag.t_api_Replica p1.Replicas, .ro Tag.t_bool p1.Up, .I p1.Leader, .I p1.Epoch])]⟩) (by kernel_rfl) (decide_eq_true c1) ?_
    refine awp_true (b := true) (by kernel_rfl) (rfl) ?_
    refine awp_seq ?_
    refine awp_region L 235 [] [] [] [4] [] (cs := []) (S' := ⟨[(4, .B false)], []⟩) (by kernel_rfl) trivial ?_
    refine awp_ret ?_
    have hr := Option.some.inj h
    subst hr
    exact ⟨.inr rfl, .B false, by kernel_rfl, by kernel_rfl, by kernel_rfl⟩
  · rcases ite_some h with ⟨c2, h⟩ | ⟨c2, h⟩
    · refine awp_region L 204 [(7, false), (16, true)] [] [] [2, 3, 36] [200, 201] (cs := [(decide ((p0.Replicas.length : Int) ≠ (p1.Replicas.length : Int))) = false, (decide ((p0.Up.length : Int) ≠ (p1.Up.length : Int))) = true]) (S' := ⟨[(2, .P 200), (3, .P 201), (36, .B true)], [(200, .raw [.ro Tag.t_api_Replica p0.Replicas, .ro Tag.t_bool p0.Up, .I p0.Leader, .I p0.Epoch]), (201, .raw [.ro Tag.t_api_Replica p1.Replicas, .ro Tag.t_bool p1.Up, .I p1.Leader, .I p1.Epoch])]⟩) (by kernel_rfl) (And.intro (decide_eq_false c1) (decide_eq_true c2)) ?_
      refine awp_true (b := true) (by kernel_rfl) (rfl) ?_
      refine awp_seq ?_
      refine awp_region L 235 [] [] [] [4] [] (cs := []) (S' := ⟨[(4, .B false)], []⟩) (by kernel_rfl) trivial ?_
      refine awp_ret ?_
      have hr := Option.some.inj h
      subst hr
      exact ⟨.inr rfl, .B false, by kernel_rfl, by kernel_rfl, by kernel_rfl⟩
    · rcases ite_some h with ⟨c3, h⟩ | ⟨c3, h⟩
      · refine awp_region L 204 [(7, false), (16, false), (23, true)] [] [] [2, 3, 36] [200, 201] (cs := [(decide ((p0.Replicas.length : Int) ≠ (p1.Replicas.length : Int))) = false, (decide ((p0.Up.length : Int) ≠ (p1.Up.length : Int))) = false, (decide (p0.Leader ≠ p1.Leader)) = true]) (S' := ⟨[(2, .P 200), (3, .P 201), (36, .B true)], [(200, .raw [.ro Tag.t_api_Replica p0.Replicas, .ro Tag.t_bool p0.Up, .I p0.Leader, .I p0.Epoch]), (201, .raw [.ro Tag.t_api_Replica p1.Replicas, .ro Tag.t_bool p1.Up, .I p1.Leader, .I p1.Epoch])]⟩) (by kernel_rfl) (And.intro (decide_eq_false c1) (And.intro (decide_eq_false c2) (decide_eq_true c3))) ?_
        refine awp_true (b := true) (by kernel_rfl) (rfl) ?_
        refine awp_seq ?_
        refine awp_region L 235 [] [] [] [4] [] (cs := []) (S' := ⟨[(4, .B false)], []⟩) (by kernel_rfl) trivial ?_
        refine awp_ret ?_
        have hr := Option.some.inj h
        subst hr
        exact ⟨.inr rfl, .B false, by kernel_rfl, by kernel_rfl, by kernel_rfl⟩
      · refine awp_region L 204 [(7, false), (16, false), (23, false)] [] [] [2, 3, 36] [200, 201] (cs := [(decide ((p0.Replicas.length : Int) ≠ (p1.Replicas.length : Int))) = false, (decide ((p0.Up.length : Int) ≠ (p1.Up.length : Int))) = false, (decide (p0.Leader ≠ p1.Leader)) = false]) (S' := ⟨[(2, .P 200), (3, .P 201), (36, .B ((decide (p0.Epoch ≠ p1.Epoch))))], [(200, .raw [.ro Tag.t_api_Replica p0.Replicas, .ro Tag.t_bool p0.Up, .I p0.Leader, .I p0.Epoch]), (201, .raw [.ro Tag.t_api_Replica p1.Replicas, .ro Tag.t_bool p1.Up, .I p1.Leader, .I p1.Epoch])]⟩) (by kernel_rfl) (And.intro (decide_eq_false c1) (And.intro (decide_eq_false c2) (decide_eq_false c3))) ?_
        rcases ite_some h with ⟨c4, h⟩ | ⟨c4, h⟩
        · refine awp_true (b := (decide (p0.Epoch ≠ p1.Epoch))) (by kernel_rfl) (decide_eq_true c4) ?_
          refine awp_seq ?_
          refine awp_region L 235 [] [] [] [4] [] (cs := []) (S' := ⟨[(4, .B false)], []⟩) (by kernel_rfl) trivial ?_
          refine awp_ret ?_
          have hr := Option.some.inj h
          subst hr
          exact ⟨.inr rfl, .B false, by kernel_rfl, by kernel_rfl, by kernel_rfl⟩
        · refine awp_false (b := (decide (p0.Epoch ≠ p1.Epoch))) (by kernel_rfl) (decide_eq_false c4) ?_
          refine awp_skip [2, 3] [200, 201] (S' := ⟨[(2, .P 200), (3, .P 201)], [(200, .raw [.ro Tag.t_api_Replica p0.Replicas, .ro Tag.t_bool p0.Up, .I p0.Leader, .I p0.Epoch]), (201, .raw [.ro Tag.t_api_Replica p1.Replicas, .ro Tag.t_bool p1.Up, .I p1.Leader, .I p1.Epoch])]⟩) (by kernel_rfl) ?_
          refine awp_seq ?_
          refine awp_seq ?_
          refine awp_region L 237 [] [] [] [2, 3, 5] [200, 201] (cs := []) (S' := ⟨[(2, .P 200), (3, .P 201), (5, .I 0)], [(200, .raw [.ro Tag.t_api_Replica p0.Replicas, .ro Tag.t_bool p0.Up, .I p0.Leader, .I p0.Epoch]), (201, .raw [.ro Tag.t_api_Replica p1.Replicas, .ro Tag.t_bool p1.Up, .I p1.Leader, .I p1.Epoch])]⟩) (by kernel_rfl) trivial ?_
          refine awp_block ?_
          refine awp_turn (Turns.trans (Turns.keep [2, 3, 5] [200, 201] (S' := ⟨[(2, .P 200), (3, .P 201), (5, .I 0)], [(200, .raw [.ro Tag.t_api_Replica p0.Replicas, .ro Tag.t_bool p0.Up, .I p0.Leader, .I p0.Epoch]), (201, .raw [.ro Tag.t_api_Replica p1.Replicas, .ro Tag.t_bool p1.Up, .I p1.Leader, .I p1.Epoch])]⟩) (by kernel_rfl)) (Turns.ren [(200, 23100), (201, 23101)] (S' := ⟨[(2, .P 23100), (3, .P 23101), (5, .I 0)], [(23100, .raw [.ro Tag.t_api_Replica p0.Replicas, .ro Tag.t_bool p0.Up, .I p0.Leader, .I p0.Epoch]), (23101, .raw [.ro Tag.t_api_Replica p1.Replicas, .ro Tag.t_bool p1.Up, .I p1.Leader, .I p1.Epoch])]⟩) (by kernel_rfl) (by kernel_rfl))) ?_
          refine awp_keep (ts := [2, 3, 5]) (ids := [23100, 23101]) (S' := ⟨[(2, .P 23100), (3, .P 23101), (5, .I 0)], [(23100, .raw [.ro Tag.t_api_Replica p0.Replicas, .ro Tag.t_bool p0.Up, .I p0.Leader, .I p0.Epoch]), (23101, .raw [.ro Tag.t_api_Replica p1.Replicas, .ro Tag.t_bool p1.Up, .I p1.Leader, .I p1.Epoch])]⟩) (by kernel_rfl) ?_
          obtain ⟨o1, hp1, h⟩ := obind_some h
          refine awp_conseq (Q' := fun e S => (e = .exit 0 ∧ S = ⟨[(2, .P 23000), (3, .P 23001)], [(23000, .raw [.ro Tag.t_api_Replica p0.Replicas, .ro Tag.t_bool p0.Up, .I p0.Leader, .I p0.Epoch]), (23001, .raw [.ro Tag.t_api_Replica p1.Replicas, .ro Tag.t_bool p1.Up, .I p1.Leader, .I p1.Epoch])]⟩ ∧ Out.go () = o1) ∨ (e = .ret ∧ ∃ a, Out.done a = o1 ∧ EndsE P V Try.f8 (.B a) [] .ret S)) (awp_loop (fun k S => ∃ xt5_15h : Int, S = ⟨[(2, .P 23100), (3, .P 23101), (5, .I xt5_15h)], [(23100, .raw [.ro Tag.t_api_Replica p0.Replicas, .ro Tag.t_bool p0.Up, .I p0.Leader, .I p0.Epoch]), (23101, .raw [.ro Tag.t_api_Replica p1.Replicas, .ro Tag.t_bool p1.Up, .I p1.Leader, .I p1.Epoch])]⟩ ∧ workflowref55_Same.l15 K p0 p1 k xt5_15h = some o1) ?_ ⟨_, rfl, hp1⟩) ?_
          · clear h hp1
            intro k S hS
            obtain ⟨xt5_15h, rfl, h⟩ := hS
            cases k with
            | zero => cases h
            | succ k =>
            unfold workflowref55_Same.l15 at h
            refine awp_seq ?_
            refine awp_seq ?_
            refine awp_region L 239 [] [] [] [2, 3, 5, 41] [23100, 23101] (cs := []) (S' := ⟨[(2, .P 23100), (3, .P 23101), (5, .I xt5_15h), (41, .B ((decide (xt5_15h < (p0.Replicas.length : Int)))))], [(23100, .raw [.ro Tag.t_api_Replica p0.Replicas, .ro Tag.t_bool p0.Up, .I p0.Leader, .I p0.Epoch]), (23101, .raw [.ro Tag.t_api_Replica p1.Replicas, .ro Tag.t_bool p1.Up, .I p1.Leader, .I p1.Epoch])]⟩) (by kernel_rfl) trivial ?_
            rcases ite_some h with ⟨c5, h⟩ | ⟨c5, h⟩
            · refine awp_true (b := (decide (xt5_15h < (p0.Replicas.length : Int)))) (by kernel_rfl) (decide_eq_true c5) ?_
              refine awp_skip [2, 3, 5] [23100, 23101] (S' := ⟨[(2, .P 23100), (3, .P 23101), (5, .I xt5_15h)], [(23100, .raw [.ro Tag.t_api_Replica p0.Replicas, .ro Tag.t_bool p0.Up, .I p0.Leader, .I p0.Epoch]), (23101, .raw [.ro Tag.t_api_Replica p1.Replicas, .ro Tag.t_bool p1.Up, .I p1.Leader, .I p1.Epoch])]⟩) (by kernel_rfl) ?_
              refine awp_seq ?_
              refine awp_block ?_
              refine awp_seq ?_
              obtain ⟨g1, h⟩ := guard_some h
              obtain ⟨g2, h⟩ := guard_some h
              obtain ⟨a1, h1, h⟩ := bind_some h
              refine awp_draw L mixed 245 [] [(10, .B a1)] [] [] 12 [2, 3, 5, 55] [23100, 23101] (cs := [(0 : Int) ≤ xt5_15h, (xt5_15h : Int) < (p0.Replicas.length : Int), (0 : Int) ≤ xt5_15h, (xt5_15h : Int) < (p1.Replicas.length : Int), PCall V P 19 [.agg [.I (((p0.Replicas.getD (Int.toNat xt5_15h) z_api_Replica)).Epoch), .I (((p0.Replicas.getD (Int.toNat xt5_15h) z_api_Replica)).Vote), .I (((p0.Replicas.getD (Int.toNat xt5_15h) z_api_Replica)).Commit), .ro Tag.t_api_Entry (((p0.Replicas.getD (Int.toNat xt5_15h) z_api_Replica)).Log)], .agg [.I (((p1.Replicas.getD (Int.toNat xt5_15h) z_api_Replica)).Epoch), .I (((p1.Replicas.getD (Int.toNat xt5_15h) z_api_Replica)).Vote), .I (((p1.Replicas.getD (Int.toNat xt5_15h) z_api_Replica)).Commit), .ro Tag.t_api_Entry (((p1.Replicas.getD (Int.toNat xt5_15h) z_api_Replica)).Log)]] (.B a1), True]) (S' := ⟨[(2, .P 23100), (3, .P 23101), (5, .I xt5_15h), (55, .B (!a1))], [(23100, .raw [.ro Tag.t_api_Replica p0.Replicas, .ro Tag.t_bool p0.Up, .I p0.Leader, .I p0.Epoch]), (23101, .raw [.ro Tag.t_api_Replica p1.Replicas, .ro Tag.t_bool p1.Up, .I p1.Leader, .I p1.Epoch])]⟩) (by kernel_rfl) (And.intro g1.1 (And.intro g1.2 (And.intro g1.1 (And.intro g2 (And.intro (workflowref52_Same.ok h1) trivial))))) ?_
              rcases ite_some h with ⟨c6, h⟩ | ⟨c6, h⟩
              · refine awp_false (b := (!a1)) (by kernel_rfl) (congrArg Bool.not (c6)) ?_
                refine awp_skip [2, 3, 5] [23100, 23101] (S' := ⟨[(2, .P 23100), (3, .P 23101), (5, .I xt5_15h)], [(23100, .raw [.ro Tag.t_api_Replica p0.Replicas, .ro Tag.t_bool p0.Up, .I p0.Leader, .I p0.Epoch]), (23101, .raw [.ro Tag.t_api_Replica p1.Replicas, .ro Tag.t_bool p1.Up, .I p1.Leader, .I p1.Epoch])]⟩) (by kernel_rfl) ?_
                refine awp_region L 260 [] [] [] [2, 3, 5] [23100, 23101] (cs := []) (S' := ⟨[(2, .P 23100), (3, .P 23101), (5, .I ((IntKind.i64.wrap (xt5_15h + 1))))], [(23100, .raw [.ro Tag.t_api_Replica p0.Replicas, .ro Tag.t_bool p0.Up, .I p0.Leader, .I p0.Epoch]), (23101, .raw [.ro Tag.t_api_Replica p1.Replicas, .ro Tag.t_bool p1.Up, .I p1.Leader, .I p1.Epoch])]⟩) (by kernel_rfl) trivial ?_
                exact ⟨k, Nat.lt_succ_self k, _, rfl, h⟩
              · refine awp_true (b := (!a1)) (by kernel_rfl) (congrArg Bool.not (eq_false_of_ne_true c6)) ?_
                refine awp_seq ?_
                refine awp_region L 258 [] [] [] [4] [] (cs := []) (S' := ⟨[(4, .B false)], []⟩) (by kernel_rfl) trivial ?_
                refine awp_ret ?_
                have hr := Option.some.inj h
                subst hr
                exact .inr ⟨rfl, _, rfl, ⟨.inr rfl, .B false, by kernel_rfl, by kernel_rfl, by kernel_rfl⟩⟩
            · refine awp_false (b := (decide (xt5_15h < (p0.Replicas.length : Int)))) (by kernel_rfl) (decide_eq_false c5) ?_
              refine awp_turn (Turns.trans (Turns.keep [2, 3] [23100, 23101] (S' := ⟨[(2, .P 23100), (3, .P 23101)], [(23100, .raw [.ro Tag.t_api_Replica p0.Replicas, .ro Tag.t_bool p0.Up, .I p0.Leader, .I p0.Epoch]), (23101, .raw [.ro Tag.t_api_Replica p1.Replicas, .ro Tag.t_bool p1.Up, .I p1.Leader, .I p1.Epoch])]⟩) (by kernel_rfl)) (Turns.ren [(23100, 23000), (23101, 23001)] (S' := ⟨[(2, .P 23000), (3, .P 23001)], [(23000, .raw [.ro Tag.t_api_Replica p0.Replicas, .ro Tag.t_bool p0.Up, .I p0.Leader, .I p0.Epoch]), (23001, .raw [.ro Tag.t_api_Replica p1.Replicas, .ro Tag.t_bool p1.Up, .I p1.Leader, .I p1.Epoch])]⟩) (by kernel_rfl) (by kernel_rfl))) ?_
              refine awp_exit [2, 3] [23000, 23001] (S' := ⟨[(2, .P 23000), (3, .P 23001)], [(23000, .raw [.ro Tag.t_api_Replica p0.Replicas, .ro Tag.t_bool p0.Up, .I p0.Leader, .I p0.Epoch]), (23001, .raw [.ro Tag.t_api_Replica p1.Replicas, .ro Tag.t_bool p1.Up, .I p1.Leader, .I p1.Epoch])]⟩) (by kernel_rfl) ?_
              have hr := Option.some.inj h
              subst hr
              exact .inl ⟨rfl, rfl, rfl⟩
          · rintro e S (⟨rfl, rfl, rfl⟩ | ⟨rfl, a, rfl, hr⟩)
            · rcases h with ⟨_, e1, h⟩ | ⟨_, e1, h⟩
              · cases e1
              · have e2 := Out.go.inj e1
                subst e2
                refine ⟨_, Turns.refl, ?_⟩
                refine awp_seq ?_
                refine awp_seq ?_
                refine awp_region L 264 [] [] [] [2, 3, 6] [23000, 23001] (cs := []) (S' := ⟨[(2, .P 23000), (3, .P 23001), (6, .I 0)], [(23000, .raw [.ro Tag.t_api_Replica p0.Replicas, .ro Tag.t_bool p0.Up, .I p0.Leader, .I p0.Epoch]), (23001, .raw [.ro Tag.t_api_Replica p1.Replicas, .ro Tag.t_bool p1.Up, .I p1.Leader, .I p1.Epoch])]⟩) (by kernel_rfl) trivial ?_
                refine awp_block ?_
                refine awp_turn (Turns.trans (Turns.keep [2, 3, 6] [23000, 23001] (S' := ⟨[(2, .P 23000), (3, .P 23001), (6, .I 0)], [(23000, .raw [.ro Tag.t_api_Replica p0.Replicas, .ro Tag.t_bool p0.Up, .I p0.Leader, .I p0.Epoch]), (23001, .raw [.ro Tag.t_api_Replica p1.Replicas, .ro Tag.t_bool p1.Up, .I p1.Leader, .I p1.Epoch])]⟩) (by kernel_rfl)) (Turns.ren [(23000, 27300), (23001, 27301)] (S' := ⟨[(2, .P 27300), (3, .P 27301), (6, .I 0)], [(27300, .raw [.ro Tag.t_api_Replica p0.Replicas, .ro Tag.t_bool p0.Up, .I p0.Leader, .I p0.Epoch]), (27301, .raw [.ro Tag.t_api_Replica p1.Replicas, .ro Tag.t_bool p1.Up, .I p1.Leader, .I p1.Epoch])]⟩) (by kernel_rfl) (by kernel_rfl))) ?_
                refine awp_keep (ts := [2, 3, 6]) (ids := [27300, 27301]) (S' := ⟨[(2, .P 27300), (3, .P 27301), (6, .I 0)], [(27300, .raw [.ro Tag.t_api_Replica p0.Replicas, .ro Tag.t_bool p0.Up, .I p0.Leader, .I p0.Epoch]), (27301, .raw [.ro Tag.t_api_Replica p1.Replicas, .ro Tag.t_bool p1.Up, .I p1.Leader, .I p1.Epoch])]⟩) (by kernel_rfl) ?_
                obtain ⟨o2, hp2, h⟩ := obind_some h
                refine awp_conseq (Q' := fun e S => (e = .exit 2 ∧ S = ⟨[], []⟩ ∧ Out.go () = o2) ∨ (e = .ret ∧ ∃ a, Out.done a = o2 ∧ EndsE P V Try.f8 (.B a) [] .ret S)) (awp_loop (fun k S => ∃ xt6_36h : Int, S = ⟨[(2, .P 27300), (3, .P 27301), (6, .I xt6_36h)], [(27300, .raw [.ro Tag.t_api_Replica p0.Replicas, .ro Tag.t_bool p0.Up, .I p0.Leader, .I p0.Epoch]), (27301, .raw [.ro Tag.t_api_Replica p1.Replicas, .ro Tag.t_bool p1.Up, .I p1.Leader, .I p1.Epoch])]⟩ ∧ workflowref55_Same.l36 K p0 p1 k xt6_36h = some o2) ?_ ⟨_, rfl, hp2⟩) ?_
                · clear h hp2
                  intro k S hS
                  obtain ⟨xt6_36h, rfl, h⟩ := hS
                  cases k with
                  | zero => cases h
                  | succ k =>
                  unfold workflowref55_Same.l36 at h
                  refine awp_seq ?_
                  refine awp_seq ?_
                  refine awp_region L 266 [] [] [] [2, 3, 6, 60] [27300, 27301] (cs := []) (S' := ⟨[(2, .P 27300), (3, .P 27301), (6, .I xt6_36h), (60, .B ((decide (xt6_36h < (p0.Up.length : Int)))))], [(27300, .raw [.ro Tag.t_api_Replica p0.Replicas, .ro Tag.t_bool p0.Up, .I p0.Leader, .I p0.Epoch]), (27301, .raw [.ro Tag.t_api_Replica p1.Replicas, .ro Tag.t_bool p1.Up, .I p1.Leader, .I p1.Epoch])]⟩) (by kernel_rfl) trivial ?_
                  rcases ite_some h with ⟨c7, h⟩ | ⟨c7, h⟩
                  · refine awp_true (b := (decide (xt6_36h < (p0.Up.length : Int)))) (by kernel_rfl) (decide_eq_true c7) ?_
                    refine awp_skip [2, 3, 6] [27300, 27301] (S' := ⟨[(2, .P 27300), (3, .P 27301), (6, .I xt6_36h)], [(27300, .raw [.ro Tag.t_api_Replica p0.Replicas, .ro Tag.t_bool p0.Up, .I p0.Leader, .I p0.Epoch]), (27301, .raw [.ro Tag.t_api_Replica p1.Replicas, .ro Tag.t_bool p1.Up, .I p1.Leader, .I p1.Epoch])]⟩) (by kernel_rfl) ?_
                    refine awp_seq ?_
                    refine awp_block ?_
                    refine awp_seq ?_
                    obtain ⟨g3, h⟩ := guard_some h
                    obtain ⟨g4, h⟩ := guard_some h
                    refine awp_draw L mixed 272 [] [] [] [] 11 [2, 3, 6, 73] [27300, 27301] (cs := [(0 : Int) ≤ xt6_36h, (xt6_36h : Int) < (p0.Up.length : Int), (0 : Int) ≤ xt6_36h, (xt6_36h : Int) < (p1.Up.length : Int)]) (S' := ⟨[(2, .P 27300), (3, .P 27301), (6, .I xt6_36h), (73, .B ((!(((p0.Up.getD (Int.toNat xt6_36h) false) == (p1.Up.getD (Int.toNat xt6_36h) false))))))], [(27300, .raw [.ro Tag.t_api_Replica p0.Replicas, .ro Tag.t_bool p0.Up, .I p0.Leader, .I p0.Epoch]), (27301, .raw [.ro Tag.t_api_Replica p1.Replicas, .ro Tag.t_bool p1.Up, .I p1.Leader, .I p1.Epoch])]⟩) (by kernel_rfl) (And.intro g3.1 (And.intro g3.2 (And.intro g3.1 g4))) ?_
                    rcases ite_some h with ⟨c8, h⟩ | ⟨c8, h⟩
                    · refine awp_false (b := (!(((p0.Up.getD (Int.toNat xt6_36h) false) == (p1.Up.getD (Int.toNat xt6_36h) false))))) (by kernel_rfl) (congrArg Bool.not (c8)) ?_
                      refine awp_skip [2, 3, 6] [27300, 27301] (S' := ⟨[(2, .P 27300), (3, .P 27301), (6, .I xt6_36h)], [(27300, .raw [.ro Tag.t_api_Replica p0.Replicas, .ro Tag.t_bool p0.Up, .I p0.Leader, .I p0.Epoch]), (27301, .raw [.ro Tag.t_api_Replica p1.Replicas, .ro Tag.t_bool p1.Up, .I p1.Leader, .I p1.Epoch])]⟩) (by kernel_rfl) ?_
                      refine awp_region L 286 [] [] [] [2, 3, 6] [27300, 27301] (cs := []) (S' := ⟨[(2, .P 27300), (3, .P 27301), (6, .I ((IntKind.i64.wrap (xt6_36h + 1))))], [(27300, .raw [.ro Tag.t_api_Replica p0.Replicas, .ro Tag.t_bool p0.Up, .I p0.Leader, .I p0.Epoch]), (27301, .raw [.ro Tag.t_api_Replica p1.Replicas, .ro Tag.t_bool p1.Up, .I p1.Leader, .I p1.Epoch])]⟩) (by kernel_rfl) trivial ?_
                      exact ⟨k, Nat.lt_succ_self k, _, rfl, h⟩
                    · refine awp_true (b := (!(((p0.Up.getD (Int.toNat xt6_36h) false) == (p1.Up.getD (Int.toNat xt6_36h) false))))) (by kernel_rfl) (congrArg Bool.not (eq_false_of_ne_true c8)) ?_
                      refine awp_seq ?_
                      refine awp_region L 284 [] [] [] [4] [] (cs := []) (S' := ⟨[(4, .B false)], []⟩) (by kernel_rfl) trivial ?_
                      refine awp_ret ?_
                      have hr := Option.some.inj h
                      subst hr
                      exact .inr ⟨rfl, _, rfl, ⟨.inr rfl, .B false, by kernel_rfl, by kernel_rfl, by kernel_rfl⟩⟩
                  · refine awp_false (b := (decide (xt6_36h < (p0.Up.length : Int)))) (by kernel_rfl) (decide_eq_false c7) ?_
                    refine awp_exit [] [] (S' := ⟨[], []⟩) (by kernel_rfl) ?_
                    have hr := Option.some.inj h
                    subst hr
                    exact .inl ⟨rfl, rfl, rfl⟩
                · rintro e S (⟨rfl, rfl, rfl⟩ | ⟨rfl, a, rfl, hr⟩)
                  · rcases h with ⟨_, e1, h⟩ | ⟨_, e1, h⟩
                    · cases e1
                    · have e2 := Out.go.inj e1
                      subst e2
                      refine ⟨_, Turns.refl, ?_⟩
                      refine awp_seq ?_
                      refine awp_region L 290 [] [] [] [4] [] (cs := []) (S' := ⟨[(4, .B true)], []⟩) (by kernel_rfl) trivial ?_
                      refine awp_ret ?_
                      have hr := Option.some.inj h
                      subst hr
                      exact ⟨.inr rfl, .B true, by kernel_rfl, by kernel_rfl, by kernel_rfl⟩
                  · rcases h with ⟨_, e1, h⟩ | ⟨_, e1, h⟩
                    · have e2 := Out.done.inj e1
                      subst e2
                      subst h
                      exact ⟨_, Turns.refl, hr⟩
                    · cases e1
            · rcases h with ⟨_, e1, h⟩ | ⟨_, e1, h⟩
              · have e2 := Out.done.inj e1
                subst e2
                subst h
                exact ⟨_, Turns.refl, hr⟩
              · cases e1

theorem workflowref55_Same.okE {K : Nat} {p0 : workflowref55_Group} {p1 : workflowref55_Group} {r : Bool} (h : workflowref55_Same K p0 p1 = some r) : ECall V P 8 [.agg [.ro Tag.t_api_Replica p0.Replicas, .ro Tag.t_bool p0.Up, .I p0.Leader, .I p0.Epoch], .agg [.ro Tag.t_api_Replica p1.Replicas, .ro Tag.t_bool p1.Up, .I p1.Leader, .I p1.Epoch]] [] [] (.B r) [] :=
  ecall_of (fn := Try.f8) (n := 74) (m := 100) (by kernel_rfl) (by kernel_rfl) (by kernel_rfl) rfl (by kernel_rfl) (by kernel_rfl) fun Γ => workflowref55_Same.body h

theorem workflowref55_Same.ok {K : Nat} {p0 : workflowref55_Group} {p1 : workflowref55_Group} {r : Bool} (h : workflowref55_Same K p0 p1 = some r) : PCall V P 8 [.agg [.ro Tag.t_api_Replica p0.Replicas, .ro Tag.t_bool p0.Up, .I p0.Leader, .I p0.Epoch], .agg [.ro Tag.t_api_Replica p1.Replicas, .ro Tag.t_bool p1.Up, .I p1.Leader, .I p1.Epoch]] (.B r) := (workflowref55_Same.okE h).pcall (by kernel_rfl)

def workflowlaw55_of (K : Nat) (p0 : workflowref55_Group) : Option group_Group := some (⟨p0.Replicas, p0.Up, p0.Leader, p0.Epoch⟩ : group_Group)

theorem workflowlaw55_of.body {Γ : Ent} {K : Nat} {p0 : workflowref55_Group} {r : group_Group} (h : workflowlaw55_of K p0 = some r) : AWp V P 12 100 Γ (Try.f12.body.getD .skip) (EndsE P V Try.f12 (.agg [.ro Tag.t_api_Replica ((r).Replicas), .ro Tag.t_bool ((r).Up), .I ((r).Leader), .I ((r).Epoch)]) []) ⟨args0 0 [.agg [.ro Tag.t_api_Replica p0.Replicas, .ro Tag.t_bool p0.Up, .I p0.Leader, .I p0.Epoch]], []⟩ := by
  unfold workflowlaw55_of at h
  refine awp_seq ?_
  refine awp_region L 200 [] [] [] [1, 2] [200, 201] (cs := []) (S' := ⟨[(1, .P 200), (2, .P 201)], [(200, .raw [.ro Tag.t_api_Replica p0.Replicas, .ro Tag.t_bool p0.Up, .I p0.Leader, .I p0.Epoch]), (201, .raw [.N, .N, .I 0, .I 0])]⟩) (by kernel_rfl) trivial ?_
  refine awp_seq ?_
  refine awp_region L 203 [] [] [] [2] [201] (cs := []) (S' := ⟨[(2, .P 201)], [(201, .raw [.ro Tag.t_api_Replica p0.Replicas, .ro Tag.t_bool p0.Up, .I p0.Leader, .I p0.Epoch])]⟩) (by kernel_rfl) trivial ?_
  refine awp_turn (Turns.trans (Turns.keep [2] [201] (S' := ⟨[(2, .P 201)], [(201, .raw [.ro Tag.t_api_Replica p0.Replicas, .ro Tag.t_bool p0.Up, .I p0.Leader, .I p0.Epoch])]⟩) (by kernel_rfl)) (Turns.ren [(201, 100)] (S' := ⟨[(2, .P 100)], [(100, .raw [.ro Tag.t_api_Replica p0.Replicas, .ro Tag.t_bool p0.Up, .I p0.Leader, .I p0.Epoch])]⟩) (by kernel_rfl) (by kernel_rfl))) ?_
  refine awp_ret ?_
  have hr := Option.some.inj h
  subst hr
  exact ⟨.inr rfl, .agg [.ro Tag.t_api_Replica p0.Replicas, .ro Tag.t_bool p0.Up, .I p0.Leader, .I p0.Epoch], by kernel_rfl, by kernel_rfl, by kernel_rfl⟩

theorem workflowlaw55_of.okE {K : Nat} {p0 : workflowref55_Group} {r : group_Group} (h : workflowlaw55_of K p0 = some r) : ECall V P 12 [.agg [.ro Tag.t_api_Replica p0.Replicas, .ro Tag.t_bool p0.Up, .I p0.Leader, .I p0.Epoch]] [] [] (.agg [.ro Tag.t_api_Replica ((r).Replicas), .ro Tag.t_bool ((r).Up), .I ((r).Leader), .I ((r).Epoch)]) [] :=
  ecall_of (fn := Try.f12) (n := 12) (m := 100) (by kernel_rfl) (by kernel_rfl) (by kernel_rfl) rfl (by kernel_rfl) (by kernel_rfl) fun Γ => workflowlaw55_of.body h

theorem workflowlaw55_of.ok {K : Nat} {p0 : workflowref55_Group} {r : group_Group} (h : workflowlaw55_of K p0 = some r) : PCall V P 12 [.agg [.ro Tag.t_api_Replica p0.Replicas, .ro Tag.t_bool p0.Up, .I p0.Leader, .I p0.Epoch]] (.agg [.ro Tag.t_api_Replica ((r).Replicas), .ro Tag.t_bool ((r).Up), .I ((r).Leader), .I ((r).Epoch)]) := (workflowlaw55_of.okE h).pcall (by kernel_rfl)

def replog_Committed.l9 (K : Nat) (p0 : api_Replica) : Nat → Int → (List (List UInt8)) → Option (List (List UInt8))
  | 0, _, _ => none
  | k + 1, xt17_9h, xh21900_9h => (if xt17_9h < (((slc p0.Log 0 ((if (p0.Log.length : Int) < (if (0 : Int) > p0.Commit then 0 else p0.Commit) then (p0.Log.length : Int) else (if (0 : Int) > p0.Commit then 0 else p0.Commit))))).length : Int) then (if (0 : Int) ≤ xt17_9h ∧ (xt17_9h : Int) < (((slc p0.Log 0 ((if (p0.Log.length : Int) < (if (0 : Int) > p0.Commit then 0 else p0.Commit) then (p0.Log.length : Int) else (if (0 : Int) > p0.Commit then 0 else p0.Commit))))).length : Int) then (Option.bind (bytes_Clone_38 K (((((slc p0.Log 0 ((if (p0.Log.length : Int) < (if (0 : Int) > p0.Commit then 0 else p0.Commit) then (p0.Log.length : Int) else (if (0 : Int) > p0.Commit then 0 else p0.Commit))))).getD (Int.toNat xt17_9h) z_api_Entry)).Data)) (fun a1 => (if (xh21900_9h.length + (([a1] : List (List UInt8))).length) * 24 ≤ 140737488355328 then replog_Committed.l9 K p0 k ((IntKind.i64.wrap (xt17_9h + 1))) ((xh21900_9h ++ ([a1] : List (List UInt8)))) else none))) else none) else some xh21900_9h)

def replog_Committed (K : Nat) (p0 : api_Replica) : Option (List (List UInt8)) := (if (0 : Int) ≤ (if (p0.Log.length : Int) < (if (0 : Int) > p0.Commit then 0 else p0.Commit) then (p0.Log.length : Int) else (if (0 : Int) > p0.Commit then 0 else p0.Commit)) ∧ ((if (p0.Log.length : Int) < (if (0 : Int) > p0.Commit then 0 else p0.Commit) then (p0.Log.length : Int) else (if (0 : Int) > p0.Commit then 0 else p0.Commit))) ≤ (p0.Log.length : Int) then (Option.bind (replog_Committed.l9 K p0 K 0 (([] : List (List UInt8))) : Option (List (List UInt8))) (fun xh21800_9 => some xh21800_9)) else none)

theorem replog_Committed.body {Γ : Ent} {K : Nat} {p0 : api_Replica} {r : List (List UInt8)} (h : replog_Committed K p0 = some r) : AWp V P 29 100 Γ (Try.f21.body.getD .skip) (EndsE P V Try.f21 (.cv (.ro Tag.t_sl_uint8 r)) []) ⟨args0 0 [.agg [.I p0.Epoch, .I p0.Vote, .I p0.Commit, .ro Tag.t_api_Entry p0.Log]], []⟩ := by
  unfold replog_Committed at h
  refine awp_seq ?_
  refine awp_region L 200 [] [] [] [1] [200] (cs := []) (S' := ⟨[(1, .P 200)], [(200, .raw [.I p0.Epoch, .I p0.Vote, .I p0.Commit, .ro Tag.t_api_Entry p0.Log])]⟩) (by kernel_rfl) trivial ?_
  refine awp_seq ?_
  refine awp_region L 203 [] [] [] [1, 3] [200] (cs := []) (S' := ⟨[(1, .P 200), (3, .N)], [(200, .raw [.I p0.Epoch, .I p0.Vote, .I p0.Commit, .ro Tag.t_api_Entry p0.Log])]⟩) (by kernel_rfl) trivial ?_
  refine awp_seq ?_
  refine awp_seq ?_
  obtain ⟨g1, h⟩ := guard_some h
  refine awp_region L 205 [] [] [] [3, 15, 16, 17] [] (cs := [(0 : Int) ≤ 0, (0 : Int) ≤ (if (p0.Log.length : Int) < (if (0 : Int) > p0.Commit then 0 else p0.Commit) then (p0.Log.length : Int) else (if (0 : Int) > p0.Commit then 0 else p0.Commit)), ((if (p0.Log.length : Int) < (if (0 : Int) > p0.Commit then 0 else p0.Commit) then (p0.Log.length : Int) else (if (0 : Int) > p0.Commit then 0 else p0.Commit))) ≤ (p0.Log.length : Int)]) (S' := ⟨[(3, .N), (15, .cv (.ro Tag.t_api_Entry ((slc p0.Log 0 ((if (p0.Log.length : Int) < (if (0 : Int) > p0.Commit then 0 else p0.Commit) then (p0.Log.length : Int) else (if (0 : Int) > p0.Commit then 0 else p0.Commit))))))), (16, .I ((((slc p0.Log 0 ((if (p0.Log.length : Int) < (if (0 : Int) > p0.Commit then 0 else p0.Commit) then (p0.Log.length : Int) else (if (0 : Int) > p0.Commit then 0 else p0.Commit))))).length : Int))), (17, .I 0)], []⟩) (by kernel_rfl) (And.intro (Int.le_refl _) (And.intro g1.1 g1.2)) ?_
  refine awp_block ?_
  refine awp_turn (Turns.trans (Turns.keep [3, 15, 16, 17] [] (S' := ⟨[(3, .N), (15, .cv (.ro Tag.t_api_Entry ((slc p0.Log 0 ((if (p0.Log.length : Int) < (if (0 : Int) > p0.Commit then 0 else p0.Commit) then (p0.Log.length : Int) else (if (0 : Int) > p0.Commit then 0 else p0.Commit))))))), (16, .I ((((slc p0.Log 0 ((if (p0.Log.length : Int) < (if (0 : Int) > p0.Commit then 0 else p0.Commit) then (p0.Log.length : Int) else (if (0 : Int) > p0.Commit then 0 else p0.Commit))))).length : Int))), (17, .I 0)], []⟩) (by kernel_rfl)) (Turns.trans (Turns.nilown 3 9500 Tag.t_sl_uint8 (by kernel_rfl) (by kernel_rfl) (S' := ⟨[(3, .cv (.own Tag.t_sl_uint8 9500)), (15, .cv (.ro Tag.t_api_Entry ((slc p0.Log 0 ((if (p0.Log.length : Int) < (if (0 : Int) > p0.Commit then 0 else p0.Commit) then (p0.Log.length : Int) else (if (0 : Int) > p0.Commit then 0 else p0.Commit))))))), (16, .I ((((slc p0.Log 0 ((if (p0.Log.length : Int) < (if (0 : Int) > p0.Commit then 0 else p0.Commit) then (p0.Log.length : Int) else (if (0 : Int) > p0.Commit then 0 else p0.Commit))))).length : Int))), (17, .I 0)], [(9500, .lst Tag.t_sl_uint8 (([] : List (List UInt8))))]⟩) (by kernel_rfl)) (Turns.trans (Turns.keep [3, 15, 16, 17] [9500] (S' := ⟨[(3, .cv (.own Tag.t_sl_uint8 9500)), (15, .cv (.ro Tag.t_api_Entry ((slc p0.Log 0 ((if (p0.Log.length : Int) < (if (0 : Int) > p0.Commit then 0 else p0.Commit) then (p0.Log.length : Int) else (if (0 : Int) > p0.Commit then 0 else p0.Commit))))))), (16, .I ((((slc p0.Log 0 ((if (p0.Log.length : Int) < (if (0 : Int) > p0.Commit then 0 else p0.Commit) then (p0.Log.length : Int) else (if (0 : Int) > p0.Commit then 0 else p0.Commit))))).length : Int))), (17, .I 0)], [(9500, .lst Tag.t_sl_uint8 (([] : List (List UInt8))))]⟩) (by kernel_rfl)) (Turns.ren [(9500, 21900)] (S' := ⟨[(3, .cv (.own Tag.t_sl_uint8 21900)), (15, .cv (.ro Tag.t_api_Entry ((slc p0.Log 0 ((if (p0.Log.length : Int) < (if (0 : Int) > p0.Commit then 0 else p0.Commit) then (p0.Log.length : Int) else (if (0 : Int) > p0.Commit then 0 else p0.Commit))))))), (16, .I ((((slc p0.Log 0 ((if (p0.Log.length : Int) < (if (0 : Int) > p0.Commit then 0 else p0.Commit) then (p0.Log.length : Int) else (if (0 : Int) > p0.Commit then 0 else p0.Commit))))).length : Int))), (17, .I 0)], [(21900, .lst Tag.t_sl_uint8 (([] : List (List UInt8))))]⟩) (by kernel_rfl) (by kernel_rfl))))) ?_
  refine awp_keep (ts := [3, 15, 16, 17]) (ids := [21900]) (S' := ⟨[(3, .cv (.own Tag.t_sl_uint8 21900)), (15, .cv (.ro Tag.t_api_Entry ((slc p0.Log 0 ((if (p0.Log.length : Int) < (if (0 : Int) > p0.Commit then 0 else p0.Commit) then (p0.Log.length : Int) else (if (0 : Int) > p0.Commit then 0 else p0.Commit))))))), (16, .I ((((slc p0.Log 0 ((if (p0.Log.length : Int) < (if (0 : Int) > p0.Commit then 0 else p0.Commit) then (p0.Log.length : Int) else (if (0 : Int) > p0.Commit then 0 else p0.Commit))))).length : Int))), (17, .I 0)], [(21900, .lst Tag.t_sl_uint8 (([] : List (List UInt8))))]⟩) (by kernel_rfl) ?_
  obtain ⟨o1, hp1, h⟩ := bind_some h
  refine awp_conseq (Q' := fun e S => (e = .exit 0 ∧ ∃ xh21800_9 : List (List UInt8), S = ⟨[(3, .cv (.own Tag.t_sl_uint8 21800))], [(21800, .lst Tag.t_sl_uint8 xh21800_9)]⟩ ∧ xh21800_9 = o1)) (awp_loop (fun k S => ∃ xt17_9h : Int, ∃ xh21900_9h : List (List UInt8), S = ⟨[(3, .cv (.own Tag.t_sl_uint8 21900)), (15, .cv (.ro Tag.t_api_Entry ((slc p0.Log 0 ((if (p0.Log.length : Int) < (if (0 : Int) > p0.Commit then 0 else p0.Commit) then (p0.Log.length : Int) else (if (0 : Int) > p0.Commit then 0 else p0.Commit))))))), (16, .I ((((slc p0.Log 0 ((if (p0.Log.length : Int) < (if (0 : Int) > p0.Commit then 0 else p0.Commit) then (p0.Log.length : Int) else (if (0 : Int) > p0.Commit then 0 else p0.Commit))))).length : Int))), (17, .I xt17_9h)], [(21900, .lst Tag.t_sl_uint8 xh21900_9h)]⟩ ∧ replog_Committed.l9 K p0 k xt17_9h xh21900_9h = some o1) ?_ ⟨_, _, rfl, hp1⟩) ?_
  · clear h hp1
    intro k S hS
    obtain ⟨xt17_9h, xh21900_9h, rfl, h⟩ := hS
    cases k with
    | zero => cases h
    | succ k =>
    unfold replog_Committed.l9 at h
    refine awp_seq ?_
    refine awp_region L 218 [] [] [] [3, 15, 16, 17, 18] [21900] (cs := []) (S' := ⟨[(3, .cv (.own Tag.t_sl_uint8 21900)), (15, .cv (.ro Tag.t_api_Entry ((slc p0.Log 0 ((if (p0.Log.length : Int) < (if (0 : Int) > p0.Commit then 0 else p0.Commit) then (p0.Log.length : Int) else (if (0 : Int) > p0.Commit then 0 else p0.Commit))))))), (16, .I ((((slc p0.Log 0 ((if (p0.Log.length : Int) < (if (0 : Int) > p0.Commit then 0 else p0.Commit) then (p0.Log.length : Int) else (if (0 : Int) > p0.Commit then 0 else p0.Commit))))).length : Int))), (17, .I xt17_9h), (18, .B ((decide (xt17_9h < (((slc p0.Log 0 ((if (p0.Log.length : Int) < (if (0 : Int) > p0.Commit then 0 else p0.Commit) then (p0.Log.length : Int) else (if (0 : Int) > p0.Commit then 0 else p0.Commit))))).length : Int)))))], [(21900, .lst Tag.t_sl_uint8 xh21900_9h)]⟩) (by kernel_rfl) trivial ?_
    refine awp_seq ?_
    rcases ite_some h with ⟨c1, h⟩ | ⟨c1, h⟩
    · refine awp_true (b := (decide (xt17_9h < (((slc p0.Log 0 ((if (p0.Log.length : Int) < (if (0 : Int) > p0.Commit then 0 else p0.Commit) then (p0.Log.length : Int) else (if (0 : Int) > p0.Commit then 0 else p0.Commit))))).length : Int)))) (by kernel_rfl) (decide_eq_true c1) ?_
      refine awp_skip [3, 15, 16, 17] [21900] (S' := ⟨[(3, .cv (.own Tag.t_sl_uint8 21900)), (15, .cv (.ro Tag.t_api_Entry ((slc p0.Log 0 ((if (p0.Log.length : Int) < (if (0 : Int) > p0.Commit then 0 else p0.Commit) then (p0.Log.length : Int) else (if (0 : Int) > p0.Commit then 0 else p0.Commit))))))), (16, .I ((((slc p0.Log 0 ((if (p0.Log.length : Int) < (if (0 : Int) > p0.Commit then 0 else p0.Commit) then (p0.Log.length : Int) else (if (0 : Int) > p0.Commit then 0 else p0.Commit))))).length : Int))), (17, .I xt17_9h)], [(21900, .lst Tag.t_sl_uint8 xh21900_9h)]⟩) (by kernel_rfl) ?_
      refine awp_seq ?_
      refine awp_block ?_
      refine awp_seq ?_
      obtain ⟨g2, h⟩ := guard_some h
      refine awp_region L 220 [] [] [] [3, 5, 15, 16, 17] [222, 21900] (cs := [(0 : Int) ≤ xt17_9h, (xt17_9h : Int) < (((slc p0.Log 0 ((if (p0.Log.length : Int) < (if (0 : Int) > p0.Commit then 0 else p0.Commit) then (p0.Log.length : Int) else (if (0 : Int) > p0.Commit then 0 else p0.Commit))))).length : Int)]) (S' := ⟨[(3, .cv (.own Tag.t_sl_uint8 21900)), (5, .P 222), (15, .cv (.ro Tag.t_api_Entry ((slc p0.Log 0 ((if (p0.Log.length : Int) < (if (0 : Int) > p0.Commit then 0 else p0.Commit) then (p0.Log.length : Int) else (if (0 : Int) > p0.Commit then 0 else p0.Commit))))))), (16, .I ((((slc p0.Log 0 ((if (p0.Log.length : Int) < (if (0 : Int) > p0.Commit then 0 else p0.Commit) then (p0.Log.length : Int) else (if (0 : Int) > p0.Commit then 0 else p0.Commit))))).length : Int))), (17, .I xt17_9h)], [(222, .raw [.I (((((slc p0.Log 0 ((if (p0.Log.length : Int) < (if (0 : Int) > p0.Commit then 0 else p0.Commit) then (p0.Log.length : Int) else (if (0 : Int) > p0.Commit then 0 else p0.Commit))))).getD (Int.toNat xt17_9h) z_api_Entry)).Epoch), .ro Tag.t_uint8 (((((slc p0.Log 0 ((if (p0.Log.length : Int) < (if (0 : Int) > p0.Commit then 0 else p0.Commit) then (p0.Log.length : Int) else (if (0 : Int) > p0.Commit then 0 else p0.Commit))))).getD (Int.toNat xt17_9h) z_api_Entry)).Data)]), (21900, .lst Tag.t_sl_uint8 xh21900_9h)]⟩) (by kernel_rfl) (And.intro g2.1 g2.2) ?_
      obtain ⟨a1, ha1, h⟩ := bind_some h
      obtain ⟨g3, h⟩ := guard_some h
      refine awp_region L 225 [] [(3, .cv (.ro Tag.t_uint8 a1))] [] [3, 15, 16, 17] [21900] (cs := [PCall V P 38 [.cv (.ro Tag.t_uint8 (((((slc p0.Log 0 ((if (p0.Log.length : Int) < (if (0 : Int) > p0.Commit then 0 else p0.Commit) then (p0.Log.length : Int) else (if (0 : Int) > p0.Commit then 0 else p0.Commit))))).getD (Int.toNat xt17_9h) z_api_Entry)).Data))] (.cv (.ro Tag.t_uint8 a1)), True, (xh21900_9h.length + (([a1] : List (List UInt8))).length) * 24 ≤ 140737488355328, True]) (S' := ⟨[(3, .cv (.own Tag.t_sl_uint8 21900)), (15, .cv (.ro Tag.t_api_Entry ((slc p0.Log 0 ((if (p0.Log.length : Int) < (if (0 : Int) > p0.Commit then 0 else p0.Commit) then (p0.Log.length : Int) else (if (0 : Int) > p0.Commit then 0 else p0.Commit))))))), (16, .I ((((slc p0.Log 0 ((if (p0.Log.length : Int) < (if (0 : Int) > p0.Commit then 0 else p0.Commit) then (p0.Log.length : Int) else (if (0 : Int) > p0.Commit then 0 else p0.Commit))))).length : Int))), (17, .I xt17_9h)], [(21900, .lst Tag.t_sl_uint8 ((xh21900_9h ++ ([a1] : List (List UInt8)))))]⟩) (by kernel_rfl) (And.intro (bytes_Clone_38.ok ha1) (And.intro trivial (And.intro g3 trivial))) ?_
      refine awp_region L 233 [] [] [] [3, 15, 16, 17] [21900] (cs := []) (S' := ⟨[(3, .cv (.own Tag.t_sl_uint8 21900)), (15, .cv (.ro Tag.t_api_Entry ((slc p0.Log 0 ((if (p0.Log.length : Int) < (if (0 : Int) > p0.Commit then 0 else p0.Commit) then (p0.Log.length : Int) else (if (0 : Int) > p0.Commit then 0 else p0.Commit))))))), (16, .I ((((slc p0.Log 0 ((if (p0.Log.length : Int) < (if (0 : Int) > p0.Commit then 0 else p0.Commit) then (p0.Log.length : Int) else (if (0 : Int) > p0.Commit then 0 else p0.Commit))))).length : Int))), (17, .I ((IntKind.i64.wrap (xt17_9h + 1))))], [(21900, .lst Tag.t_sl_uint8 ((xh21900_9h ++ ([a1] : List (List UInt8)))))]⟩) (by kernel_rfl) trivial ?_
      exact ⟨k, Nat.lt_succ_self k, _, _, rfl, h⟩
    · refine awp_false (b := (decide (xt17_9h < (((slc p0.Log 0 ((if (p0.Log.length : Int) < (if (0 : Int) > p0.Commit then 0 else p0.Commit) then (p0.Log.length : Int) else (if (0 : Int) > p0.Commit then 0 else p0.Commit))))).length : Int)))) (by kernel_rfl) (decide_eq_false c1) ?_
      refine awp_turn (Turns.trans (Turns.keep [3] [21900] (S' := ⟨[(3, .cv (.own Tag.t_sl_uint8 21900))], [(21900, .lst Tag.t_sl_uint8 xh21900_9h)]⟩) (by kernel_rfl)) (Turns.ren [(21900, 21800)] (S' := ⟨[(3, .cv (.own Tag.t_sl_uint8 21800))], [(21800, .lst Tag.t_sl_uint8 xh21900_9h)]⟩) (by kernel_rfl) (by kernel_rfl))) ?_
      refine awp_exit [3] [21800] (S' := ⟨[(3, .cv (.own Tag.t_sl_uint8 21800))], [(21800, .lst Tag.t_sl_uint8 xh21900_9h)]⟩) (by kernel_rfl) ?_
      have hr := Option.some.inj h
      subst hr
      exact ⟨rfl, _, rfl, rfl⟩
  · rintro e S ⟨rfl, xh21800_9, rfl, rfl⟩
    refine ⟨_, Turns.refl, ?_⟩
    refine awp_seq ?_
    refine awp_region L 236 [] [] [] [2] [21800] (cs := []) (S' := ⟨[(2, .cv (.own Tag.t_sl_uint8 21800))], [(21800, .lst Tag.t_sl_uint8 xh21800_9)]⟩) (by kernel_rfl) trivial ?_
    refine awp_turn (Turns.trans (Turns.keep [2] [21800] (S' := ⟨[(2, .cv (.own Tag.t_sl_uint8 21800))], [(21800, .lst Tag.t_sl_uint8 xh21800_9)]⟩) (by kernel_rfl)) (Turns.trans (Turns.frz 21800 (blk0 := .lst Tag.t_sl_uint8 xh21800_9) (by kernel_rfl) (by kernel_rfl) (S' := ⟨[(2, .cv (.ro Tag.t_sl_uint8 xh21800_9))], []⟩) (by kernel_rfl)) (Turns.keep [2] [] (S' := ⟨[(2, .cv (.ro Tag.t_sl_uint8 xh21800_9))], []⟩) (by kernel_rfl)))) ?_
    refine awp_ret ?_
    have hr := Option.some.inj h
    subst hr
    exact ⟨.inr rfl, .cv (.ro Tag.t_sl_uint8 xh21800_9), by kernel_rfl, by kernel_rfl, by kernel_rfl⟩

theorem replog_Committed.okE {K : Nat} {p0 : api_Replica} {r : List (List UInt8)} (h : replog_Committed K p0 = some r) : ECall V P 21 [.agg [.I p0.Epoch, .I p0.Vote, .I p0.Commit, .ro Tag.t_api_Entry p0.Log]] [] [] (.cv (.ro Tag.t_sl_uint8 r)) [] :=
  ecall_of (fn := Try.f21) (n := 29) (m := 100) (by kernel_rfl) (by kernel_rfl) (by kernel_rfl) rfl (by kernel_rfl) (by kernel_rfl) fun Γ => replog_Committed.body h

theorem replog_Committed.ok {K : Nat} {p0 : api_Replica} {r : List (List UInt8)} (h : replog_Committed K p0 = some r) : PCall V P 21 [.agg [.I p0.Epoch, .I p0.Vote, .I p0.Commit, .ro Tag.t_api_Entry p0.Log]] (.cv (.ro Tag.t_sl_uint8 r)) := (replog_Committed.okE h).pcall (by kernel_rfl)

def group_Committed.l9 (K : Nat) (p0 : group_Group) : Nat → Int → Int → Option Int
  | 0, _, _ => none
  | k + 1, xt3_9h, xt9_9h => (if xt9_9h < (p0.Replicas.length : Int) then (if (0 : Int) ≤ xt9_9h ∧ (xt9_9h : Int) < (p0.Replicas.length : Int) then (if xt3_9h < 0 then group_Committed.l9 K p0 k xt9_9h ((IntKind.i64.wrap (xt9_9h + 1))) else (if (0 : Int) ≤ xt3_9h ∧ (xt3_9h : Int) < (p0.Replicas.length : Int) then (if ((p0.Replicas.getD (Int.toNat xt9_9h) z_api_Replica)).Commit > ((p0.Replicas.getD (Int.toNat xt3_9h) z_api_Replica)).Commit then group_Committed.l9 K p0 k xt9_9h ((IntKind.i64.wrap (xt9_9h + 1))) else group_Committed.l9 K p0 k xt3_9h ((IntKind.i64.wrap (xt9_9h + 1)))) else none)) else none) else some xt3_9h)

def group_Committed (K : Nat) (p0 : group_Group) : Option (List (List UInt8)) := (Option.bind (group_Committed.l9 K p0 K (-1) 0 : Option Int) (fun xt3_9 => (if xt3_9 < 0 then some (([] : List (List UInt8))) else (if (0 : Int) ≤ xt3_9 ∧ (xt3_9 : Int) < (p0.Replicas.length : Int) then (Option.bind (replog_Committed K ((p0.Replicas.getD (Int.toNat xt3_9) z_api_Replica))) (fun a1 => some a1)) else none))))

theorem group_Committed.body {Γ : Ent} {K : Nat} {p0 : group_Group} {r : List (List UInt8)} (h : group_Committed K p0 = some r) : AWp V P 37 100 Γ (Try.f11.body.getD .skip) (EndsE P V Try.f11 (.cv (.ro Tag.t_sl_uint8 r)) []) ⟨args0 0 [.agg [.ro Tag.t_api_Replica p0.Replicas, .ro Tag.t_bool p0.Up, .I p0.Leader, .I p0.Epoch]], []⟩ := by
  unfold group_Committed at h
  refine awp_seq ?_
  refine awp_region L 200 [] [] [] [1] [200] (cs := []) (S' := ⟨[(1, .P 200)], [(200, .raw [.ro Tag.t_api_Replica p0.Replicas, .ro Tag.t_bool p0.Up, .I p0.Leader, .I p0.Epoch])]⟩) (by kernel_rfl) trivial ?_
  refine awp_seq ?_
  refine awp_region L 203 [] [] [] [1, 3] [200] (cs := []) (S' := ⟨[(1, .P 200), (3, .I (-1))], [(200, .raw [.ro Tag.t_api_Replica p0.Replicas, .ro Tag.t_bool p0.Up, .I p0.Leader, .I p0.Epoch])]⟩) (by kernel_rfl) trivial ?_
  refine awp_seq ?_
  refine awp_seq ?_
  refine awp_region L 205 [] [] [] [1, 3, 7, 8, 9] [200] (cs := []) (S' := ⟨[(1, .P 200), (3, .I (-1)), (7, .cv (.ro Tag.t_api_Replica p0.Replicas)), (8, .I (p0.Replicas.length : Int)), (9, .I 0)], [(200, .raw [.ro Tag.t_api_Replica p0.Replicas, .ro Tag.t_bool p0.Up, .I p0.Leader, .I p0.Epoch])]⟩) (by kernel_rfl) trivial ?_
  refine awp_block ?_
  refine awp_turn (Turns.trans (Turns.keep [1, 3, 7, 8, 9] [200] (S' := ⟨[(1, .P 200), (3, .I (-1)), (7, .cv (.ro Tag.t_api_Replica p0.Replicas)), (8, .I (p0.Replicas.length : Int)), (9, .I 0)], [(200, .raw [.ro Tag.t_api_Replica p0.Replicas, .ro Tag.t_bool p0.Up, .I p0.Leader, .I p0.Epoch])]⟩) (by kernel_rfl)) (Turns.ren [(200, 21900)] (S' := ⟨[(1, .P 21900), (3, .I (-1)), (7, .cv (.ro Tag.t_api_Replica p0.Replicas)), (8, .I (p0.Replicas.length : Int)), (9, .I 0)], [(21900, .raw [.ro Tag.t_api_Replica p0.Replicas, .ro Tag.t_bool p0.Up, .I p0.Leader, .I p0.Epoch])]⟩) (by kernel_rfl) (by kernel_rfl))) ?_
  refine awp_keep (ts := [1, 3, 7, 8, 9]) (ids := [21900]) (S' := ⟨[(1, .P 21900), (3, .I (-1)), (7, .cv (.ro Tag.t_api_Replica p0.Replicas)), (8, .I (p0.Replicas.length : Int)), (9, .I 0)], [(21900, .raw [.ro Tag.t_api_Replica p0.Replicas, .ro Tag.t_bool p0.Up, .I p0.Leader, .I p0.Epoch])]⟩) (by kernel_rfl) ?_
  obtain ⟨o1, hp1, h⟩ := bind_some h
  refine awp_conseq (Q' := fun e S => (e = .exit 0 ∧ ∃ xt3_9 : Int, S = ⟨[(1, .P 21800), (3, .I xt3_9)], [(21800, .raw [.ro Tag.t_api_Replica p0.Replicas, .ro Tag.t_bool p0.Up, .I p0.Leader, .I p0.Epoch])]⟩ ∧ xt3_9 = o1)) (awp_loop (fun k S => ∃ xt3_9h : Int, ∃ xt9_9h : Int, S = ⟨[(1, .P 21900), (3, .I xt3_9h), (7, .cv (.ro Tag.t_api_Replica p0.Replicas)), (8, .I (p0.Replicas.length : Int)), (9, .I xt9_9h)], [(21900, .raw [.ro Tag.t_api_Replica p0.Replicas, .ro Tag.t_bool p0.Up, .I p0.Leader, .I p0.Epoch])]⟩ ∧ group_Committed.l9 K p0 k xt3_9h xt9_9h = some o1) ?_ ⟨_, _, rfl, hp1⟩) ?_
  · clear h hp1
    intro k S hS
    obtain ⟨xt3_9h, xt9_9h, rfl, h⟩ := hS
    cases k with
    | zero => cases h
    | succ k =>
    unfold group_Committed.l9 at h
    refine awp_seq ?_
    refine awp_region L 210 [] [] [] [1, 3, 7, 8, 9, 10] [21900] (cs := []) (S' := ⟨[(1, .P 21900), (3, .I xt3_9h), (7, .cv (.ro Tag.t_api_Replica p0.Replicas)), (8, .I (p0.Replicas.length : Int)), (9, .I xt9_9h), (10, .B ((decide (xt9_9h < (p0.Replicas.length : Int)))))], [(21900, .raw [.ro Tag.t_api_Replica p0.Replicas, .ro Tag.t_bool p0.Up, .I p0.Leader, .I p0.Epoch])]⟩) (by kernel_rfl) trivial ?_
    refine awp_seq ?_
    rcases ite_some h with ⟨c1, h⟩ | ⟨c1, h⟩
    · refine awp_true (b := (decide (xt9_9h < (p0.Replicas.length : Int)))) (by kernel_rfl) (decide_eq_true c1) ?_
      refine awp_skip [1, 3, 7, 8, 9] [21900] (S' := ⟨[(1, .P 21900), (3, .I xt3_9h), (7, .cv (.ro Tag.t_api_Replica p0.Replicas)), (8, .I (p0.Replicas.length : Int)), (9, .I xt9_9h)], [(21900, .raw [.ro Tag.t_api_Replica p0.Replicas, .ro Tag.t_bool p0.Up, .I p0.Leader, .I p0.Epoch])]⟩) (by kernel_rfl) ?_
      refine awp_seq ?_
      refine awp_block ?_
      refine awp_seq ?_
      obtain ⟨g1, h⟩ := guard_some h
      refine awp_region L 212 [] [] [] [1, 3, 4, 5, 7, 8, 9] [215, 21900] (cs := [(0 : Int) ≤ xt9_9h, (xt9_9h : Int) < (p0.Replicas.length : Int)]) (S' := ⟨[(1, .P 21900), (3, .I xt3_9h), (4, .I xt9_9h), (5, .P 215), (7, .cv (.ro Tag.t_api_Replica p0.Replicas)), (8, .I (p0.Replicas.length : Int)), (9, .I xt9_9h)], [(215, .raw [.I (((p0.Replicas.getD (Int.toNat xt9_9h) z_api_Replica)).Epoch), .I (((p0.Replicas.getD (Int.toNat xt9_9h) z_api_Replica)).Vote), .I (((p0.Replicas.getD (Int.toNat xt9_9h) z_api_Replica)).Commit), .ro Tag.t_api_Entry (((p0.Replicas.getD (Int.toNat xt9_9h) z_api_Replica)).Log)]), (21900, .raw [.ro Tag.t_api_Replica p0.Replicas, .ro Tag.t_bool p0.Up, .I p0.Leader, .I p0.Epoch])]⟩) (by kernel_rfl) (And.intro g1.1 g1.2) ?_
      refine awp_seq ?_
      rcases ite_some h with ⟨c2, h⟩ | ⟨c2, h⟩
      · refine awp_draw L mixed 219 [(2, true)] [] [] [] 13 [1, 3, 4, 7, 8, 9, 26] [21900] (cs := [(decide (xt3_9h < 0)) = true]) (S' := ⟨[(1, .P 21900), (3, .I xt3_9h), (4, .I xt9_9h), (7, .cv (.ro Tag.t_api_Replica p0.Replicas)), (8, .I (p0.Replicas.length : Int)), (9, .I xt9_9h), (26, .B true)], [(21900, .raw [.ro Tag.t_api_Replica p0.Replicas, .ro Tag.t_bool p0.Up, .I p0.Leader, .I p0.Epoch])]⟩) (by kernel_rfl) (decide_eq_true c2) ?_
        refine awp_true (b := true) (by kernel_rfl) (rfl) ?_
        refine awp_region L 233 [] [] [] [1, 3, 7, 8, 9] [21900] (cs := []) (S' := ⟨[(1, .P 21900), (3, .I xt9_9h), (7, .cv (.ro Tag.t_api_Replica p0.Replicas)), (8, .I (p0.Replicas.length : Int)), (9, .I xt9_9h)], [(21900, .raw [.ro Tag.t_api_Replica p0.Replicas, .ro Tag.t_bool p0.Up, .I p0.Leader, .I p0.Epoch])]⟩) (by kernel_rfl) trivial ?_
        refine awp_region L 236 [] [] [] [1, 3, 7, 8, 9] [21900] (cs := []) (S' := ⟨[(1, .P 21900), (3, .I xt9_9h), (7, .cv (.ro Tag.t_api_Replica p0.Replicas)), (8, .I (p0.Replicas.length : Int)), (9, .I ((IntKind.i64.wrap (xt9_9h + 1))))], [(21900, .raw [.ro Tag.t_api_Replica p0.Replicas, .ro Tag.t_bool p0.Up, .I p0.Leader, .I p0.Epoch])]⟩) (by kernel_rfl) trivial ?_
        exact ⟨k, Nat.lt_succ_self k, _, _, rfl, h⟩
      · obtain ⟨g2, h⟩ := guard_some h
        refine awp_draw L mixed 219 [(2, false)] [] [] [] 13 [1, 3, 4, 7, 8, 9, 26] [21900] (cs := [(decide (xt3_9h < 0)) = false, (0 : Int) ≤ xt3_9h, (xt3_9h : Int) < (p0.Replicas.length : Int)]) (S' := ⟨[(1, .P 21900), (3, .I xt3_9h), (4, .I xt9_9h), (7, .cv (.ro Tag.t_api_Replica p0.Replicas)), (8, .I (p0.Replicas.length : Int)), (9, .I xt9_9h), (26, .B ((decide (((p0.Replicas.getD (Int.toNat xt9_9h) z_api_Replica)).Commit > ((p0.Replicas.getD (Int.toNat xt3_9h) z_api_Replica)).Commit))))], [(21900, .raw [.ro Tag.t_api_Replica p0.Replicas, .ro Tag.t_bool p0.Up, .I p0.Leader, .I p0.Epoch])]⟩) (by kernel_rfl) (And.intro (decide_eq_false c2) (And.intro g2.1 g2.2)) ?_
        rcases ite_some h with ⟨c3, h⟩ | ⟨c3, h⟩
        · refine awp_true (b := (decide (((p0.Replicas.getD (Int.toNat xt9_9h) z_api_Replica)).Commit > ((p0.Replicas.getD (Int.toNat xt3_9h) z_api_Replica)).Commit))) (by kernel_rfl) (decide_eq_true c3) ?_
          refine awp_region L 233 [] [] [] [1, 3, 7, 8, 9] [21900] (cs := []) (S' := ⟨[(1, .P 21900), (3, .I xt9_9h), (7, .cv (.ro Tag.t_api_Replica p0.Replicas)), (8, .I (p0.Replicas.length : Int)), (9, .I xt9_9h)], [(21900, .raw [.ro Tag.t_api_Replica p0.Replicas, .ro Tag.t_bool p0.Up, .I p0.Leader, .I p0.Epoch])]⟩) (by kernel_rfl) trivial ?_
          refine awp_region L 236 [] [] [] [1, 3, 7, 8, 9] [21900] (cs := []) (S' := ⟨[(1, .P 21900), (3, .I xt9_9h), (7, .cv (.ro Tag.t_api_Replica p0.Replicas)), (8, .I (p0.Replicas.length : Int)), (9, .I ((IntKind.i64.wrap (xt9_9h + 1))))], [(21900, .raw [.ro Tag.t_api_Replica p0.Replicas, .ro Tag.t_bool p0.Up, .I p0.Leader, .I p0.Epoch])]⟩) (by kernel_rfl) trivial ?_
          exact ⟨k, Nat.lt_succ_self k, _, _, rfl, h⟩
        · refine awp_false (b := (decide (((p0.Replicas.getD (Int.toNat xt9_9h) z_api_Replica)).Commit > ((p0.Replicas.getD (Int.toNat xt3_9h) z_api_Replica)).Commit))) (by kernel_rfl) (decide_eq_false c3) ?_
          refine awp_skip [1, 3, 7, 8, 9] [21900] (S' := ⟨[(1, .P 21900), (3, .I xt3_9h), (7, .cv (.ro Tag.t_api_Replica p0.Replicas)), (8, .I (p0.Replicas.length : Int)), (9, .I xt9_9h)], [(21900, .raw [.ro Tag.t_api_Replica p0.Replicas, .ro Tag.t_bool p0.Up, .I p0.Leader, .I p0.Epoch])]⟩) (by kernel_rfl) ?_
          refine awp_region L 236 [] [] [] [1, 3, 7, 8, 9] [21900] (cs := []) (S' := ⟨[(1, .P 21900), (3, .I xt3_9h), (7, .cv (.ro Tag.t_api_Replica p0.Replicas)), (8, .I (p0.Replicas.length : Int)), (9, .I ((IntKind.i64.wrap (xt9_9h + 1))))], [(21900, .raw [.ro Tag.t_api_Replica p0.Replicas, .ro Tag.t_bool p0.Up, .I p0.Leader, .I p0.Epoch])]⟩) (by kernel_rfl) trivial ?_
          exact ⟨k, Nat.lt_succ_self k, _, _, rfl, h⟩
    · refine awp_false (b := (decide (xt9_9h < (p0.Replicas.length : Int)))) (by kernel_rfl) (decide_eq_false c1) ?_
      refine awp_turn (Turns.trans (Turns.keep [1, 3] [21900] (S' := ⟨[(1, .P 21900), (3, .I xt3_9h)], [(21900, .raw [.ro Tag.t_api_Replica p0.Replicas, .ro Tag.t_bool p0.Up, .I p0.Leader, .I p0.Epoch])]⟩) (by kernel_rfl)) (Turns.ren [(21900, 21800)] (S' := ⟨[(1, .P 21800), (3, .I xt3_9h)], [(21800, .raw [.ro Tag.t_api_Replica p0.Replicas, .ro Tag.t_bool p0.Up, .I p0.Leader, .I p0.Epoch])]⟩) (by kernel_rfl) (by kernel_rfl))) ?_
      refine awp_exit [1, 3] [21800] (S' := ⟨[(1, .P 21800), (3, .I xt3_9h)], [(21800, .raw [.ro Tag.t_api_Replica p0.Replicas, .ro Tag.t_bool p0.Up, .I p0.Leader, .I p0.Epoch])]⟩) (by kernel_rfl) ?_
      have hr := Option.some.inj h
      subst hr
      exact ⟨rfl, _, rfl, rfl⟩
  · rintro e S ⟨rfl, xt3_9, rfl, rfl⟩
    refine ⟨_, Turns.refl, ?_⟩
    refine awp_seq ?_
    refine awp_seq ?_
    refine awp_region L 239 [] [] [] [1, 3, 30] [21800] (cs := []) (S' := ⟨[(1, .P 21800), (3, .I xt3_9), (30, .B ((decide (xt3_9 < 0))))], [(21800, .raw [.ro Tag.t_api_Replica p0.Replicas, .ro Tag.t_bool p0.Up, .I p0.Leader, .I p0.Epoch])]⟩) (by kernel_rfl) trivial ?_
    rcases ite_some h with ⟨c4, h⟩ | ⟨c4, h⟩
    · refine awp_true (b := (decide (xt3_9 < 0))) (by kernel_rfl) (decide_eq_true c4) ?_
      refine awp_seq ?_
      refine awp_region L 242 [] [] [] [2] [] (cs := []) (S' := ⟨[(2, .N)], []⟩) (by kernel_rfl) trivial ?_
      refine awp_ret ?_
      have hr := Option.some.inj h
      subst hr
      exact ⟨.inr rfl, .N, by kernel_rfl, by kernel_rfl, by kernel_rfl⟩
    · refine awp_false (b := (decide (xt3_9 < 0))) (by kernel_rfl) (decide_eq_false c4) ?_
      refine awp_skip [1, 3] [21800] (S' := ⟨[(1, .P 21800), (3, .I xt3_9)], [(21800, .raw [.ro Tag.t_api_Replica p0.Replicas, .ro Tag.t_bool p0.Up, .I p0.Leader, .I p0.Epoch])]⟩) (by kernel_rfl) ?_
      refine awp_seq ?_
      obtain ⟨g3, h⟩ := guard_some h
      obtain ⟨a1, h1, h⟩ := bind_some h
      refine awp_region L 244 [] [(5, .cv (.ro Tag.t_sl_uint8 a1))] [] [2] [] (cs := [(0 : Int) ≤ xt3_9, (xt3_9 : Int) < (p0.Replicas.length : Int), PCall V P 21 [.agg [.I (((p0.Replicas.getD (Int.toNat xt3_9) z_api_Replica)).Epoch), .I (((p0.Replicas.getD (Int.toNat xt3_9) z_api_Replica)).Vote), .I (((p0.Replicas.getD (Int.toNat xt3_9) z_api_Replica)).Commit), .ro Tag.t_api_Entry (((p0.Replicas.getD (Int.toNat xt3_9) z_api_Replica)).Log)]] (.cv (.ro Tag.t_sl_uint8 a1)), True]) (S' := ⟨[(2, .cv (.ro Tag.t_sl_uint8 a1))], []⟩) (by kernel_rfl) (And.intro g3.1 (And.intro g3.2 (And.intro (replog_Committed.ok h1) trivial))) ?_
      refine awp_ret ?_
      have hr := Option.some.inj h
      subst hr
      exact ⟨.inr rfl, .cv (.ro Tag.t_sl_uint8 a1), by kernel_rfl, by kernel_rfl, by kernel_rfl⟩

theorem group_Committed.okE {K : Nat} {p0 : group_Group} {r : List (List UInt8)} (h : group_Committed K p0 = some r) : ECall V P 11 [.agg [.ro Tag.t_api_Replica p0.Replicas, .ro Tag.t_bool p0.Up, .I p0.Leader, .I p0.Epoch]] [] [] (.cv (.ro Tag.t_sl_uint8 r)) [] :=
  ecall_of (fn := Try.f11) (n := 37) (m := 100) (by kernel_rfl) (by kernel_rfl) (by kernel_rfl) rfl (by kernel_rfl) (by kernel_rfl) fun Γ => group_Committed.body h

theorem group_Committed.ok {K : Nat} {p0 : group_Group} {r : List (List UInt8)} (h : group_Committed K p0 = some r) : PCall V P 11 [.agg [.ro Tag.t_api_Replica p0.Replicas, .ro Tag.t_bool p0.Up, .I p0.Leader, .I p0.Epoch]] (.cv (.ro Tag.t_sl_uint8 r)) := (group_Committed.okE h).pcall (by kernel_rfl)

def workflowref52_Committed.l9 (K : Nat) (p0 : api_Replica) : Nat → Int → (List (List UInt8)) → Option (List (List UInt8))
  | 0, _, _ => none
  | k + 1, xt4_9h, xh21901_9h => (if xt4_9h < (p0.Log.length : Int) then (if xt4_9h < p0.Commit then (if (0 : Int) ≤ xt4_9h ∧ (xt4_9h : Int) < (p0.Log.length : Int) then (if (xh21901_9h.length + (([((p0.Log.getD (Int.toNat xt4_9h) z_api_Entry)).Data] : List (List UInt8))).length) * 24 ≤ 140737488355328 then workflowref52_Committed.l9 K p0 k ((IntKind.i64.wrap (xt4_9h + 1))) ((xh21901_9h ++ ([((p0.Log.getD (Int.toNat xt4_9h) z_api_Entry)).Data] : List (List UInt8)))) else none) else none) else some xh21901_9h) else some xh21901_9h)

def workflowref52_Committed (K : Nat) (p0 : api_Replica) : Option (List (List UInt8)) := (Option.bind (workflowref52_Committed.l9 K p0 K 0 (([] : List (List UInt8))) : Option (List (List UInt8))) (fun xh21800_9 => some xh21800_9))

theorem workflowref52_Committed.body {Γ : Ent} {K : Nat} {p0 : api_Replica} {r : List (List UInt8)} (h : workflowref52_Committed K p0 = some r) : AWp V P 28 100 Γ (Try.f22.body.getD .skip) (EndsE P V Try.f22 (.cv (.ro Tag.t_sl_uint8 r)) []) ⟨args0 0 [.agg [.I p0.Epoch, .I p0.Vote, .I p0.Commit, .ro Tag.t_api_Entry p0.Log]], []⟩ := by
  unfold workflowref52_Committed at h
  refine awp_seq ?_
  refine awp_region L 200 [] [] [] [1] [200] (cs := []) (S' := ⟨[(1, .P 200)], [(200, .raw [.I p0.Epoch, .I p0.Vote, .I p0.Commit, .ro Tag.t_api_Entry p0.Log])]⟩) (by kernel_rfl) trivial ?_
  refine awp_seq ?_
  refine awp_region L 203 [] [] [] [1, 3] [200] (cs := []) (S' := ⟨[(1, .P 200), (3, .N)], [(200, .raw [.I p0.Epoch, .I p0.Vote, .I p0.Commit, .ro Tag.t_api_Entry p0.Log])]⟩) (by kernel_rfl) trivial ?_
  refine awp_seq ?_
  refine awp_seq ?_
  refine awp_region L 205 [] [] [] [1, 3, 4] [200] (cs := []) (S' := ⟨[(1, .P 200), (3, .N), (4, .I 0)], [(200, .raw [.I p0.Epoch, .I p0.Vote, .I p0.Commit, .ro Tag.t_api_Entry p0.Log])]⟩) (by kernel_rfl) trivial ?_
  refine awp_block ?_
  refine awp_turn (Turns.trans (Turns.keep [1, 3, 4] [200] (S' := ⟨[(1, .P 200), (3, .N), (4, .I 0)], [(200, .raw [.I p0.Epoch, .I p0.Vote, .I p0.Commit, .ro Tag.t_api_Entry p0.Log])]⟩) (by kernel_rfl)) (Turns.trans (Turns.nilown 3 9500 Tag.t_sl_uint8 (by kernel_rfl) (by kernel_rfl) (S' := ⟨[(3, .cv (.own Tag.t_sl_uint8 9500)), (1, .P 200), (4, .I 0)], [(9500, .lst Tag.t_sl_uint8 (([] : List (List UInt8)))), (200, .raw [.I p0.Epoch, .I p0.Vote, .I p0.Commit, .ro Tag.t_api_Entry p0.Log])]⟩) (by kernel_rfl)) (Turns.trans (Turns.keep [1, 3, 4] [200, 9500] (S' := ⟨[(1, .P 200), (3, .cv (.own Tag.t_sl_uint8 9500)), (4, .I 0)], [(200, .raw [.I p0.Epoch, .I p0.Vote, .I p0.Commit, .ro Tag.t_api_Entry p0.Log]), (9500, .lst Tag.t_sl_uint8 (([] : List (List UInt8))))]⟩) (by kernel_rfl)) (Turns.ren [(200, 21900), (9500, 21901)] (S' := ⟨[(1, .P 21900), (3, .cv (.own Tag.t_sl_uint8 21901)), (4, .I 0)], [(21900, .raw [.I p0.Epoch, .I p0.Vote, .I p0.Commit, .ro Tag.t_api_Entry p0.Log]), (21901, .lst Tag.t_sl_uint8 (([] : List (List UInt8))))]⟩) (by kernel_rfl) (by kernel_rfl))))) ?_
  refine awp_keep (ts := [1, 3, 4]) (ids := [21900, 21901]) (S' := ⟨[(1, .P 21900), (3, .cv (.own Tag.t_sl_uint8 21901)), (4, .I 0)], [(21900, .raw [.I p0.Epoch, .I p0.Vote, .I p0.Commit, .ro Tag.t_api_Entry p0.Log]), (21901, .lst Tag.t_sl_uint8 (([] : List (List UInt8))))]⟩) (by kernel_rfl) ?_
  obtain ⟨o1, hp1, h⟩ := bind_some h
  refine awp_conseq (Q' := fun e S => (e = .exit 0 ∧ ∃ xh21800_9 : List (List UInt8), S = ⟨[(3, .cv (.own Tag.t_sl_uint8 21800))], [(21800, .lst Tag.t_sl_uint8 xh21800_9)]⟩ ∧ xh21800_9 = o1)) (awp_loop (fun k S => ∃ xt4_9h : Int, ∃ xh21901_9h : List (List UInt8), S = ⟨[(1, .P 21900), (3, .cv (.own Tag.t_sl_uint8 21901)), (4, .I xt4_9h)], [(21900, .raw [.I p0.Epoch, .I p0.Vote, .I p0.Commit, .ro Tag.t_api_Entry p0.Log]), (21901, .lst Tag.t_sl_uint8 xh21901_9h)]⟩ ∧ workflowref52_Committed.l9 K p0 k xt4_9h xh21901_9h = some o1) ?_ ⟨_, _, rfl, hp1⟩) ?_
  · clear h hp1
    intro k S hS
    obtain ⟨xt4_9h, xh21901_9h, rfl, h⟩ := hS
    cases k with
    | zero => cases h
    | succ k =>
    unfold workflowref52_Committed.l9 at h
    refine awp_seq ?_
    refine awp_seq ?_
    rcases ite_some h with ⟨c1, h⟩ | ⟨c1, h⟩
    · refine awp_region L 207 [(5, true)] [] [] [1, 3, 4, 15] [21900, 21901] (cs := [(decide (xt4_9h < (p0.Log.length : Int))) = true]) (S' := ⟨[(1, .P 21900), (3, .cv (.own Tag.t_sl_uint8 21901)), (4, .I xt4_9h), (15, .B ((decide (xt4_9h < p0.Commit))))], [(21900, .raw [.I p0.Epoch, .I p0.Vote, .I p0.Commit, .ro Tag.t_api_Entry p0.Log]), (21901, .lst Tag.t_sl_uint8 xh21901_9h)]⟩) (by kernel_rfl) (decide_eq_true c1) ?_
      rcases ite_some h with ⟨c2, h⟩ | ⟨c2, h⟩
      · refine awp_true (b := (decide (xt4_9h < p0.Commit))) (by kernel_rfl) (decide_eq_true c2) ?_
        refine awp_skip [1, 3, 4] [21900, 21901] (S' := ⟨[(1, .P 21900), (3, .cv (.own Tag.t_sl_uint8 21901)), (4, .I xt4_9h)], [(21900, .raw [.I p0.Epoch, .I p0.Vote, .I p0.Commit, .ro Tag.t_api_Entry p0.Log]), (21901, .lst Tag.t_sl_uint8 xh21901_9h)]⟩) (by kernel_rfl) ?_
        refine awp_seq ?_
        refine awp_block ?_
        obtain ⟨g1, h⟩ := guard_some h
        obtain ⟨g2, h⟩ := guard_some h
        refine awp_region L 219 [] [] [] [1, 3, 4] [21900, 21901] (cs := [(0 : Int) ≤ xt4_9h, (xt4_9h : Int) < (p0.Log.length : Int), (xh21901_9h.length + (([((p0.Log.getD (Int.toNat xt4_9h) z_api_Entry)).Data] : List (List UInt8))).length) * 24 ≤ 140737488355328, True]) (S' := ⟨[(1, .P 21900), (3, .cv (.own Tag.t_sl_uint8 21901)), (4, .I xt4_9h)], [(21900, .raw [.I p0.Epoch, .I p0.Vote, .I p0.Commit, .ro Tag.t_api_Entry p0.Log]), (21901, .lst Tag.t_sl_uint8 ((xh21901_9h ++ ([((p0.Log.getD (Int.toNat xt4_9h) z_api_Entry)).Data] : List (List UInt8)))))]⟩) (by kernel_rfl) (And.intro g1.1 (And.intro g1.2 (And.intro g2 trivial))) ?_
        refine awp_region L 230 [] [] [] [1, 3, 4] [21900, 21901] (cs := []) (S' := ⟨[(1, .P 21900), (3, .cv (.own Tag.t_sl_uint8 21901)), (4, .I ((IntKind.i64.wrap (xt4_9h + 1))))], [(21900, .raw [.I p0.Epoch, .I p0.Vote, .I p0.Commit, .ro Tag.t_api_Entry p0.Log]), (21901, .lst Tag.t_sl_uint8 ((xh21901_9h ++ ([((p0.Log.getD (Int.toNat xt4_9h) z_api_Entry)).Data] : List (List UInt8)))))]⟩) (by kernel_rfl) trivial ?_
        exact ⟨k, Nat.lt_succ_self k, _, _, rfl, h⟩
      · refine awp_false (b := (decide (xt4_9h < p0.Commit))) (by kernel_rfl) (decide_eq_false c2) ?_
        refine awp_turn (Turns.trans (Turns.keep [3] [21901] (S' := ⟨[(3, .cv (.own Tag.t_sl_uint8 21901))], [(21901, .lst Tag.t_sl_uint8 xh21901_9h)]⟩) (by kernel_rfl)) (Turns.ren [(21901, 21800)] (S' := ⟨[(3, .cv (.own Tag.t_sl_uint8 21800))], [(21800, .lst Tag.t_sl_uint8 xh21901_9h)]⟩) (by kernel_rfl) (by kernel_rfl))) ?_
        refine awp_exit [3] [21800] (S' := ⟨[(3, .cv (.own Tag.t_sl_uint8 21800))], [(21800, .lst Tag.t_sl_uint8 xh21901_9h)]⟩) (by kernel_rfl) ?_
        have hr := Option.some.inj h
        subst hr
        exact ⟨rfl, _, rfl, rfl⟩
    · refine awp_region L 207 [(5, false)] [] [] [1, 3, 4, 15] [21900, 21901] (cs := [(decide (xt4_9h < (p0.Log.length : Int))) = false]) (S' := ⟨[(1, .P 21900), (3, .cv (.own Tag.t_sl_uint8 21901)), (4, .I xt4_9h), (15, .B false)], [(21900, .raw [.I p0.Epoch, .I p0.Vote, .I p0.Commit, .ro Tag.t_api_Entry p0.Log]), (21901, .lst Tag.t_sl_uint8 xh21901_9h)]⟩) (by kernel_rfl) (decide_eq_false c1) ?_
      refine awp_false (b := false) (by kernel_rfl) (rfl) ?_
      refine awp_turn (Turns.trans (Turns.keep [3] [21901] (S' := ⟨[(3, .cv (.own Tag.t_sl_uint8 21901))], [(21901, .lst Tag.t_sl_uint8 xh21901_9h)]⟩) (by kernel_rfl)) (Turns.ren [(21901, 21800)] (S' := ⟨[(3, .cv (.own Tag.t_sl_uint8 21800))], [(21800, .lst Tag.t_sl_uint8 xh21901_9h)]⟩) (by kernel_rfl) (by kernel_rfl))) ?_
      refine awp_exit [3] [21800] (S' := ⟨[(3, .cv (.own Tag.t_sl_uint8 21800))], [(21800, .lst Tag.t_sl_uint8 xh21901_9h)]⟩) (by kernel_rfl) ?_
      have hr := Option.some.inj h
      subst hr
      exact ⟨rfl, _, rfl, rfl⟩
  · rintro e S ⟨rfl, xh21800_9, rfl, rfl⟩
    refine ⟨_, Turns.refl, ?_⟩
    refine awp_seq ?_
    refine awp_region L 234 [] [] [] [2] [21800] (cs := []) (S' := ⟨[(2, .cv (.own Tag.t_sl_uint8 21800))], [(21800, .lst Tag.t_sl_uint8 xh21800_9)]⟩) (by kernel_rfl) trivial ?_
    refine awp_turn (Turns.trans (Turns.keep [2] [21800] (S' := ⟨[(2, .cv (.own Tag.t_sl_uint8 21800))], [(21800, .lst Tag.t_sl_uint8 xh21800_9)]⟩) (by kernel_rfl)) (Turns.trans (Turns.frz 21800 (blk0 := .lst Tag.t_sl_uint8 xh21800_9) (by kernel_rfl) (by kernel_rfl) (S' := ⟨[(2, .cv (.ro Tag.t_sl_uint8 xh21800_9))], []⟩) (by kernel_rfl)) (Turns.keep [2] [] (S' := ⟨[(2, .cv (.ro Tag.t_sl_uint8 xh21800_9))], []⟩) (by kernel_rfl)))) ?_
    refine awp_ret ?_
    have hr := Option.some.inj h
    subst hr
    exact ⟨.inr rfl, .cv (.ro Tag.t_sl_uint8 xh21800_9), by kernel_rfl, by kernel_rfl, by kernel_rfl⟩

theorem workflowref52_Committed.okE {K : Nat} {p0 : api_Replica} {r : List (List UInt8)} (h : workflowref52_Committed K p0 = some r) : ECall V P 22 [.agg [.I p0.Epoch, .I p0.Vote, .I p0.Commit, .ro Tag.t_api_Entry p0.Log]] [] [] (.cv (.ro Tag.t_sl_uint8 r)) [] :=
  ecall_of (fn := Try.f22) (n := 28) (m := 100) (by kernel_rfl) (by kernel_rfl) (by kernel_rfl) rfl (by kernel_rfl) (by kernel_rfl) fun Γ => workflowref52_Committed.body h

theorem workflowref52_Committed.ok {K : Nat} {p0 : api_Replica} {r : List (List UInt8)} (h : workflowref52_Committed K p0 = some r) : PCall V P 22 [.agg [.I p0.Epoch, .I p0.Vote, .I p0.Commit, .ro Tag.t_api_Entry p0.Log]] (.cv (.ro Tag.t_sl_uint8 r)) := (workflowref52_Committed.okE h).pcall (by kernel_rfl)

def workflowref55_Committed.l9 (K : Nat) (p0 : workflowref55_Group) : Nat → Int → Int → Option Int
  | 0, _, _ => none
  | k + 1, xt3_9h, xt4_9h => (if xt4_9h < (p0.Replicas.length : Int) then (if xt3_9h < 0 then workflowref55_Committed.l9 K p0 k xt4_9h ((IntKind.i64.wrap (xt4_9h + 1))) else (if (0 : Int) ≤ xt4_9h ∧ (xt4_9h : Int) < (p0.Replicas.length : Int) then (if (0 : Int) ≤ xt3_9h ∧ (xt3_9h : Int) < (p0.Replicas.length : Int) then (if ((p0.Replicas.getD (Int.toNat xt4_9h) z_api_Replica)).Commit > ((p0.Replicas.getD (Int.toNat xt3_9h) z_api_Replica)).Commit then workflowref55_Committed.l9 K p0 k xt4_9h ((IntKind.i64.wrap (xt4_9h + 1))) else workflowref55_Committed.l9 K p0 k xt3_9h ((IntKind.i64.wrap (xt4_9h + 1)))) else none) else none)) else some xt3_9h)

def workflowref55_Committed (K : Nat) (p0 : workflowref55_Group) : Option (List (List UInt8)) := (Option.bind (workflowref55_Committed.l9 K p0 K (-1) 0 : Option Int) (fun xt3_9 => (if xt3_9 < 0 then some (([] : List (List UInt8))) else (if (0 : Int) ≤ xt3_9 ∧ (xt3_9 : Int) < (p0.Replicas.length : Int) then (Option.bind (workflowref52_Committed K ((p0.Replicas.getD (Int.toNat xt3_9) z_api_Replica))) (fun a1 => some a1)) else none))))

theorem workflowref55_Committed.body {Γ : Ent} {K : Nat} {p0 : workflowref55_Group} {r : List (List UInt8)} (h : workflowref55_Committed K p0 = some r) : AWp V P 38 100 Γ (Try.f13.body.getD .skip) (EndsE P V Try.f13 (.cv (.ro Tag.t_sl_uint8 r)) []) ⟨args0 0 [.agg [.ro Tag.t_api_Replica p0.Replicas, .ro Tag.t_bool p0.Up, .I p0.Leader, .I p0.Epoch]], []⟩ := by
  unfold workflowref55_Committed at h
  refine awp_seq ?_
  refine awp_region L 200 [] [] [] [1] [200] (cs := []) (S' := ⟨[(1, .P 200)], [(200, .raw [.ro Tag.t_api_Replica p0.Replicas, .ro Tag.t_bool p0.Up, .I p0.Leader, .I p0.Epoch])]⟩) (by kernel_rfl) trivial ?_
  refine awp_seq ?_
  refine awp_region L 203 [] [] [] [1, 3] [200] (cs := []) (S' := ⟨[(1, .P 200), (3, .I (-1))], [(200, .raw [.ro Tag.t_api_Replica p0.Replicas, .ro Tag.t_bool p0.Up, .I p0.Leader, .I p0.Epoch])]⟩) (by kernel_rfl) trivial ?_
  refine awp_seq ?_
  refine awp_seq ?_
  refine awp_region L 205 [] [] [] [1, 3, 4] [200] (cs := []) (S' := ⟨[(1, .P 200), (3, .I (-1)), (4, .I 0)], [(200, .raw [.ro Tag.t_api_Replica p0.Replicas, .ro Tag.t_bool p0.Up, .I p0.Leader, .I p0.Epoch])]⟩) (by kernel_rfl) trivial ?_
  refine awp_block ?_
  refine awp_turn (Turns.trans (Turns.keep [1, 3, 4] [200] (S' := ⟨[(1, .P 200), (3, .I (-1)), (4, .I 0)], [(200, .raw [.ro Tag.t_api_Replica p0.Replicas, .ro Tag.t_bool p0.Up, .I p0.Leader, .I p0.Epoch])]⟩) (by kernel_rfl)) (Turns.ren [(200, 21900)] (S' := ⟨[(1, .P 21900), (3, .I (-1)), (4, .I 0)], [(21900, .raw [.ro Tag.t_api_Replica p0.Replicas, .ro Tag.t_bool p0.Up, .I p0.Leader, .I p0.Epoch])]⟩) (by kernel_rfl) (by kernel_rfl))) ?_
  refine awp_keep (ts := [1, 3, 4]) (ids := [21900]) (S' := ⟨[(1, .P 21900), (3, .I (-1)), (4, .I 0)], [(21900, .raw [.ro Tag.t_api_Replica p0.Replicas, .ro Tag.t_bool p0.Up, .I p0.Leader, .I p0.Epoch])]⟩) (by kernel_rfl) ?_
  obtain ⟨o1, hp1, h⟩ := bind_some h
  refine awp_conseq (Q' := fun e S => (e = .exit 0 ∧ ∃ xt3_9 : Int, S = ⟨[(1, .P 21800), (3, .I xt3_9)], [(21800, .raw [.ro Tag.t_api_Replica p0.Replicas, .ro Tag.t_bool p0.Up, .I p0.Leader, .I p0.Epoch])]⟩ ∧ xt3_9 = o1)) (awp_loop (fun k S => ∃ xt3_9h : Int, ∃ xt4_9h : Int, S = ⟨[(1, .P 21900), (3, .I xt3_9h), (4, .I xt4_9h)], [(21900, .raw [.ro Tag.t_api_Replica p0.Replicas, .ro Tag.t_bool p0.Up, .I p0.Leader, .I p0.Epoch])]⟩ ∧ workflowref55_Committed.l9 K p0 k xt3_9h xt4_9h = some o1) ?_ ⟨_, _, rfl, hp1⟩) ?_
  · clear h hp1
    intro k S hS
    obtain ⟨xt3_9h, xt4_9h, rfl, h⟩ := hS
    cases k with
    | zero => cases h
    | succ k =>
    unfold workflowref55_Committed.l9 at h
    refine awp_seq ?_
    refine awp_seq ?_
    refine awp_region L 207 [] [] [] [1, 3, 4, 9] [21900] (cs := []) (S' := ⟨[(1, .P 21900), (3, .I xt3_9h), (4, .I xt4_9h), (9, .B ((decide (xt4_9h < (p0.Replicas.length : Int)))))], [(21900, .raw [.ro Tag.t_api_Replica p0.Replicas, .ro Tag.t_bool p0.Up, .I p0.Leader, .I p0.Epoch])]⟩) (by kernel_rfl) trivial ?_
    rcases ite_some h with ⟨c1, h⟩ | ⟨c1, h⟩
    · refine awp_true (b := (decide (xt4_9h < (p0.Replicas.length : Int)))) (by kernel_rfl) (decide_eq_true c1) ?_
      refine awp_skip [1, 3, 4] [21900] (S' := ⟨[(1, .P 21900), (3, .I xt3_9h), (4, .I xt4_9h)], [(21900, .raw [.ro Tag.t_api_Replica p0.Replicas, .ro Tag.t_bool p0.Up, .I p0.Leader, .I p0.Epoch])]⟩) (by kernel_rfl) ?_
      refine awp_seq ?_
      refine awp_block ?_
      refine awp_seq ?_
      rcases ite_some h with ⟨c2, h⟩ | ⟨c2, h⟩
      · refine awp_draw L mixed 213 [(2, true)] [] [] [] 17 [1, 3, 4, 28] [21900] (cs := [(decide (xt3_9h < 0)) = true]) (S' := ⟨[(1, .P 21900), (3, .I xt3_9h), (4, .I xt4_9h), (28, .B true)], [(21900, .raw [.ro Tag.t_api_Replica p0.Replicas, .ro Tag.t_bool p0.Up, .I p0.Leader, .I p0.Epoch])]⟩) (by kernel_rfl) (decide_eq_true c2) ?_
        refine awp_true (b := true) (by kernel_rfl) (rfl) ?_
        refine awp_region L 231 [] [] [] [1, 3, 4] [21900] (cs := []) (S' := ⟨[(1, .P 21900), (3, .I xt4_9h), (4, .I xt4_9h)], [(21900, .raw [.ro Tag.t_api_Replica p0.Replicas, .ro Tag.t_bool p0.Up, .I p0.Leader, .I p0.Epoch])]⟩) (by kernel_rfl) trivial ?_
        refine awp_region L 234 [] [] [] [1, 3, 4] [21900] (cs := []) (S' := ⟨[(1, .P 21900), (3, .I xt4_9h), (4, .I ((IntKind.i64.wrap (xt4_9h + 1))))], [(21900, .raw [.ro Tag.t_api_Replica p0.Replicas, .ro Tag.t_bool p0.Up, .I p0.Leader, .I p0.Epoch])]⟩) (by kernel_rfl) trivial ?_
        exact ⟨k, Nat.lt_succ_self k, _, _, rfl, h⟩
      · obtain ⟨g1, h⟩ := guard_some h
        obtain ⟨g2, h⟩ := guard_some h
        refine awp_draw L mixed 213 [(2, false)] [] [] [] 17 [1, 3, 4, 28] [21900] (cs := [(decide (xt3_9h < 0)) = false, (0 : Int) ≤ xt4_9h, (xt4_9h : Int) < (p0.Replicas.length : Int), (0 : Int) ≤ xt3_9h, (xt3_9h : Int) < (p0.Replicas.length : Int)]) (S' := ⟨[(1, .P 21900), (3, .I xt3_9h), (4, .I xt4_9h), (28, .B ((decide (((p0.Replicas.getD (Int.toNat xt4_9h) z_api_Replica)).Commit > ((p0.Replicas.getD (Int.toNat xt3_9h) z_api_Replica)).Commit))))], [(21900, .raw [.ro Tag.t_api_Replica p0.Replicas, .ro Tag.t_bool p0.Up, .I p0.Leader, .I p0.Epoch])]⟩) (by kernel_rfl) (And.intro (decide_eq_false c2) (And.intro g1.1 (And.intro g1.2 (And.intro g2.1 g2.2)))) ?_
        rcases ite_some h with ⟨c3, h⟩ | ⟨c3, h⟩
        · refine awp_true (b := (decide (((p0.Replicas.getD (Int.toNat xt4_9h) z_api_Replica)).Commit > ((p0.Replicas.getD (Int.toNat xt3_9h) z_api_Replica)).Commit))) (by kernel_rfl) (decide_eq_true c3) ?_
          refine awp_region L 231 [] [] [] [1, 3, 4] [21900] (cs := []) (S' := ⟨[(1, .P 21900), (3, .I xt4_9h), (4, .I xt4_9h)], [(21900, .raw [.ro Tag.t_api_Replica p0.Replicas, .ro Tag.t_bool p0.Up, .I p0.Leader, .I p0.Epoch])]⟩) (by kernel_rfl) trivial ?_
          refine awp_region L 234 [] [] [] [1, 3, 4] [21900] (cs := []) (S' := ⟨[(1, .P 21900), (3, .I xt4_9h), (4, .I ((IntKind.i64.wrap (xt4_9h + 1))))], [(21900, .raw [.ro Tag.t_api_Replica p0.Replicas, .ro Tag.t_bool p0.Up, .I p0.Leader, .I p0.Epoch])]⟩) (by kernel_rfl) trivial ?_
          exact ⟨k, Nat.lt_succ_self k, _, _, rfl, h⟩
        · refine awp_false (b := (decide (((p0.Replicas.getD (Int.toNat xt4_9h) z_api_Replica)).Commit > ((p0.Replicas.getD (Int.toNat xt3_9h) z_api_Replica)).Commit))) (by kernel_rfl) (decide_eq_false c3) ?_
          refine awp_skip [1, 3, 4] [21900] (S' := ⟨[(1, .P 21900), (3, .I xt3_9h), (4, .I xt4_9h)], [(21900, .raw [.ro Tag.t_api_Replica p0.Replicas, .ro Tag.t_bool p0.Up, .I p0.Leader, .I p0.Epoch])]⟩) (by kernel_rfl) ?_
          refine awp_region L 234 [] [] [] [1, 3, 4] [21900] (cs := []) (S' := ⟨[(1, .P 21900), (3, .I xt3_9h), (4, .I ((IntKind.i64.wrap (xt4_9h + 1))))], [(21900, .raw [.ro Tag.t_api_Replica p0.Replicas, .ro Tag.t_bool p0.Up, .I p0.Leader, .I p0.Epoch])]⟩) (by kernel_rfl) trivial ?_
          exact ⟨k, Nat.lt_succ_self k, _, _, rfl, h⟩
    · refine awp_false (b := (decide (xt4_9h < (p0.Replicas.length : Int)))) (by kernel_rfl) (decide_eq_false c1) ?_
      refine awp_turn (Turns.trans (Turns.keep [1, 3] [21900] (S' := ⟨[(1, .P 21900), (3, .I xt3_9h)], [(21900, .raw [.ro Tag.t_api_Replica p0.Replicas, .ro Tag.t_bool p0.Up, .I p0.Leader, .I p0.Epoch])]⟩) (by kernel_rfl)) (Turns.ren [(21900, 21800)] (S' := ⟨[(1, .P 21800), (3, .I xt3_9h)], [(21800, .raw [.ro Tag.t_api_Replica p0.Replicas, .ro Tag.t_bool p0.Up, .I p0.Leader, .I p0.Epoch])]⟩) (by kernel_rfl) (by kernel_rfl))) ?_
      refine awp_exit [1, 3] [21800] (S' := ⟨[(1, .P 21800), (3, .I xt3_9h)], [(21800, .raw [.ro Tag.t_api_Replica p0.Replicas, .ro Tag.t_bool p0.Up, .I p0.Leader, .I p0.Epoch])]⟩) (by kernel_rfl) ?_
      have hr := Option.some.inj h
      subst hr
      exact ⟨rfl, _, rfl, rfl⟩
  · rintro e S ⟨rfl, xt3_9, rfl, rfl⟩
    refine ⟨_, Turns.refl, ?_⟩
    refine awp_seq ?_
    refine awp_seq ?_
    refine awp_region L 238 [] [] [] [1, 3, 31] [21800] (cs := []) (S' := ⟨[(1, .P 21800), (3, .I xt3_9), (31, .B ((decide (xt3_9 < 0))))], [(21800, .raw [.ro Tag.t_api_Replica p0.Replicas, .ro Tag.t_bool p0.Up, .I p0.Leader, .I p0.Epoch])]⟩) (by kernel_rfl) trivial ?_
    rcases ite_some h with ⟨c4, h⟩ | ⟨c4, h⟩
    · refine awp_true (b := (decide (xt3_9 < 0))) (by kernel_rfl) (decide_eq_true c4) ?_
      refine awp_seq ?_
      refine awp_region L 241 [] [] [] [2] [] (cs := []) (S' := ⟨[(2, .N)], []⟩) (by kernel_rfl) trivial ?_
      refine awp_ret ?_
      have hr := Option.some.inj h
      subst hr
      exact ⟨.inr rfl, .N, by kernel_rfl, by kernel_rfl, by kernel_rfl⟩
    · refine awp_false (b := (decide (xt3_9 < 0))) (by kernel_rfl) (decide_eq_false c4) ?_
      refine awp_skip [1, 3] [21800] (S' := ⟨[(1, .P 21800), (3, .I xt3_9)], [(21800, .raw [.ro Tag.t_api_Replica p0.Replicas, .ro Tag.t_bool p0.Up, .I p0.Leader, .I p0.Epoch])]⟩) (by kernel_rfl) ?_
      refine awp_seq ?_
      obtain ⟨g3, h⟩ := guard_some h
      obtain ⟨a1, h1, h⟩ := bind_some h
      refine awp_region L 243 [] [(5, .cv (.ro Tag.t_sl_uint8 a1))] [] [2] [] (cs := [(0 : Int) ≤ xt3_9, (xt3_9 : Int) < (p0.Replicas.length : Int), PCall V P 22 [.agg [.I (((p0.Replicas.getD (Int.toNat xt3_9) z_api_Replica)).Epoch), .I (((p0.Replicas.getD (Int.toNat xt3_9) z_api_Replica)).Vote), .I (((p0.Replicas.getD (Int.toNat xt3_9) z_api_Replica)).Commit), .ro Tag.t_api_Entry (((p0.Replicas.getD (Int.toNat xt3_9) z_api_Replica)).Log)]] (.cv (.ro Tag.t_sl_uint8 a1)), True]) (S' := ⟨[(2, .cv (.ro Tag.t_sl_uint8 a1))], []⟩) (by kernel_rfl) (And.intro g3.1 (And.intro g3.2 (And.intro (workflowref52_Committed.ok h1) trivial))) ?_
      refine awp_ret ?_
      have hr := Option.some.inj h
      subst hr
      exact ⟨.inr rfl, .cv (.ro Tag.t_sl_uint8 a1), by kernel_rfl, by kernel_rfl, by kernel_rfl⟩

theorem workflowref55_Committed.okE {K : Nat} {p0 : workflowref55_Group} {r : List (List UInt8)} (h : workflowref55_Committed K p0 = some r) : ECall V P 13 [.agg [.ro Tag.t_api_Replica p0.Replicas, .ro Tag.t_bool p0.Up, .I p0.Leader, .I p0.Epoch]] [] [] (.cv (.ro Tag.t_sl_uint8 r)) [] :=
  ecall_of (fn := Try.f13) (n := 38) (m := 100) (by kernel_rfl) (by kernel_rfl) (by kernel_rfl) rfl (by kernel_rfl) (by kernel_rfl) fun Γ => workflowref55_Committed.body h

theorem workflowref55_Committed.ok {K : Nat} {p0 : workflowref55_Group} {r : List (List UInt8)} (h : workflowref55_Committed K p0 = some r) : PCall V P 13 [.agg [.ro Tag.t_api_Replica p0.Replicas, .ro Tag.t_bool p0.Up, .I p0.Leader, .I p0.Epoch]] (.cv (.ro Tag.t_sl_uint8 r)) := (workflowref55_Committed.okE h).pcall (by kernel_rfl)

def workflowref52_SameData.l15 (K : Nat) (p0 : List (List UInt8)) (p1 : List (List UInt8)) : Nat → Int → Option (Out Bool Unit)
  | 0, _ => none
  | k + 1, xt5_15h => (if xt5_15h < (p0.length : Int) then (if (0 : Int) ≤ xt5_15h ∧ (xt5_15h : Int) < (p0.length : Int) then (if (xt5_15h : Int) < (p1.length : Int) then (Option.bind (workflowref52_Agree K ((⟨0, (p0.getD (Int.toNat xt5_15h) ([] : List UInt8))⟩ : api_Entry)) ((⟨0, (p1.getD (Int.toNat xt5_15h) ([] : List UInt8))⟩ : api_Entry))) (fun a1 => (if a1 = true then workflowref52_SameData.l15 K p0 p1 k ((IntKind.i64.wrap (xt5_15h + 1))) else some (Out.done false)))) else none) else none) else some (Out.go ()))

def workflowref52_SameData (K : Nat) (p0 : List (List UInt8)) (p1 : List (List UInt8)) : Option Bool := (if (p0.length : Int) ≠ (p1.length : Int) then some false else (obind (workflowref52_SameData.l15 K p0 p1 K 0 : Option (Out Bool Unit)) (fun r => r) (fun _ => some true)))

theorem workflowref52_SameData.body {Γ : Ent} {K : Nat} {p0 : List (List UInt8)} {p1 : List (List UInt8)} {r : Bool} (h : workflowref52_SameData K p0 p1 = some r) : AWp V P 29 100 Γ (Try.f10.body.getD .skip) (EndsE P V Try.f10 (.B r) []) ⟨args0 0 [.cv (.ro Tag.t_sl_uint8 p0), .cv (.ro Tag.t_sl_uint8 p1)], []⟩ := by
  unfold workflowref52_SameData at h
  refine awp_seq ?_
  refine awp_region L 200 [] [] [] [0, 1] [] (cs := []) (S' := ⟨[(0, .cv (.ro Tag.t_sl_uint8 p0)), (1, .cv (.ro Tag.t_sl_uint8 p1))], []⟩) (by kernel_rfl) trivial ?_
  refine awp_seq ?_
  refine awp_seq ?_
  refine awp_region L 202 [] [] [] [0, 1, 10] [] (cs := []) (S' := ⟨[(0, .cv (.ro Tag.t_sl_uint8 p0)), (1, .cv (.ro Tag.t_sl_uint8 p1)), (10, .B ((decide ((p0.length : Int) ≠ (p1.length : Int)))))], []⟩) (by kernel_rfl) trivial ?_
  rcases ite_some h with ⟨c1, h⟩ | ⟨c1, h⟩
  · refine awp_true (b := (decide ((p0.length : Int) ≠ (p1.length : Int)))) (by kernel_rfl) (decide_eq_true c1) ?_
    refine awp_seq ?_
    refine awp_region L 208 [] [] [] [4] [] (cs := []) (S' := ⟨[(4, .B false)], []⟩) (by kernel_rfl) trivial ?_
    refine awp_ret ?_
    have hr := Option.some.inj h
    subst hr
    exact ⟨.inr rfl, .B false, by kernel_rfl, by kernel_rfl, by kernel_rfl⟩
  · refine awp_false (b := (decide ((p0.length : Int) ≠ (p1.length : Int)))) (by kernel_rfl) (decide_eq_false c1) ?_
    refine awp_skip [0, 1] [] (S' := ⟨[(0, .cv (.ro Tag.t_sl_uint8 p0)), (1, .cv (.ro Tag.t_sl_uint8 p1))], []⟩) (by kernel_rfl) ?_
    refine awp_seq ?_
    refine awp_seq ?_
    refine awp_region L 210 [] [] [] [0, 1, 5] [] (cs := []) (S' := ⟨[(0, .cv (.ro Tag.t_sl_uint8 p0)), (1, .cv (.ro Tag.t_sl_uint8 p1)), (5, .I 0)], []⟩) (by kernel_rfl) trivial ?_
    refine awp_block ?_
    refine awp_keep (ts := [0, 1, 5]) (ids := []) (S' := ⟨[(0, .cv (.ro Tag.t_sl_uint8 p0)), (1, .cv (.ro Tag.t_sl_uint8 p1)), (5, .I 0)], []⟩) (by kernel_rfl) ?_
    obtain ⟨o1, hp1, h⟩ := obind_some h
    refine awp_conseq (Q' := fun e S => (e = .exit 0 ∧ S = ⟨[], []⟩ ∧ Out.go () = o1) ∨ (e = .ret ∧ ∃ a, Out.done a = o1 ∧ EndsE P V Try.f10 (.B a) [] .ret S)) (awp_loop (fun k S => ∃ xt5_15h : Int, S = ⟨[(0, .cv (.ro Tag.t_sl_uint8 p0)), (1, .cv (.ro Tag.t_sl_uint8 p1)), (5, .I xt5_15h)], []⟩ ∧ workflowref52_SameData.l15 K p0 p1 k xt5_15h = some o1) ?_ ⟨_, rfl, hp1⟩) ?_
    · clear h hp1
      intro k S hS
      obtain ⟨xt5_15h, rfl, h⟩ := hS
      cases k with
      | zero => cases h
      | succ k =>
      unfold workflowref52_SameData.l15 at h
      refine awp_seq ?_
      refine awp_seq ?_
      refine awp_region L 212 [] [] [] [0, 1, 5, 14] [] (cs := []) (S' := ⟨[(0, .cv (.ro Tag.t_sl_uint8 p0)), (1, .cv (.ro Tag.t_sl_uint8 p1)), (5, .I xt5_15h), (14, .B ((decide (xt5_15h < (p0.length : Int)))))], []⟩) (by kernel_rfl) trivial ?_
      rcases ite_some h with ⟨c2, h⟩ | ⟨c2, h⟩
      · refine awp_true (b := (decide (xt5_15h < (p0.length : Int)))) (by kernel_rfl) (decide_eq_true c2) ?_
        refine awp_skip [0, 1, 5] [] (S' := ⟨[(0, .cv (.ro Tag.t_sl_uint8 p0)), (1, .cv (.ro Tag.t_sl_uint8 p1)), (5, .I xt5_15h)], []⟩) (by kernel_rfl) ?_
        refine awp_seq ?_
        refine awp_block ?_
        refine awp_seq ?_
        obtain ⟨g1, h⟩ := guard_some h
        obtain ⟨g2, h⟩ := guard_some h
        obtain ⟨a1, h1, h⟩ := bind_some h
        refine awp_draw L mixed 217 [] [(10, .B a1)] [] [] 12 [0, 1, 5, 28] [] (cs := [(0 : Int) ≤ xt5_15h, (xt5_15h : Int) < (p0.length : Int), (0 : Int) ≤ xt5_15h, (xt5_15h : Int) < (p1.length : Int), PCall V P 20 [.agg [.I 0, .ro Tag.t_uint8 ((p0.getD (Int.toNat xt5_15h) ([] : List UInt8)))], .agg [.I 0, .ro Tag.t_uint8 ((p1.getD (Int.toNat xt5_15h) ([] : List UInt8)))]] (.B a1), True]) (S' := ⟨[(0, .cv (.ro Tag.t_sl_uint8 p0)), (1, .cv (.ro Tag.t_sl_uint8 p1)), (5, .I xt5_15h), (28, .B (!a1))], []⟩) (by kernel_rfl) (And.intro g1.1 (And.intro g1.2 (And.intro g1.1 (And.intro g2 (And.intro (workflowref52_Agree.ok h1) trivial))))) ?_
        rcases ite_some h with ⟨c3, h⟩ | ⟨c3, h⟩
        · refine awp_false (b := (!a1)) (by kernel_rfl) (congrArg Bool.not (c3)) ?_
          refine awp_skip [0, 1, 5] [] (S' := ⟨[(0, .cv (.ro Tag.t_sl_uint8 p0)), (1, .cv (.ro Tag.t_sl_uint8 p1)), (5, .I xt5_15h)], []⟩) (by kernel_rfl) ?_
          refine awp_region L 232 [] [] [] [0, 1, 5] [] (cs := []) (S' := ⟨[(0, .cv (.ro Tag.t_sl_uint8 p0)), (1, .cv (.ro Tag.t_sl_uint8 p1)), (5, .I ((IntKind.i64.wrap (xt5_15h + 1))))], []⟩) (by kernel_rfl) trivial ?_
          exact ⟨k, Nat.lt_succ_self k, _, rfl, h⟩
        · refine awp_true (b := (!a1)) (by kernel_rfl) (congrArg Bool.not (eq_false_of_ne_true c3)) ?_
          refine awp_seq ?_
          refine awp_region L 230 [] [] [] [4] [] (cs := []) (S' := ⟨[(4, .B false)], []⟩) (by kernel_rfl) trivial ?_
          refine awp_ret ?_
          have hr := Option.some.inj h
          subst hr
          exact .inr ⟨rfl, _, rfl, ⟨.inr rfl, .B false, by kernel_rfl, by kernel_rfl, by kernel_rfl⟩⟩
      · refine awp_false (b := (decide (xt5_15h < (p0.length : Int)))) (by kernel_rfl) (decide_eq_false c2) ?_
        refine awp_exit [] [] (S' := ⟨[], []⟩) (by kernel_rfl) ?_
        have hr := Option.some.inj h
        subst hr
        exact .inl ⟨rfl, rfl, rfl⟩
    · rintro e S (⟨rfl, rfl, rfl⟩ | ⟨rfl, a, rfl, hr⟩)
      · rcases h with ⟨_, e1, h⟩ | ⟨_, e1, h⟩
        · cases e1
        · have e2 := Out.go.inj e1
          subst e2
          refine ⟨_, Turns.refl, ?_⟩
          refine awp_seq ?_
          refine awp_region L 236 [] [] [] [4] [] (cs := []) (S' := ⟨[(4, .B true)], []⟩) (by kernel_rfl) trivial ?_
          refine awp_ret ?_
          have hr := Option.some.inj h
          subst hr
          exact ⟨.inr rfl, .B true, by kernel_rfl, by kernel_rfl, by kernel_rfl⟩
      · rcases h with ⟨_, e1, h⟩ | ⟨_, e1, h⟩
        · have e2 := Out.done.inj e1
          subst e2
          subst h
          exact ⟨_, Turns.refl, hr⟩
        · cases e1

theorem workflowref52_SameData.okE {K : Nat} {p0 : List (List UInt8)} {p1 : List (List UInt8)} {r : Bool} (h : workflowref52_SameData K p0 p1 = some r) : ECall V P 10 [.cv (.ro Tag.t_sl_uint8 p0), .cv (.ro Tag.t_sl_uint8 p1)] [] [] (.B r) [] :=
  ecall_of (fn := Try.f10) (n := 29) (m := 100) (by kernel_rfl) (by kernel_rfl) (by kernel_rfl) rfl (by kernel_rfl) (by kernel_rfl) fun Γ => workflowref52_SameData.body h

theorem workflowref52_SameData.ok {K : Nat} {p0 : List (List UInt8)} {p1 : List (List UInt8)} {r : Bool} (h : workflowref52_SameData K p0 p1 = some r) : PCall V P 10 [.cv (.ro Tag.t_sl_uint8 p0), .cv (.ro Tag.t_sl_uint8 p1)] (.B r) := (workflowref52_SameData.okE h).pcall (by kernel_rfl)

def bytes_Equal (K : Nat) (p0 : List UInt8) (p1 : List UInt8) : Option Bool := some ((decide ((p0.map (fun b => b)) = (p1.map (fun b => b)))))

theorem bytes_Equal.body {Γ : Ent} {K : Nat} {p0 : List UInt8} {p1 : List UInt8} {r : Bool} (h : bytes_Equal K p0 p1 = some r) : AWp V P 10 100 Γ (Try.f59.body.getD .skip) (EndsE P V Try.f59 (.B r) []) ⟨args0 0 [.cv (.ro Tag.t_uint8 p0), .cv (.ro Tag.t_uint8 p1)], []⟩ := by
  unfold bytes_Equal at h
  refine awp_seq ?_
  refine awp_region L 200 [] [] [] [0, 1] [] (cs := []) (S' := ⟨[(0, .cv (.ro Tag.t_uint8 p0)), (1, .cv (.ro Tag.t_uint8 p1))], []⟩) (by kernel_rfl) trivial ?_
  refine awp_seq ?_
  refine awp_region L 202 [] [] [] [4] [] (cs := []) (S' := ⟨[(4, .B ((decide ((p0.map (fun b => b)) = (p1.map (fun b => b))))))], []⟩) (by kernel_rfl) trivial ?_
  refine awp_ret ?_
  have hr := Option.some.inj h
  subst hr
  exact ⟨.inr rfl, .B ((decide ((p0.map (fun b => b)) = (p1.map (fun b => b))))), by kernel_rfl, by kernel_rfl, by kernel_rfl⟩

theorem bytes_Equal.okE {K : Nat} {p0 : List UInt8} {p1 : List UInt8} {r : Bool} (h : bytes_Equal K p0 p1 = some r) : ECall V P 59 [.cv (.ro Tag.t_uint8 p0), .cv (.ro Tag.t_uint8 p1)] [] [] (.B r) [] :=
  ecall_of (fn := Try.f59) (n := 10) (m := 100) (by kernel_rfl) (by kernel_rfl) (by kernel_rfl) rfl (by kernel_rfl) (by kernel_rfl) fun Γ => bytes_Equal.body h

theorem bytes_Equal.ok {K : Nat} {p0 : List UInt8} {p1 : List UInt8} {r : Bool} (h : bytes_Equal K p0 p1 = some r) : PCall V P 59 [.cv (.ro Tag.t_uint8 p0), .cv (.ro Tag.t_uint8 p1)] (.B r) := (bytes_Equal.okE h).pcall (by kernel_rfl)

def replog_agree (K : Nat) (p0 : api_Entry) (p1 : api_Entry) : Option Bool := (if p0.Epoch = p1.Epoch then (Option.bind (bytes_Equal K p0.Data p1.Data) (fun a1 => some a1)) else some false)

theorem replog_agree.body {Γ : Ent} {K : Nat} {p0 : api_Entry} {p1 : api_Entry} {r : Bool} (h : replog_agree K p0 p1 = some r) : AWp V P 17 100 Γ (Try.f39.body.getD .skip) (EndsE P V Try.f39 (.B r) []) ⟨args0 0 [.agg [.I p0.Epoch, .ro Tag.t_uint8 p0.Data], .agg [.I p1.Epoch, .ro Tag.t_uint8 p1.Data]], []⟩ := by
  unfold replog_agree at h
  refine awp_seq ?_
  refine awp_region L 200 [] [] [] [2, 3] [200, 201] (cs := []) (S' := ⟨[(2, .P 200), (3, .P 201)], [(200, .raw [.I p0.Epoch, .ro Tag.t_uint8 p0.Data]), (201, .raw [.I p1.Epoch, .ro Tag.t_uint8 p1.Data])]⟩) (by kernel_rfl) trivial ?_
  refine awp_seq ?_
  rcases ite_some h with ⟨c1, h⟩ | ⟨c1, h⟩
  · obtain ⟨a1, h1, h⟩ := bind_some h
    refine awp_region L 204 [(5, true)] [(10, .B a1)] [] [4] [] (cs := [(decide (p0.Epoch = p1.Epoch)) = true, PCall V P 59 [.cv (.ro Tag.t_uint8 p0.Data), .cv (.ro Tag.t_uint8 p1.Data)] (.B a1), True]) (S' := ⟨[(4, .B a1)], []⟩) (by kernel_rfl) (And.intro (decide_eq_true c1) (And.intro (bytes_Equal.ok h1) trivial)) ?_
    refine awp_ret ?_
    have hr := Option.some.inj h
    subst hr
    exact ⟨.inr rfl, .B a1, by kernel_rfl, by kernel_rfl, by kernel_rfl⟩
  · refine awp_region L 204 [(5, false)] [] [] [4] [] (cs := [(decide (p0.Epoch = p1.Epoch)) = false]) (S' := ⟨[(4, .B false)], []⟩) (by kernel_rfl) (decide_eq_false c1) ?_
    refine awp_ret ?_
    have hr := Option.some.inj h
    subst hr
    exact ⟨.inr rfl, .B false, by kernel_rfl, by kernel_rfl, by kernel_rfl⟩

theorem replog_agree.okE {K : Nat} {p0 : api_Entry} {p1 : api_Entry} {r : Bool} (h : replog_agree K p0 p1 = some r) : ECall V P 39 [.agg [.I p0.Epoch, .ro Tag.t_uint8 p0.Data], .agg [.I p1.Epoch, .ro Tag.t_uint8 p1.Data]] [] [] (.B r) [] :=
  ecall_of (fn := Try.f39) (n := 17) (m := 100) (by kernel_rfl) (by kernel_rfl) (by kernel_rfl) rfl (by kernel_rfl) (by kernel_rfl) fun Γ => replog_agree.body h

theorem replog_agree.ok {K : Nat} {p0 : api_Entry} {p1 : api_Entry} {r : Bool} (h : replog_agree K p0 p1 = some r) : PCall V P 39 [.agg [.I p0.Epoch, .ro Tag.t_uint8 p0.Data], .agg [.I p1.Epoch, .ro Tag.t_uint8 p1.Data]] (.B r) := (replog_agree.okE h).pcall (by kernel_rfl)

def replog_Common.l7 (K : Nat) (p0 : api_Replica) (p1 : api_Replica) : Nat → Int → Option Int
  | 0, _ => none
  | k + 1, xt5_7h => (if xt5_7h < (p0.Log.length : Int) then (if xt5_7h < (p1.Log.length : Int) then (if (0 : Int) ≤ xt5_7h ∧ (xt5_7h : Int) < (p0.Log.length : Int) then (if (xt5_7h : Int) < (p1.Log.length : Int) then (Option.bind (replog_agree K ((p0.Log.getD (Int.toNat xt5_7h) z_api_Entry)) ((p1.Log.getD (Int.toNat xt5_7h) z_api_Entry))) (fun a1 => (if a1 = true then replog_Common.l7 K p0 p1 k ((IntKind.i64.wrap (xt5_7h + 1))) else some xt5_7h))) else none) else none) else some xt5_7h) else some xt5_7h)

def replog_Common (K : Nat) (p0 : api_Replica) (p1 : api_Replica) : Option Int := (Option.bind (replog_Common.l7 K p0 p1 K 0 : Option Int) (fun xt5_7 => some xt5_7))

theorem replog_Common.body {Γ : Ent} {K : Nat} {p0 : api_Replica} {p1 : api_Replica} {r : Int} (h : replog_Common K p0 p1 = some r) : AWp V P 34 100 Γ (Try.f23.body.getD .skip) (EndsE P V Try.f23 (.I r) []) ⟨args0 0 [.agg [.I p0.Epoch, .I p0.Vote, .I p0.Commit, .ro Tag.t_api_Entry p0.Log], .agg [.I p1.Epoch, .I p1.Vote, .I p1.Commit, .ro Tag.t_api_Entry p1.Log]], []⟩ := by
  unfold replog_Common at h
  refine awp_seq ?_
  refine awp_region L 200 [] [] [] [2, 3] [200, 201] (cs := []) (S' := ⟨[(2, .P 200), (3, .P 201)], [(200, .raw [.I p0.Epoch, .I p0.Vote, .I p0.Commit, .ro Tag.t_api_Entry p0.Log]), (201, .raw [.I p1.Epoch, .I p1.Vote, .I p1.Commit, .ro Tag.t_api_Entry p1.Log])]⟩) (by kernel_rfl) trivial ?_
  refine awp_seq ?_
  refine awp_region L 204 [] [] [] [2, 3, 5] [200, 201] (cs := []) (S' := ⟨[(2, .P 200), (3, .P 201), (5, .I 0)], [(200, .raw [.I p0.Epoch, .I p0.Vote, .I p0.Commit, .ro Tag.t_api_Entry p0.Log]), (201, .raw [.I p1.Epoch, .I p1.Vote, .I p1.Commit, .ro Tag.t_api_Entry p1.Log])]⟩) (by kernel_rfl) trivial ?_
  refine awp_seq ?_
  refine awp_block ?_
  refine awp_turn (Turns.trans (Turns.keep [2, 3, 5] [200, 201] (S' := ⟨[(2, .P 200), (3, .P 201), (5, .I 0)], [(200, .raw [.I p0.Epoch, .I p0.Vote, .I p0.Commit, .ro Tag.t_api_Entry p0.Log]), (201, .raw [.I p1.Epoch, .I p1.Vote, .I p1.Commit, .ro Tag.t_api_Entry p1.Log])]⟩) (by kernel_rfl)) (Turns.ren [(200, 21500), (201, 21501)] (S' := ⟨[(2, .P 21500), (3, .P 21501), (5, .I 0)], [(21500, .raw [.I p0.Epoch, .I p0.Vote, .I p0.Commit, .ro Tag.t_api_Entry p0.Log]), (21501, .raw [.I p1.Epoch, .I p1.Vote, .I p1.Commit, .ro Tag.t_api_Entry p1.Log])]⟩) (by kernel_rfl) (by kernel_rfl))) ?_
  refine awp_keep (ts := [2, 3, 5]) (ids := [21500, 21501]) (S' := ⟨[(2, .P 21500), (3, .P 21501), (5, .I 0)], [(21500, .raw [.I p0.Epoch, .I p0.Vote, .I p0.Commit, .ro Tag.t_api_Entry p0.Log]), (21501, .raw [.I p1.Epoch, .I p1.Vote, .I p1.Commit, .ro Tag.t_api_Entry p1.Log])]⟩) (by kernel_rfl) ?_
  obtain ⟨o1, hp1, h⟩ := bind_some h
  refine awp_conseq (Q' := fun e S => (e = .exit 0 ∧ ∃ xt5_7 : Int, S = ⟨[(5, .I xt5_7)], []⟩ ∧ xt5_7 = o1)) (awp_loop (fun k S => ∃ xt5_7h : Int, S = ⟨[(2, .P 21500), (3, .P 21501), (5, .I xt5_7h)], [(21500, .raw [.I p0.Epoch, .I p0.Vote, .I p0.Commit, .ro Tag.t_api_Entry p0.Log]), (21501, .raw [.I p1.Epoch, .I p1.Vote, .I p1.Commit, .ro Tag.t_api_Entry p1.Log])]⟩ ∧ replog_Common.l7 K p0 p1 k xt5_7h = some o1) ?_ ⟨_, rfl, hp1⟩) ?_
  · clear h hp1
    intro k S hS
    obtain ⟨xt5_7h, rfl, h⟩ := hS
    cases k with
    | zero => cases h
    | succ k =>
    unfold replog_Common.l7 at h
    refine awp_seq ?_
    refine awp_seq ?_
    rcases ite_some h with ⟨c1, h⟩ | ⟨c1, h⟩
    · rcases ite_some h with ⟨c2, h⟩ | ⟨c2, h⟩
      · obtain ⟨g1, h⟩ := guard_some h
        obtain ⟨g2, h⟩ := guard_some h
        obtain ⟨a1, h1, h⟩ := bind_some h
        refine awp_draw L mixed 206 [(5, true), (12, true)] [(23, .B a1)] [] [] 25 [2, 3, 5, 30] [21500, 21501] (cs := [(decide (xt5_7h < (p0.Log.length : Int))) = true, (decide (xt5_7h < (p1.Log.length : Int))) = true, (0 : Int) ≤ xt5_7h, (xt5_7h : Int) < (p0.Log.length : Int), (0 : Int) ≤ xt5_7h, (xt5_7h : Int) < (p1.Log.length : Int), PCall V P 39 [.agg [.I (((p0.Log.getD (Int.toNat xt5_7h) z_api_Entry)).Epoch), .ro Tag.t_uint8 (((p0.Log.getD (Int.toNat xt5_7h) z_api_Entry)).Data)], .agg [.I (((p1.Log.getD (Int.toNat xt5_7h) z_api_Entry)).Epoch), .ro Tag.t_uint8 (((p1.Log.getD (Int.toNat xt5_7h) z_api_Entry)).Data)]] (.B a1), True]) (S' := ⟨[(2, .P 21500), (3, .P 21501), (5, .I xt5_7h), (30, .B a1)], [(21500, .raw [.I p0.Epoch, .I p0.Vote, .I p0.Commit, .ro Tag.t_api_Entry p0.Log]), (21501, .raw [.I p1.Epoch, .I p1.Vote, .I p1.Commit, .ro Tag.t_api_Entry p1.Log])]⟩) (by kernel_rfl) (And.intro (decide_eq_true c1) (And.intro (decide_eq_true c2) (And.intro g1.1 (And.intro g1.2 (And.intro g1.1 (And.intro g2 (And.intro (replog_agree.ok h1) trivial))))))) ?_
        rcases ite_some h with ⟨c3, h⟩ | ⟨c3, h⟩
        · refine awp_true (b := a1) (by kernel_rfl) (c3) ?_
          refine awp_skip [2, 3, 5] [21500, 21501] (S' := ⟨[(2, .P 21500), (3, .P 21501), (5, .I xt5_7h)], [(21500, .raw [.I p0.Epoch, .I p0.Vote, .I p0.Commit, .ro Tag.t_api_Entry p0.Log]), (21501, .raw [.I p1.Epoch, .I p1.Vote, .I p1.Commit, .ro Tag.t_api_Entry p1.Log])]⟩) (by kernel_rfl) ?_
          refine awp_block ?_
          refine awp_region L 232 [] [] [] [2, 3, 5] [21500, 21501] (cs := []) (S' := ⟨[(2, .P 21500), (3, .P 21501), (5, .I ((IntKind.i64.wrap (xt5_7h + 1))))], [(21500, .raw [.I p0.Epoch, .I p0.Vote, .I p0.Commit, .ro Tag.t_api_Entry p0.Log]), (21501, .raw [.I p1.Epoch, .I p1.Vote, .I p1.Commit, .ro Tag.t_api_Entry p1.Log])]⟩) (by kernel_rfl) trivial ?_
          exact ⟨k, Nat.lt_succ_self k, _, rfl, h⟩
        · refine awp_false (b := a1) (by kernel_rfl) (eq_false_of_ne_true c3) ?_
          refine awp_exit [5] [] (S' := ⟨[(5, .I xt5_7h)], []⟩) (by kernel_rfl) ?_
          have hr := Option.some.inj h
          subst hr
          exact ⟨rfl, _, rfl, rfl⟩
      · refine awp_draw L mixed 206 [(5, true), (12, false)] [] [] [] 25 [2, 3, 5, 30] [21500, 21501] (cs := [(decide (xt5_7h < (p0.Log.length : Int))) = true, (decide (xt5_7h < (p1.Log.length : Int))) = false]) (S' := ⟨[(2, .P 21500), (3, .P 21501), (5, .I xt5_7h), (30, .B false)], [(21500, .raw [.I p0.Epoch, .I p0.Vote, .I p0.Commit, .ro Tag.t_api_Entry p0.Log]), (21501, .raw [.I p1.Epoch, .I p1.Vote, .I p1.Commit, .ro Tag.t_api_Entry p1.Log])]⟩) (by kernel_rfl) (And.intro (decide_eq_true c1) (decide_eq_false c2)) ?_
        refine awp_false (b := false) (by kernel_rfl) (rfl) ?_
        refine awp_exit [5] [] (S' := ⟨[(5, .I xt5_7h)], []⟩) (by kernel_rfl) ?_
        have hr := Option.some.inj h
        subst hr
        exact ⟨rfl, _, rfl, rfl⟩
    · refine awp_draw L mixed 206 [(5, false)] [] [] [] 25 [2, 3, 5, 30] [21500, 21501] (cs := [(decide (xt5_7h < (p0.Log.length : Int))) = false]) (S' := ⟨[(2, .P 21500), (3, .P 21501), (5, .I xt5_7h), (30, .B false)], [(21500, .raw [.I p0.Epoch, .I p0.Vote, .I p0.Commit, .ro Tag.t_api_Entry p0.Log]), (21501, .raw [.I p1.Epoch, .I p1.Vote, .I p1.Commit, .ro Tag.t_api_Entry p1.Log])]⟩) (by kernel_rfl) (decide_eq_false c1) ?_
      refine awp_false (b := false) (by kernel_rfl) (rfl) ?_
      refine awp_exit [5] [] (S' := ⟨[(5, .I xt5_7h)], []⟩) (by kernel_rfl) ?_
      have hr := Option.some.inj h
      subst hr
      exact ⟨rfl, _, rfl, rfl⟩
  · rintro e S ⟨rfl, xt5_7, rfl, rfl⟩
    refine ⟨_, Turns.refl, ?_⟩
    refine awp_seq ?_
    refine awp_region L 236 [] [] [] [4] [] (cs := []) (S' := ⟨[(4, .I xt5_7)], []⟩) (by kernel_rfl) trivial ?_
    refine awp_ret ?_
    have hr := Option.some.inj h
    subst hr
    exact ⟨.inr rfl, .I xt5_7, by kernel_rfl, by kernel_rfl, by kernel_rfl⟩

theorem replog_Common.okE {K : Nat} {p0 : api_Replica} {p1 : api_Replica} {r : Int} (h : replog_Common K p0 p1 = some r) : ECall V P 23 [.agg [.I p0.Epoch, .I p0.Vote, .I p0.Commit, .ro Tag.t_api_Entry p0.Log], .agg [.I p1.Epoch, .I p1.Vote, .I p1.Commit, .ro Tag.t_api_Entry p1.Log]] [] [] (.I r) [] :=
  ecall_of (fn := Try.f23) (n := 34) (m := 100) (by kernel_rfl) (by kernel_rfl) (by kernel_rfl) rfl (by kernel_rfl) (by kernel_rfl) fun Γ => replog_Common.body h

theorem replog_Common.ok {K : Nat} {p0 : api_Replica} {p1 : api_Replica} {r : Int} (h : replog_Common K p0 p1 = some r) : PCall V P 23 [.agg [.I p0.Epoch, .I p0.Vote, .I p0.Commit, .ro Tag.t_api_Entry p0.Log], .agg [.I p1.Epoch, .I p1.Vote, .I p1.Commit, .ro Tag.t_api_Entry p1.Log]] (.I r) := (replog_Common.okE h).pcall (by kernel_rfl)

def group_Safe.l21 (K : Nat) (p0 : group_Group) (xt10_7h : Int) : Nat → Int → Option (Out Bool Unit)
  | 0, _ => none
  | k + 1, xt20_21h => (if xt20_21h < ((slc p0.Replicas 0 xt10_7h).length : Int) then (if (0 : Int) ≤ xt20_21h ∧ (xt20_21h : Int) < ((slc p0.Replicas 0 xt10_7h).length : Int) then (Option.bind (replog_Common K ((p0.Replicas.getD (Int.toNat xt10_7h) z_api_Replica)) (((slc p0.Replicas 0 xt10_7h).getD (Int.toNat xt20_21h) z_api_Replica))) (fun a1 => (if a1 < (if (((slc p0.Replicas 0 xt10_7h).getD (Int.toNat xt20_21h) z_api_Replica)).Commit < ((p0.Replicas.getD (Int.toNat xt10_7h) z_api_Replica)).Commit then (((slc p0.Replicas 0 xt10_7h).getD (Int.toNat xt20_21h) z_api_Replica)).Commit else ((p0.Replicas.getD (Int.toNat xt10_7h) z_api_Replica)).Commit) then some (Out.done false) else group_Safe.l21 K p0 xt10_7h k ((IntKind.i64.wrap (xt20_21h + 1)))))) else none) else some (Out.go ()))

def group_Safe.l7 (K : Nat) (p0 : group_Group) : Nat → Int → Option (Out Bool Unit)
  | 0, _ => none
  | k + 1, xt10_7h => (if xt10_7h < (p0.Replicas.length : Int) then (if (0 : Int) ≤ xt10_7h ∧ (xt10_7h : Int) < (p0.Replicas.length : Int) then (if xt10_7h ≤ (p0.Replicas.length : Int) then (obind (group_Safe.l21 K p0 xt10_7h K 0 : Option (Out Bool Unit)) Out.done (fun _ => group_Safe.l7 K p0 k ((IntKind.i64.wrap (xt10_7h + 1))))) else none) else none) else some (Out.go ()))

def group_Safe (K : Nat) (p0 : group_Group) : Option Bool := (obind (group_Safe.l7 K p0 K 0 : Option (Out Bool Unit)) (fun r => r) (fun _ => some true))

theorem group_Safe.body {Γ : Ent} {K : Nat} {p0 : group_Group} {r : Bool} (h : group_Safe K p0 = some r) : AWp V P 35 100 Γ (Try.f14.body.getD .skip) (EndsE P V Try.f14 (.B r) []) ⟨args0 0 [.agg [.ro Tag.t_api_Replica p0.Replicas, .ro Tag.t_bool p0.Up, .I p0.Leader, .I p0.Epoch]], []⟩ := by
  unfold group_Safe at h
  refine awp_seq ?_
  refine awp_region L 200 [] [] [] [1] [200] (cs := []) (S' := ⟨[(1, .P 200)], [(200, .raw [.ro Tag.t_api_Replica p0.Replicas, .ro Tag.t_bool p0.Up, .I p0.Leader, .I p0.Epoch])]⟩) (by kernel_rfl) trivial ?_
  refine awp_seq ?_
  refine awp_seq ?_
  refine awp_region L 203 [] [] [] [1, 8, 9, 10] [200] (cs := []) (S' := ⟨[(1, .P 200), (8, .cv (.ro Tag.t_api_Replica p0.Replicas)), (9, .I (p0.Replicas.length : Int)), (10, .I 0)], [(200, .raw [.ro Tag.t_api_Replica p0.Replicas, .ro Tag.t_bool p0.Up, .I p0.Leader, .I p0.Epoch])]⟩) (by kernel_rfl) trivial ?_
  refine awp_block ?_
  refine awp_turn (Turns.trans (Turns.keep [1, 8, 9, 10] [200] (S' := ⟨[(1, .P 200), (8, .cv (.ro Tag.t_api_Replica p0.Replicas)), (9, .I (p0.Replicas.length : Int)), (10, .I 0)], [(200, .raw [.ro Tag.t_api_Replica p0.Replicas, .ro Tag.t_bool p0.Up, .I p0.Leader, .I p0.Epoch])]⟩) (by kernel_rfl)) (Turns.ren [(200, 21500)] (S' := ⟨[(1, .P 21500), (8, .cv (.ro Tag.t_api_Replica p0.Replicas)), (9, .I (p0.Replicas.length : Int)), (10, .I 0)], [(21500, .raw [.ro Tag.t_api_Replica p0.Replicas, .ro Tag.t_bool p0.Up, .I p0.Leader, .I p0.Epoch])]⟩) (by kernel_rfl) (by kernel_rfl))) ?_
  refine awp_keep (ts := [1, 8, 9, 10]) (ids := [21500]) (S' := ⟨[(1, .P 21500), (8, .cv (.ro Tag.t_api_Replica p0.Replicas)), (9, .I (p0.Replicas.length : Int)), (10, .I 0)], [(21500, .raw [.ro Tag.t_api_Replica p0.Replicas, .ro Tag.t_bool p0.Up, .I p0.Leader, .I p0.Epoch])]⟩) (by kernel_rfl) ?_
  obtain ⟨o2, hp2, h⟩ := obind_some h
  refine awp_conseq (Q' := fun e S => (e = .exit 0 ∧ S = ⟨[], []⟩ ∧ Out.go () = o2) ∨ (e = .ret ∧ ∃ a, Out.done a = o2 ∧ EndsE P V Try.f14 (.B a) [] .ret S)) (awp_loop (fun k S => ∃ xt10_7h : Int, S = ⟨[(1, .P 21500), (8, .cv (.ro Tag.t_api_Replica p0.Replicas)), (9, .I (p0.Replicas.length : Int)), (10, .I xt10_7h)], [(21500, .raw [.ro Tag.t_api_Replica p0.Replicas, .ro Tag.t_bool p0.Up, .I p0.Leader, .I p0.Epoch])]⟩ ∧ group_Safe.l7 K p0 k xt10_7h = some o2) ?_ ⟨_, rfl, hp2⟩) ?_
  · clear h hp2
    intro k S hS
    obtain ⟨xt10_7h, rfl, h⟩ := hS
    cases k with
    | zero => cases h
    | succ k =>
    unfold group_Safe.l7 at h
    refine awp_seq ?_
    refine awp_region L 208 [] [] [] [1, 8, 9, 10, 11] [21500] (cs := []) (S' := ⟨[(1, .P 21500), (8, .cv (.ro Tag.t_api_Replica p0.Replicas)), (9, .I (p0.Replicas.length : Int)), (10, .I xt10_7h), (11, .B ((decide (xt10_7h < (p0.Replicas.length : Int)))))], [(21500, .raw [.ro Tag.t_api_Replica p0.Replicas, .ro Tag.t_bool p0.Up, .I p0.Leader, .I p0.Epoch])]⟩) (by kernel_rfl) trivial ?_
    refine awp_seq ?_
    rcases ite_some h with ⟨c1, h⟩ | ⟨c1, h⟩
    · refine awp_true (b := (decide (xt10_7h < (p0.Replicas.length : Int)))) (by kernel_rfl) (decide_eq_true c1) ?_
      refine awp_skip [1, 8, 9, 10] [21500] (S' := ⟨[(1, .P 21500), (8, .cv (.ro Tag.t_api_Replica p0.Replicas)), (9, .I (p0.Replicas.length : Int)), (10, .I xt10_7h)], [(21500, .raw [.ro Tag.t_api_Replica p0.Replicas, .ro Tag.t_bool p0.Up, .I p0.Leader, .I p0.Epoch])]⟩) (by kernel_rfl) ?_
      refine awp_seq ?_
      refine awp_block ?_
      refine awp_seq ?_
      obtain ⟨g1, h⟩ := guard_some h
      refine awp_region L 210 [] [] [] [1, 3, 4, 8, 9, 10] [213, 21500] (cs := [(0 : Int) ≤ xt10_7h, (xt10_7h : Int) < (p0.Replicas.length : Int)]) (S' := ⟨[(1, .P 21500), (3, .I xt10_7h), (4, .P 213), (8, .cv (.ro Tag.t_api_Replica p0.Replicas)), (9, .I (p0.Replicas.length : Int)), (10, .I xt10_7h)], [(213, .raw [.I (((p0.Replicas.getD (Int.toNat xt10_7h) z_api_Replica)).Epoch), .I (((p0.Replicas.getD (Int.toNat xt10_7h) z_api_Replica)).Vote), .I (((p0.Replicas.getD (Int.toNat xt10_7h) z_api_Replica)).Commit), .ro Tag.t_api_Entry (((p0.Replicas.getD (Int.toNat xt10_7h) z_api_Replica)).Log)]), (21500, .raw [.ro Tag.t_api_Replica p0.Replicas, .ro Tag.t_bool p0.Up, .I p0.Leader, .I p0.Epoch])]⟩) (by kernel_rfl) (And.intro g1.1 g1.2) ?_
      refine awp_seq ?_
      obtain ⟨g2, h⟩ := guard_some h
      refine awp_region L 217 [] [] [] [1, 4, 8, 9, 10, 18, 19, 20] [213, 21500] (cs := [(0 : Int) ≤ 0, (0 : Int) ≤ xt10_7h, xt10_7h ≤ (p0.Replicas.length : Int)]) (S' := ⟨[(1, .P 21500), (4, .P 213), (8, .cv (.ro Tag.t_api_Replica p0.Replicas)), (9, .I (p0.Replicas.length : Int)), (10, .I xt10_7h), (18, .cv (.ro Tag.t_api_Replica (slc p0.Replicas 0 xt10_7h))), (19, .I (((slc p0.Replicas 0 xt10_7h).length : Int))), (20, .I 0)], [(213, .raw [.I (((p0.Replicas.getD (Int.toNat xt10_7h) z_api_Replica)).Epoch), .I (((p0.Replicas.getD (Int.toNat xt10_7h) z_api_Replica)).Vote), .I (((p0.Replicas.getD (Int.toNat xt10_7h) z_api_Replica)).Commit), .ro Tag.t_api_Entry (((p0.Replicas.getD (Int.toNat xt10_7h) z_api_Replica)).Log)]), (21500, .raw [.ro Tag.t_api_Replica p0.Replicas, .ro Tag.t_bool p0.Up, .I p0.Leader, .I p0.Epoch])]⟩) (by kernel_rfl) (And.intro (Int.le_refl _) (And.intro g1.1 g2)) ?_
      refine awp_block ?_
      refine awp_turn (Turns.trans (Turns.keep [1, 4, 8, 9, 10, 18, 19, 20] [213, 21500] (S' := ⟨[(1, .P 21500), (4, .P 213), (8, .cv (.ro Tag.t_api_Replica p0.Replicas)), (9, .I (p0.Replicas.length : Int)), (10, .I xt10_7h), (18, .cv (.ro Tag.t_api_Replica (slc p0.Replicas 0 xt10_7h))), (19, .I (((slc p0.Replicas 0 xt10_7h).length : Int))), (20, .I 0)], [(213, .raw [.I (((p0.Replicas.getD (Int.toNat xt10_7h) z_api_Replica)).Epoch), .I (((p0.Replicas.getD (Int.toNat xt10_7h) z_api_Replica)).Vote), .I (((p0.Replicas.getD (Int.toNat xt10_7h) z_api_Replica)).Commit), .ro Tag.t_api_Entry (((p0.Replicas.getD (Int.toNat xt10_7h) z_api_Replica)).Log)]), (21500, .raw [.ro Tag.t_api_Replica p0.Replicas, .ro Tag.t_bool p0.Up, .I p0.Leader, .I p0.Epoch])]⟩) (by kernel_rfl)) (Turns.ren [(213, 24301), (21500, 24300)] (S' := ⟨[(1, .P 24300), (4, .P 24301), (8, .cv (.ro Tag.t_api_Replica p0.Replicas)), (9, .I (p0.Replicas.length : Int)), (10, .I xt10_7h), (18, .cv (.ro Tag.t_api_Replica (slc p0.Replicas 0 xt10_7h))), (19, .I (((slc p0.Replicas 0 xt10_7h).length : Int))), (20, .I 0)], [(24301, .raw [.I (((p0.Replicas.getD (Int.toNat xt10_7h) z_api_Replica)).Epoch), .I (((p0.Replicas.getD (Int.toNat xt10_7h) z_api_Replica)).Vote), .I (((p0.Replicas.getD (Int.toNat xt10_7h) z_api_Replica)).Commit), .ro Tag.t_api_Entry (((p0.Replicas.getD (Int.toNat xt10_7h) z_api_Replica)).Log)]), (24300, .raw [.ro Tag.t_api_Replica p0.Replicas, .ro Tag.t_bool p0.Up, .I p0.Leader, .I p0.Epoch])]⟩) (by kernel_rfl) (by kernel_rfl))) ?_
      refine awp_keep (ts := [1, 4, 8, 9, 10, 18, 19, 20]) (ids := [24300, 24301]) (S' := ⟨[(1, .P 24300), (4, .P 24301), (8, .cv (.ro Tag.t_api_Replica p0.Replicas)), (9, .I (p0.Replicas.length : Int)), (10, .I xt10_7h), (18, .cv (.ro Tag.t_api_Replica (slc p0.Replicas 0 xt10_7h))), (19, .I (((slc p0.Replicas 0 xt10_7h).length : Int))), (20, .I 0)], [(24300, .raw [.ro Tag.t_api_Replica p0.Replicas, .ro Tag.t_bool p0.Up, .I p0.Leader, .I p0.Epoch]), (24301, .raw [.I (((p0.Replicas.getD (Int.toNat xt10_7h) z_api_Replica)).Epoch), .I (((p0.Replicas.getD (Int.toNat xt10_7h) z_api_Replica)).Vote), .I (((p0.Replicas.getD (Int.toNat xt10_7h) z_api_Replica)).Commit), .ro Tag.t_api_Entry (((p0.Replicas.getD (Int.toNat xt10_7h) z_api_Replica)).Log)])]⟩) (by kernel_rfl) ?_
      obtain ⟨o1, hp1, h⟩ := obind_some h
      refine awp_conseq (Q' := fun e S => (e = .exit 2 ∧ S = ⟨[(1, .P 24200), (8, .cv (.ro Tag.t_api_Replica p0.Replicas)), (9, .I (p0.Replicas.length : Int)), (10, .I xt10_7h)], [(24200, .raw [.ro Tag.t_api_Replica p0.Replicas, .ro Tag.t_bool p0.Up, .I p0.Leader, .I p0.Epoch])]⟩ ∧ Out.go () = o1) ∨ (e = .ret ∧ ∃ a, Out.done a = o1 ∧ EndsE P V Try.f14 (.B a) [] .ret S)) (awp_loop (fun k S => ∃ xt20_21h : Int, S = ⟨[(1, .P 24300), (4, .P 24301), (8, .cv (.ro Tag.t_api_Replica p0.Replicas)), (9, .I (p0.Replicas.length : Int)), (10, .I xt10_7h), (18, .cv (.ro Tag.t_api_Replica (slc p0.Replicas 0 xt10_7h))), (19, .I (((slc p0.Replicas 0 xt10_7h).length : Int))), (20, .I xt20_21h)], [(24300, .raw [.ro Tag.t_api_Replica p0.Replicas, .ro Tag.t_bool p0.Up, .I p0.Leader, .I p0.Epoch]), (24301, .raw [.I (((p0.Replicas.getD (Int.toNat xt10_7h) z_api_Replica)).Epoch), .I (((p0.Replicas.getD (Int.toNat xt10_7h) z_api_Replica)).Vote), .I (((p0.Replicas.getD (Int.toNat xt10_7h) z_api_Replica)).Commit), .ro Tag.t_api_Entry (((p0.Replicas.getD (Int.toNat xt10_7h) z_api_Replica)).Log)])]⟩ ∧ group_Safe.l21 K p0 xt10_7h k xt20_21h = some o1) ?_ ⟨_, rfl, hp1⟩) ?_
      · clear h hp1
        intro k S hS
        obtain ⟨xt20_21h, rfl, h⟩ := hS
        cases k with
        | zero => cases h
        | succ k =>
        unfold group_Safe.l21 at h
        refine awp_seq ?_
        refine awp_region L 224 [] [] [] [1, 4, 8, 9, 10, 18, 19, 20, 21] [24300, 24301] (cs := []) (S' := ⟨[(1, .P 24300), (4, .P 24301), (8, .cv (.ro Tag.t_api_Replica p0.Replicas)), (9, .I (p0.Replicas.length : Int)), (10, .I xt10_7h), (18, .cv (.ro Tag.t_api_Replica (slc p0.Replicas 0 xt10_7h))), (19, .I (((slc p0.Replicas 0 xt10_7h).length : Int))), (20, .I xt20_21h), (21, .B ((decide (xt20_21h < ((slc p0.Replicas 0 xt10_7h).length : Int)))))], [(24300, .raw [.ro Tag.t_api_Replica p0.Replicas, .ro Tag.t_bool p0.Up, .I p0.Leader, .I p0.Epoch]), (24301, .raw [.I (((p0.Replicas.getD (Int.toNat xt10_7h) z_api_Replica)).Epoch), .I (((p0.Replicas.getD (Int.toNat xt10_7h) z_api_Replica)).Vote), .I (((p0.Replicas.getD (Int.toNat xt10_7h) z_api_Replica)).Commit), .ro Tag.t_api_Entry (((p0.Replicas.getD (Int.toNat xt10_7h) z_api_Replica)).Log)])]⟩) (by kernel_rfl) trivial ?_
        refine awp_seq ?_
        rcases ite_some h with ⟨c2, h⟩ | ⟨c2, h⟩
        · refine awp_true (b := (decide (xt20_21h < ((slc p0.Replicas 0 xt10_7h).length : Int)))) (by kernel_rfl) (decide_eq_true c2) ?_
          refine awp_skip [1, 4, 8, 9, 10, 18, 19, 20] [24300, 24301] (S' := ⟨[(1, .P 24300), (4, .P 24301), (8, .cv (.ro Tag.t_api_Replica p0.Replicas)), (9, .I (p0.Replicas.length : Int)), (10, .I xt10_7h), (18, .cv (.ro Tag.t_api_Replica (slc p0.Replicas 0 xt10_7h))), (19, .I (((slc p0.Replicas 0 xt10_7h).length : Int))), (20, .I xt20_21h)], [(24300, .raw [.ro Tag.t_api_Replica p0.Replicas, .ro Tag.t_bool p0.Up, .I p0.Leader, .I p0.Epoch]), (24301, .raw [.I (((p0.Replicas.getD (Int.toNat xt10_7h) z_api_Replica)).Epoch), .I (((p0.Replicas.getD (Int.toNat xt10_7h) z_api_Replica)).Vote), .I (((p0.Replicas.getD (Int.toNat xt10_7h) z_api_Replica)).Commit), .ro Tag.t_api_Entry (((p0.Replicas.getD (Int.toNat xt10_7h) z_api_Replica)).Log)])]⟩) (by kernel_rfl) ?_
          refine awp_seq ?_
          refine awp_block ?_
          refine awp_seq ?_
          obtain ⟨g3, h⟩ := guard_some h
          refine awp_region L 226 [] [] [] [1, 4, 6, 8, 9, 10, 18, 19, 20] [228, 24300, 24301] (cs := [(0 : Int) ≤ xt20_21h, (xt20_21h : Int) < ((slc p0.Replicas 0 xt10_7h).length : Int)]) (S' := ⟨[(1, .P 24300), (4, .P 24301), (6, .P 228), (8, .cv (.ro Tag.t_api_Replica p0.Replicas)), (9, .I (p0.Replicas.length : Int)), (10, .I xt10_7h), (18, .cv (.ro Tag.t_api_Replica (slc p0.Replicas 0 xt10_7h))), (19, .I (((slc p0.Replicas 0 xt10_7h).length : Int))), (20, .I xt20_21h)], [(228, .raw [.I ((((slc p0.Replicas 0 xt10_7h).getD (Int.toNat xt20_21h) z_api_Replica)).Epoch), .I ((((slc p0.Replicas 0 xt10_7h).getD (Int.toNat xt20_21h) z_api_Replica)).Vote), .I ((((slc p0.Replicas 0 xt10_7h).getD (Int.toNat xt20_21h) z_api_Replica)).Commit), .ro Tag.t_api_Entry ((((slc p0.Replicas 0 xt10_7h).getD (Int.toNat xt20_21h) z_api_Replica)).Log)]), (24300, .raw [.ro Tag.t_api_Replica p0.Replicas, .ro Tag.t_bool p0.Up, .I p0.Leader, .I p0.Epoch]), (24301, .raw [.I (((p0.Replicas.getD (Int.toNat xt10_7h) z_api_Replica)).Epoch), .I (((p0.Replicas.getD (Int.toNat xt10_7h) z_api_Replica)).Vote), .I (((p0.Replicas.getD (Int.toNat xt10_7h) z_api_Replica)).Commit), .ro Tag.t_api_Entry (((p0.Replicas.getD (Int.toNat xt10_7h) z_api_Replica)).Log)])]⟩) (by kernel_rfl) (And.intro g3.1 g3.2) ?_
          refine awp_seq ?_
          obtain ⟨a1, h1, h⟩ := bind_some h
          refine awp_draw L mixed 231 [] [(2, .I a1)] [] [] 9 [1, 4, 8, 9, 10, 18, 19, 20, 32] [24300, 24301] (cs := [PCall V P 23 [.agg [.I (((p0.Replicas.getD (Int.toNat xt10_7h) z_api_Replica)).Epoch), .I (((p0.Replicas.getD (Int.toNat xt10_7h) z_api_Replica)).Vote), .I (((p0.Replicas.getD (Int.toNat xt10_7h) z_api_Replica)).Commit), .ro Tag.t_api_Entry (((p0.Replicas.getD (Int.toNat xt10_7h) z_api_Replica)).Log)], .agg [.I ((((slc p0.Replicas 0 xt10_7h).getD (Int.toNat xt20_21h) z_api_Replica)).Epoch), .I ((((slc p0.Replicas 0 xt10_7h).getD (Int.toNat xt20_21h) z_api_Replica)).Vote), .I ((((slc p0.Replicas 0 xt10_7h).getD (Int.toNat xt20_21h) z_api_Replica)).Commit), .ro Tag.t_api_Entry ((((slc p0.Replicas 0 xt10_7h).getD (Int.toNat xt20_21h) z_api_Replica)).Log)]] (.I a1), True]) (S' := ⟨[(1, .P 24300), (4, .P 24301), (8, .cv (.ro Tag.t_api_Replica p0.Replicas)), (9, .I (p0.Replicas.length : Int)), (10, .I xt10_7h), (18, .cv (.ro Tag.t_api_Replica (slc p0.Replicas 0 xt10_7h))), (19, .I (((slc p0.Replicas 0 xt10_7h).length : Int))), (20, .I xt20_21h), (32, .B ((decide (a1 < (if (((slc p0.Replicas 0 xt10_7h).getD (Int.toNat xt20_21h) z_api_Replica)).Commit < ((p0.Replicas.getD (Int.toNat xt10_7h) z_api_Replica)).Commit then (((slc p0.Replicas 0 xt10_7h).getD (Int.toNat xt20_21h) z_api_Replica)).Commit else ((p0.Replicas.getD (Int.toNat xt10_7h) z_api_Replica)).Commit)))))], [(24300, .raw [.ro Tag.t_api_Replica p0.Replicas, .ro Tag.t_bool p0.Up, .I p0.Leader, .I p0.Epoch]), (24301, .raw [.I (((p0.Replicas.getD (Int.toNat xt10_7h) z_api_Replica)).Epoch), .I (((p0.Replicas.getD (Int.toNat xt10_7h) z_api_Replica)).Vote), .I (((p0.Replicas.getD (Int.toNat xt10_7h) z_api_Replica)).Commit), .ro Tag.t_api_Entry (((p0.Replicas.getD (Int.toNat xt10_7h) z_api_Replica)).Log)])]⟩) (by kernel_rfl) (And.intro (replog_Common.ok h1) trivial) ?_
          rcases ite_some h with ⟨c3, h⟩ | ⟨c3, h⟩
          · refine awp_true (b := (decide (a1 < (if (((slc p0.Replicas 0 xt10_7h).getD (Int.toNat xt20_21h) z_api_Replica)).Commit < ((p0.Replicas.getD (Int.toNat xt10_7h) z_api_Replica)).Commit then (((slc p0.Replicas 0 xt10_7h).getD (Int.toNat xt20_21h) z_api_Replica)).Commit else ((p0.Replicas.getD (Int.toNat xt10_7h) z_api_Replica)).Commit)))) (by kernel_rfl) (decide_eq_true c3) ?_
            refine awp_seq ?_
            refine awp_region L 241 [] [] [] [2] [] (cs := []) (S' := ⟨[(2, .B false)], []⟩) (by kernel_rfl) trivial ?_
            refine awp_ret ?_
            have hr := Option.some.inj h
            subst hr
            exact .inr ⟨rfl, _, rfl, ⟨.inr rfl, .B false, by kernel_rfl, by kernel_rfl, by kernel_rfl⟩⟩
          · refine awp_false (b := (decide (a1 < (if (((slc p0.Replicas 0 xt10_7h).getD (Int.toNat xt20_21h) z_api_Replica)).Commit < ((p0.Replicas.getD (Int.toNat xt10_7h) z_api_Replica)).Commit then (((slc p0.Replicas 0 xt10_7h).getD (Int.toNat xt20_21h) z_api_Replica)).Commit else ((p0.Replicas.getD (Int.toNat xt10_7h) z_api_Replica)).Commit)))) (by kernel_rfl) (decide_eq_false c3) ?_
            refine awp_skip [1, 4, 8, 9, 10, 18, 19, 20] [24300, 24301] (S' := ⟨[(1, .P 24300), (4, .P 24301), (8, .cv (.ro Tag.t_api_Replica p0.Replicas)), (9, .I (p0.Replicas.length : Int)), (10, .I xt10_7h), (18, .cv (.ro Tag.t_api_Replica (slc p0.Replicas 0 xt10_7h))), (19, .I (((slc p0.Replicas 0 xt10_7h).length : Int))), (20, .I xt20_21h)], [(24300, .raw [.ro Tag.t_api_Replica p0.Replicas, .ro Tag.t_bool p0.Up, .I p0.Leader, .I p0.Epoch]), (24301, .raw [.I (((p0.Replicas.getD (Int.toNat xt10_7h) z_api_Replica)).Epoch), .I (((p0.Replicas.getD (Int.toNat xt10_7h) z_api_Replica)).Vote), .I (((p0.Replicas.getD (Int.toNat xt10_7h) z_api_Replica)).Commit), .ro Tag.t_api_Entry (((p0.Replicas.getD (Int.toNat xt10_7h) z_api_Replica)).Log)])]⟩) (by kernel_rfl) ?_
            refine awp_region L 243 [] [] [] [1, 4, 8, 9, 10, 18, 19, 20] [24300, 24301] (cs := []) (S' := ⟨[(1, .P 24300), (4, .P 24301), (8, .cv (.ro Tag.t_api_Replica p0.Replicas)), (9, .I (p0.Replicas.length : Int)), (10, .I xt10_7h), (18, .cv (.ro Tag.t_api_Replica (slc p0.Replicas 0 xt10_7h))), (19, .I (((slc p0.Replicas 0 xt10_7h).length : Int))), (20, .I ((IntKind.i64.wrap (xt20_21h + 1))))], [(24300, .raw [.ro Tag.t_api_Replica p0.Replicas, .ro Tag.t_bool p0.Up, .I p0.Leader, .I p0.Epoch]), (24301, .raw [.I (((p0.Replicas.getD (Int.toNat xt10_7h) z_api_Replica)).Epoch), .I (((p0.Replicas.getD (Int.toNat xt10_7h) z_api_Replica)).Vote), .I (((p0.Replicas.getD (Int.toNat xt10_7h) z_api_Replica)).Commit), .ro Tag.t_api_Entry (((p0.Replicas.getD (Int.toNat xt10_7h) z_api_Replica)).Log)])]⟩) (by kernel_rfl) trivial ?_
            exact ⟨k, Nat.lt_succ_self k, _, rfl, h⟩
        · refine awp_false (b := (decide (xt20_21h < ((slc p0.Replicas 0 xt10_7h).length : Int)))) (by kernel_rfl) (decide_eq_false c2) ?_
          refine awp_turn (Turns.trans (Turns.keep [1, 8, 9, 10] [24300] (S' := ⟨[(1, .P 24300), (8, .cv (.ro Tag.t_api_Replica p0.Replicas)), (9, .I (p0.Replicas.length : Int)), (10, .I xt10_7h)], [(24300, .raw [.ro Tag.t_api_Replica p0.Replicas, .ro Tag.t_bool p0.Up, .I p0.Leader, .I p0.Epoch])]⟩) (by kernel_rfl)) (Turns.ren [(24300, 24200)] (S' := ⟨[(1, .P 24200), (8, .cv (.ro Tag.t_api_Replica p0.Replicas)), (9, .I (p0.Replicas.length : Int)), (10, .I xt10_7h)], [(24200, .raw [.ro Tag.t_api_Replica p0.Replicas, .ro Tag.t_bool p0.Up, .I p0.Leader, .I p0.Epoch])]⟩) (by kernel_rfl) (by kernel_rfl))) ?_
          refine awp_exit [1, 8, 9, 10] [24200] (S' := ⟨[(1, .P 24200), (8, .cv (.ro Tag.t_api_Replica p0.Replicas)), (9, .I (p0.Replicas.length : Int)), (10, .I xt10_7h)], [(24200, .raw [.ro Tag.t_api_Replica p0.Replicas, .ro Tag.t_bool p0.Up, .I p0.Leader, .I p0.Epoch])]⟩) (by kernel_rfl) ?_
          have hr := Option.some.inj h
          subst hr
          exact .inl ⟨rfl, rfl, rfl⟩
      · rintro e S (⟨rfl, rfl, rfl⟩ | ⟨rfl, a, rfl, hr⟩)
        · rcases h with ⟨_, e1, h⟩ | ⟨_, e1, h⟩
          · cases e1
          · have e2 := Out.go.inj e1
            subst e2
            refine ⟨_, Turns.refl, ?_⟩
            refine awp_post (awp_region L 246 [] [] [] [1, 8, 9, 10] [24200] (cs := []) (S' := ⟨[(1, .P 24200), (8, .cv (.ro Tag.t_api_Replica p0.Replicas)), (9, .I (p0.Replicas.length : Int)), (10, .I ((IntKind.i64.wrap (xt10_7h + 1))))], [(24200, .raw [.ro Tag.t_api_Replica p0.Replicas, .ro Tag.t_bool p0.Up, .I p0.Leader, .I p0.Epoch])]⟩) (by kernel_rfl) trivial ⟨rfl, rfl⟩) (Turns.trans (Turns.keep [1, 8, 9, 10] [24200] (S' := ⟨[(1, .P 24200), (8, .cv (.ro Tag.t_api_Replica p0.Replicas)), (9, .I (p0.Replicas.length : Int)), (10, .I ((IntKind.i64.wrap (xt10_7h + 1))))], [(24200, .raw [.ro Tag.t_api_Replica p0.Replicas, .ro Tag.t_bool p0.Up, .I p0.Leader, .I p0.Epoch])]⟩) (by kernel_rfl)) (Turns.trans (Turns.ren [(24200, 21500)] (S' := ⟨[(1, .P 21500), (8, .cv (.ro Tag.t_api_Replica p0.Replicas)), (9, .I (p0.Replicas.length : Int)), (10, .I ((IntKind.i64.wrap (xt10_7h + 1))))], [(21500, .raw [.ro Tag.t_api_Replica p0.Replicas, .ro Tag.t_bool p0.Up, .I p0.Leader, .I p0.Epoch])]⟩) (by kernel_rfl) (by kernel_rfl)) (Turns.keep [1, 8, 9, 10] [21500] (S' := ⟨[(1, .P 21500), (8, .cv (.ro Tag.t_api_Replica p0.Replicas)), (9, .I (p0.Replicas.length : Int)), (10, .I ((IntKind.i64.wrap (xt10_7h + 1))))], [(21500, .raw [.ro Tag.t_api_Replica p0.Replicas, .ro Tag.t_bool p0.Up, .I p0.Leader, .I p0.Epoch])]⟩) (by kernel_rfl)))) ?_
            exact ⟨k, Nat.lt_succ_self k, _, rfl, h⟩
        · rcases h with ⟨_, e1, h⟩ | ⟨_, e1, h⟩
          · have e2 := Out.done.inj e1
            subst e2
            subst h
            exact ⟨_, Turns.refl, .inr ⟨rfl, _, rfl, hr⟩⟩
          · cases e1
    · refine awp_false (b := (decide (xt10_7h < (p0.Replicas.length : Int)))) (by kernel_rfl) (decide_eq_false c1) ?_
      refine awp_exit [] [] (S' := ⟨[], []⟩) (by kernel_rfl) ?_
      have hr := Option.some.inj h
      subst hr
      exact .inl ⟨rfl, rfl, rfl⟩
  · rintro e S (⟨rfl, rfl, rfl⟩ | ⟨rfl, a, rfl, hr⟩)
    · rcases h with ⟨_, e1, h⟩ | ⟨_, e1, h⟩
      · cases e1
      · have e2 := Out.go.inj e1
        subst e2
        refine ⟨_, Turns.refl, ?_⟩
        refine awp_seq ?_
        refine awp_region L 249 [] [] [] [2] [] (cs := []) (S' := ⟨[(2, .B true)], []⟩) (by kernel_rfl) trivial ?_
        refine awp_ret ?_
        have hr := Option.some.inj h
        subst hr
        exact ⟨.inr rfl, .B true, by kernel_rfl, by kernel_rfl, by kernel_rfl⟩
    · rcases h with ⟨_, e1, h⟩ | ⟨_, e1, h⟩
      · have e2 := Out.done.inj e1
        subst e2
        subst h
        exact ⟨_, Turns.refl, hr⟩
      · cases e1

theorem group_Safe.okE {K : Nat} {p0 : group_Group} {r : Bool} (h : group_Safe K p0 = some r) : ECall V P 14 [.agg [.ro Tag.t_api_Replica p0.Replicas, .ro Tag.t_bool p0.Up, .I p0.Leader, .I p0.Epoch]] [] [] (.B r) [] :=
  ecall_of (fn := Try.f14) (n := 35) (m := 100) (by kernel_rfl) (by kernel_rfl) (by kernel_rfl) rfl (by kernel_rfl) (by kernel_rfl) fun Γ => group_Safe.body h

theorem group_Safe.ok {K : Nat} {p0 : group_Group} {r : Bool} (h : group_Safe K p0 = some r) : PCall V P 14 [.agg [.ro Tag.t_api_Replica p0.Replicas, .ro Tag.t_bool p0.Up, .I p0.Leader, .I p0.Epoch]] (.B r) := (group_Safe.okE h).pcall (by kernel_rfl)

def workflowref55_Safe.l19 (K : Nat) (p0 : workflowref55_Group) (xt3_7h : Int) : Nat → Int → Option (Out Bool Unit)
  | 0, _ => none
  | k + 1, xt4_19h => (if xt4_19h < xt3_7h then (if (0 : Int) ≤ xt3_7h ∧ (xt3_7h : Int) < (p0.Replicas.length : Int) then (Option.bind (((if (0 : Int) ≤ xt4_19h ∧ (xt4_19h : Int) < (p0.Replicas.length : Int) then (if ((p0.Replicas.getD (Int.toNat xt4_19h) z_api_Replica)).Commit < ((p0.Replicas.getD (Int.toNat xt3_7h) z_api_Replica)).Commit then some (((p0.Replicas.getD (Int.toNat xt4_19h) z_api_Replica)).Commit) else some (((p0.Replicas.getD (Int.toNat xt3_7h) z_api_Replica)).Commit)) else none)) : Option Int) (fun xt5_30 => (if (0 : Int) ≤ xt4_19h ∧ (xt4_19h : Int) < (p0.Replicas.length : Int) then (Option.bind (workflowref52_Common K ((p0.Replicas.getD (Int.toNat xt3_7h) z_api_Replica)) ((p0.Replicas.getD (Int.toNat xt4_19h) z_api_Replica))) (fun a1 => (if a1 < xt5_30 then some (Out.done false) else workflowref55_Safe.l19 K p0 xt3_7h k ((IntKind.i64.wrap (xt4_19h + 1)))))) else none))) else none) else some (Out.go ()))

def workflowref55_Safe.l7 (K : Nat) (p0 : workflowref55_Group) : Nat → Int → Option (Out Bool Unit)
  | 0, _ => none
  | k + 1, xt3_7h => (if xt3_7h < (p0.Replicas.length : Int) then (obind (workflowref55_Safe.l19 K p0 xt3_7h K 0 : Option (Out Bool Unit)) Out.done (fun _ => workflowref55_Safe.l7 K p0 k ((IntKind.i64.wrap (xt3_7h + 1))))) else some (Out.go ()))

def workflowref55_Safe (K : Nat) (p0 : workflowref55_Group) : Option Bool := (obind (workflowref55_Safe.l7 K p0 K 0 : Option (Out Bool Unit)) (fun r => r) (fun _ => some true))

theorem workflowref55_Safe.body {Γ : Ent} {K : Nat} {p0 : workflowref55_Group} {r : Bool} (h : workflowref55_Safe K p0 = some r) : AWp V P 51 100 Γ (Try.f15.body.getD .skip) (EndsE P V Try.f15 (.B r) []) ⟨args0 0 [.agg [.ro Tag.t_api_Replica p0.Replicas, .ro Tag.t_bool p0.Up, .I p0.Leader, .I p0.Epoch]], []⟩ := by
  unfold workflowref55_Safe at h
  refine awp_seq ?_
  refine awp_region L 200 [] [] [] [1] [200] (cs := []) (S' := ⟨[(1, .P 200)], [(200, .raw [.ro Tag.t_api_Replica p0.Replicas, .ro Tag.t_bool p0.Up, .I p0.Leader, .I p0.Epoch])]⟩) (by kernel_rfl) trivial ?_
  refine awp_seq ?_
  refine awp_seq ?_
  refine awp_region L 203 [] [] [] [1, 3] [200] (cs := []) (S' := ⟨[(1, .P 200), (3, .I 0)], [(200, .raw [.ro Tag.t_api_Replica p0.Replicas, .ro Tag.t_bool p0.Up, .I p0.Leader, .I p0.Epoch])]⟩) (by kernel_rfl) trivial ?_
  refine awp_block ?_
  refine awp_turn (Turns.trans (Turns.keep [1, 3] [200] (S' := ⟨[(1, .P 200), (3, .I 0)], [(200, .raw [.ro Tag.t_api_Replica p0.Replicas, .ro Tag.t_bool p0.Up, .I p0.Leader, .I p0.Epoch])]⟩) (by kernel_rfl)) (Turns.ren [(200, 21500)] (S' := ⟨[(1, .P 21500), (3, .I 0)], [(21500, .raw [.ro Tag.t_api_Replica p0.Replicas, .ro Tag.t_bool p0.Up, .I p0.Leader, .I p0.Epoch])]⟩) (by kernel_rfl) (by kernel_rfl))) ?_
  refine awp_keep (ts := [1, 3]) (ids := [21500]) (S' := ⟨[(1, .P 21500), (3, .I 0)], [(21500, .raw [.ro Tag.t_api_Replica p0.Replicas, .ro Tag.t_bool p0.Up, .I p0.Leader, .I p0.Epoch])]⟩) (by kernel_rfl) ?_
  obtain ⟨o3, hp3, h⟩ := obind_some h
  refine awp_conseq (Q' := fun e S => (e = .exit 0 ∧ S = ⟨[], []⟩ ∧ Out.go () = o3) ∨ (e = .ret ∧ ∃ a, Out.done a = o3 ∧ EndsE P V Try.f15 (.B a) [] .ret S)) (awp_loop (fun k S => ∃ xt3_7h : Int, S = ⟨[(1, .P 21500), (3, .I xt3_7h)], [(21500, .raw [.ro Tag.t_api_Replica p0.Replicas, .ro Tag.t_bool p0.Up, .I p0.Leader, .I p0.Epoch])]⟩ ∧ workflowref55_Safe.l7 K p0 k xt3_7h = some o3) ?_ ⟨_, rfl, hp3⟩) ?_
  · clear h hp3
    intro k S hS
    obtain ⟨xt3_7h, rfl, h⟩ := hS
    cases k with
    | zero => cases h
    | succ k =>
    unfold workflowref55_Safe.l7 at h
    refine awp_seq ?_
    refine awp_seq ?_
    refine awp_region L 205 [] [] [] [1, 3, 10] [21500] (cs := []) (S' := ⟨[(1, .P 21500), (3, .I xt3_7h), (10, .B ((decide (xt3_7h < (p0.Replicas.length : Int)))))], [(21500, .raw [.ro Tag.t_api_Replica p0.Replicas, .ro Tag.t_bool p0.Up, .I p0.Leader, .I p0.Epoch])]⟩) (by kernel_rfl) trivial ?_
    rcases ite_some h with ⟨c1, h⟩ | ⟨c1, h⟩
    · refine awp_true (b := (decide (xt3_7h < (p0.Replicas.length : Int)))) (by kernel_rfl) (decide_eq_true c1) ?_
      refine awp_skip [1, 3] [21500] (S' := ⟨[(1, .P 21500), (3, .I xt3_7h)], [(21500, .raw [.ro Tag.t_api_Replica p0.Replicas, .ro Tag.t_bool p0.Up, .I p0.Leader, .I p0.Epoch])]⟩) (by kernel_rfl) ?_
      refine awp_seq ?_
      refine awp_block ?_
      refine awp_seq ?_
      refine awp_region L 211 [] [] [] [1, 3, 4] [21500] (cs := []) (S' := ⟨[(1, .P 21500), (3, .I xt3_7h), (4, .I 0)], [(21500, .raw [.ro Tag.t_api_Replica p0.Replicas, .ro Tag.t_bool p0.Up, .I p0.Leader, .I p0.Epoch])]⟩) (by kernel_rfl) trivial ?_
      refine awp_block ?_
      refine awp_turn (Turns.trans (Turns.keep [1, 3, 4] [21500] (S' := ⟨[(1, .P 21500), (3, .I xt3_7h), (4, .I 0)], [(21500, .raw [.ro Tag.t_api_Replica p0.Replicas, .ro Tag.t_bool p0.Up, .I p0.Leader, .I p0.Epoch])]⟩) (by kernel_rfl)) (Turns.ren [(21500, 23900)] (S' := ⟨[(1, .P 23900), (3, .I xt3_7h), (4, .I 0)], [(23900, .raw [.ro Tag.t_api_Replica p0.Replicas, .ro Tag.t_bool p0.Up, .I p0.Leader, .I p0.Epoch])]⟩) (by kernel_rfl) (by kernel_rfl))) ?_
      refine awp_keep (ts := [1, 3, 4]) (ids := [23900]) (S' := ⟨[(1, .P 23900), (3, .I xt3_7h), (4, .I 0)], [(23900, .raw [.ro Tag.t_api_Replica p0.Replicas, .ro Tag.t_bool p0.Up, .I p0.Leader, .I p0.Epoch])]⟩) (by kernel_rfl) ?_
      obtain ⟨o2, hp2, h⟩ := obind_some h
      refine awp_conseq (Q' := fun e S => (e = .exit 2 ∧ S = ⟨[(1, .P 23800), (3, .I xt3_7h)], [(23800, .raw [.ro Tag.t_api_Replica p0.Replicas, .ro Tag.t_bool p0.Up, .I p0.Leader, .I p0.Epoch])]⟩ ∧ Out.go () = o2) ∨ (e = .ret ∧ ∃ a, Out.done a = o2 ∧ EndsE P V Try.f15 (.B a) [] .ret S)) (awp_loop (fun k S => ∃ xt4_19h : Int, S = ⟨[(1, .P 23900), (3, .I xt3_7h), (4, .I xt4_19h)], [(23900, .raw [.ro Tag.t_api_Replica p0.Replicas, .ro Tag.t_bool p0.Up, .I p0.Leader, .I p0.Epoch])]⟩ ∧ workflowref55_Safe.l19 K p0 xt3_7h k xt4_19h = some o2) ?_ ⟨_, rfl, hp2⟩) ?_
      · clear h hp2
        intro k S hS
        obtain ⟨xt4_19h, rfl, h⟩ := hS
        cases k with
        | zero => cases h
        | succ k =>
        unfold workflowref55_Safe.l19 at h
        refine awp_seq ?_
        refine awp_seq ?_
        refine awp_region L 213 [] [] [] [1, 3, 4, 15] [23900] (cs := []) (S' := ⟨[(1, .P 23900), (3, .I xt3_7h), (4, .I xt4_19h), (15, .B ((decide (xt4_19h < xt3_7h))))], [(23900, .raw [.ro Tag.t_api_Replica p0.Replicas, .ro Tag.t_bool p0.Up, .I p0.Leader, .I p0.Epoch])]⟩) (by kernel_rfl) trivial ?_
        rcases ite_some h with ⟨c2, h⟩ | ⟨c2, h⟩
        · refine awp_true (b := (decide (xt4_19h < xt3_7h))) (by kernel_rfl) (decide_eq_true c2) ?_
          refine awp_skip [1, 3, 4] [23900] (S' := ⟨[(1, .P 23900), (3, .I xt3_7h), (4, .I xt4_19h)], [(23900, .raw [.ro Tag.t_api_Replica p0.Replicas, .ro Tag.t_bool p0.Up, .I p0.Leader, .I p0.Epoch])]⟩) (by kernel_rfl) ?_
          refine awp_seq ?_
          refine awp_block ?_
          refine awp_seq ?_
          obtain ⟨g1, h⟩ := guard_some h
          refine awp_region L 217 [] [] [] [1, 3, 4, 5] [23900] (cs := [(0 : Int) ≤ xt3_7h, (xt3_7h : Int) < (p0.Replicas.length : Int)]) (S' := ⟨[(1, .P 23900), (3, .I xt3_7h), (4, .I xt4_19h), (5, .I (((p0.Replicas.getD (Int.toNat xt3_7h) z_api_Replica)).Commit))], [(23900, .raw [.ro Tag.t_api_Replica p0.Replicas, .ro Tag.t_bool p0.Up, .I p0.Leader, .I p0.Epoch])]⟩) (by kernel_rfl) (And.intro g1.1 g1.2) ?_
          obtain ⟨o1, hp1, h⟩ := bind_some h
          refine awp_seq (awp_mono (Q' := fun e S => (e = .normal ∧ ∃ xt5_30 : Int, S = ⟨[(1, .P 26000), (3, .I xt3_7h), (4, .I xt4_19h), (5, .I xt5_30)], [(26000, .raw [.ro Tag.t_api_Replica p0.Replicas, .ro Tag.t_bool p0.Up, .I p0.Leader, .I p0.Epoch])]⟩ ∧ xt5_30 = o1)) ?_ ?_)
          · clear h
            replace h := hp1
            refine awp_seq ?_
            obtain ⟨g2, h⟩ := guard_some h
            refine awp_region L 225 [] [] [] [1, 3, 4, 5, 31] [23900] (cs := [(0 : Int) ≤ xt4_19h, (xt4_19h : Int) < (p0.Replicas.length : Int)]) (S' := ⟨[(1, .P 23900), (3, .I xt3_7h), (4, .I xt4_19h), (5, .I (((p0.Replicas.getD (Int.toNat xt3_7h) z_api_Replica)).Commit)), (31, .B ((decide (((p0.Replicas.getD (Int.toNat xt4_19h) z_api_Replica)).Commit < ((p0.Replicas.getD (Int.toNat xt3_7h) z_api_Replica)).Commit))))], [(23900, .raw [.ro Tag.t_api_Replica p0.Replicas, .ro Tag.t_bool p0.Up, .I p0.Leader, .I p0.Epoch])]⟩) (by kernel_rfl) (And.intro g2.1 g2.2) ?_
            rcases ite_some h with ⟨c3, h⟩ | ⟨c3, h⟩
            · refine awp_true (b := (decide (((p0.Replicas.getD (Int.toNat xt4_19h) z_api_Replica)).Commit < ((p0.Replicas.getD (Int.toNat xt3_7h) z_api_Replica)).Commit))) (by kernel_rfl) (decide_eq_true c3) ?_
              refine awp_post (awp_region L 234 [] [] [] [1, 3, 4, 5] [23900] (cs := [(0 : Int) ≤ xt4_19h, (xt4_19h : Int) < (p0.Replicas.length : Int)]) (S' := ⟨[(1, .P 23900), (3, .I xt3_7h), (4, .I xt4_19h), (5, .I (((p0.Replicas.getD (Int.toNat xt4_19h) z_api_Replica)).Commit))], [(23900, .raw [.ro Tag.t_api_Replica p0.Replicas, .ro Tag.t_bool p0.Up, .I p0.Leader, .I p0.Epoch])]⟩) (by kernel_rfl) (And.intro g2.1 g2.2) ⟨rfl, rfl⟩) (Turns.trans (Turns.keep [1, 3, 4, 5] [23900] (S' := ⟨[(1, .P 23900), (3, .I xt3_7h), (4, .I xt4_19h), (5, .I (((p0.Replicas.getD (Int.toNat xt4_19h) z_api_Replica)).Commit))], [(23900, .raw [.ro Tag.t_api_Replica p0.Replicas, .ro Tag.t_bool p0.Up, .I p0.Leader, .I p0.Epoch])]⟩) (by kernel_rfl)) (Turns.trans (Turns.ren [(23900, 26000)] (S' := ⟨[(1, .P 26000), (3, .I xt3_7h), (4, .I xt4_19h), (5, .I (((p0.Replicas.getD (Int.toNat xt4_19h) z_api_Replica)).Commit))], [(26000, .raw [.ro Tag.t_api_Replica p0.Replicas, .ro Tag.t_bool p0.Up, .I p0.Leader, .I p0.Epoch])]⟩) (by kernel_rfl) (by kernel_rfl)) (Turns.keep [1, 3, 4, 5] [26000] (S' := ⟨[(1, .P 26000), (3, .I xt3_7h), (4, .I xt4_19h), (5, .I (((p0.Replicas.getD (Int.toNat xt4_19h) z_api_Replica)).Commit))], [(26000, .raw [.ro Tag.t_api_Replica p0.Replicas, .ro Tag.t_bool p0.Up, .I p0.Leader, .I p0.Epoch])]⟩) (by kernel_rfl)))) ?_
              have hr := Option.some.inj h
              subst hr
              exact ⟨rfl, _, rfl, rfl⟩
            · refine awp_false (b := (decide (((p0.Replicas.getD (Int.toNat xt4_19h) z_api_Replica)).Commit < ((p0.Replicas.getD (Int.toNat xt3_7h) z_api_Replica)).Commit))) (by kernel_rfl) (decide_eq_false c3) ?_
              refine awp_turn (Turns.trans (Turns.keep [1, 3, 4, 5] [23900] (S' := ⟨[(1, .P 23900), (3, .I xt3_7h), (4, .I xt4_19h), (5, .I (((p0.Replicas.getD (Int.toNat xt3_7h) z_api_Replica)).Commit))], [(23900, .raw [.ro Tag.t_api_Replica p0.Replicas, .ro Tag.t_bool p0.Up, .I p0.Leader, .I p0.Epoch])]⟩) (by kernel_rfl)) (Turns.ren [(23900, 26000)] (S' := ⟨[(1, .P 26000), (3, .I xt3_7h), (4, .I xt4_19h), (5, .I (((p0.Replicas.getD (Int.toNat xt3_7h) z_api_Replica)).Commit))], [(26000, .raw [.ro Tag.t_api_Replica p0.Replicas, .ro Tag.t_bool p0.Up, .I p0.Leader, .I p0.Epoch])]⟩) (by kernel_rfl) (by kernel_rfl))) ?_
              refine awp_skip [1, 3, 4, 5] [26000] (S' := ⟨[(1, .P 26000), (3, .I xt3_7h), (4, .I xt4_19h), (5, .I (((p0.Replicas.getD (Int.toNat xt3_7h) z_api_Replica)).Commit))], [(26000, .raw [.ro Tag.t_api_Replica p0.Replicas, .ro Tag.t_bool p0.Up, .I p0.Leader, .I p0.Epoch])]⟩) (by kernel_rfl) ?_
              have hr := Option.some.inj h
              subst hr
              exact ⟨rfl, _, rfl, rfl⟩
          · rintro e S ⟨rfl, xt5_30, rfl, rfl⟩
            refine awp_seq ?_
            obtain ⟨g3, h⟩ := guard_some h
            obtain ⟨a1, h1, h⟩ := bind_some h
            refine awp_draw L mixed 242 [] [(10, .I a1)] [] [] 13 [1, 3, 4, 50] [26000] (cs := [(0 : Int) ≤ xt3_7h, (xt3_7h : Int) < (p0.Replicas.length : Int), (0 : Int) ≤ xt4_19h, (xt4_19h : Int) < (p0.Replicas.length : Int), PCall V P 24 [.agg [.I (((p0.Replicas.getD (Int.toNat xt3_7h) z_api_Replica)).Epoch), .I (((p0.Replicas.getD (Int.toNat xt3_7h) z_api_Replica)).Vote), .I (((p0.Replicas.getD (Int.toNat xt3_7h) z_api_Replica)).Commit), .ro Tag.t_api_Entry (((p0.Replicas.getD (Int.toNat xt3_7h) z_api_Replica)).Log)], .agg [.I (((p0.Replicas.getD (Int.toNat xt4_19h) z_api_Replica)).Epoch), .I (((p0.Replicas.getD (Int.toNat xt4_19h) z_api_Replica)).Vote), .I (((p0.Replicas.getD (Int.toNat xt4_19h) z_api_Replica)).Commit), .ro Tag.t_api_Entry (((p0.Replicas.getD (Int.toNat xt4_19h) z_api_Replica)).Log)]] (.I a1), True]) (S' := ⟨[(1, .P 26000), (3, .I xt3_7h), (4, .I xt4_19h), (50, .B ((decide (a1 < xt5_30))))], [(26000, .raw [.ro Tag.t_api_Replica p0.Replicas, .ro Tag.t_bool p0.Up, .I p0.Leader, .I p0.Epoch])]⟩) (by kernel_rfl) (And.intro g1.1 (And.intro g1.2 (And.intro g3.1 (And.intro g3.2 (And.intro (workflowref52_Common.ok h1) trivial))))) ?_
            rcases ite_some h with ⟨c4, h⟩ | ⟨c4, h⟩
            · refine awp_true (b := (decide (a1 < xt5_30))) (by kernel_rfl) (decide_eq_true c4) ?_
              refine awp_seq ?_
              refine awp_region L 256 [] [] [] [2] [] (cs := []) (S' := ⟨[(2, .B false)], []⟩) (by kernel_rfl) trivial ?_
              refine awp_ret ?_
              have hr := Option.some.inj h
              subst hr
              exact .inr ⟨rfl, _, rfl, ⟨.inr rfl, .B false, by kernel_rfl, by kernel_rfl, by kernel_rfl⟩⟩
            · refine awp_false (b := (decide (a1 < xt5_30))) (by kernel_rfl) (decide_eq_false c4) ?_
              refine awp_skip [1, 3, 4] [26000] (S' := ⟨[(1, .P 26000), (3, .I xt3_7h), (4, .I xt4_19h)], [(26000, .raw [.ro Tag.t_api_Replica p0.Replicas, .ro Tag.t_bool p0.Up, .I p0.Leader, .I p0.Epoch])]⟩) (by kernel_rfl) ?_
              refine awp_post (awp_region L 258 [] [] [] [1, 3, 4] [26000] (cs := []) (S' := ⟨[(1, .P 26000), (3, .I xt3_7h), (4, .I ((IntKind.i64.wrap (xt4_19h + 1))))], [(26000, .raw [.ro Tag.t_api_Replica p0.Replicas, .ro Tag.t_bool p0.Up, .I p0.Leader, .I p0.Epoch])]⟩) (by kernel_rfl) trivial ⟨rfl, rfl⟩) (Turns.trans (Turns.keep [1, 3, 4] [26000] (S' := ⟨[(1, .P 26000), (3, .I xt3_7h), (4, .I ((IntKind.i64.wrap (xt4_19h + 1))))], [(26000, .raw [.ro Tag.t_api_Replica p0.Replicas, .ro Tag.t_bool p0.Up, .I p0.Leader, .I p0.Epoch])]⟩) (by kernel_rfl)) (Turns.trans (Turns.ren [(26000, 23900)] (S' := ⟨[(1, .P 23900), (3, .I xt3_7h), (4, .I ((IntKind.i64.wrap (xt4_19h + 1))))], [(23900, .raw [.ro Tag.t_api_Replica p0.Replicas, .ro Tag.t_bool p0.Up, .I p0.Leader, .I p0.Epoch])]⟩) (by kernel_rfl) (by kernel_rfl)) (Turns.keep [1, 3, 4] [23900] (S' := ⟨[(1, .P 23900), (3, .I xt3_7h), (4, .I ((IntKind.i64.wrap (xt4_19h + 1))))], [(23900, .raw [.ro Tag.t_api_Replica p0.Replicas, .ro Tag.t_bool p0.Up, .I p0.Leader, .I p0.Epoch])]⟩) (by kernel_rfl)))) ?_
              exact ⟨k, Nat.lt_succ_self k, _, rfl, h⟩
        · refine awp_false (b := (decide (xt4_19h < xt3_7h))) (by kernel_rfl) (decide_eq_false c2) ?_
          refine awp_turn (Turns.trans (Turns.keep [1, 3] [23900] (S' := ⟨[(1, .P 23900), (3, .I xt3_7h)], [(23900, .raw [.ro Tag.t_api_Replica p0.Replicas, .ro Tag.t_bool p0.Up, .I p0.Leader, .I p0.Epoch])]⟩) (by kernel_rfl)) (Turns.ren [(23900, 23800)] (S' := ⟨[(1, .P 23800), (3, .I xt3_7h)], [(23800, .raw [.ro Tag.t_api_Replica p0.Replicas, .ro Tag.t_bool p0.Up, .I p0.Leader, .I p0.Epoch])]⟩) (by kernel_rfl) (by kernel_rfl))) ?_
          refine awp_exit [1, 3] [23800] (S' := ⟨[(1, .P 23800), (3, .I xt3_7h)], [(23800, .raw [.ro Tag.t_api_Replica p0.Replicas, .ro Tag.t_bool p0.Up, .I p0.Leader, .I p0.Epoch])]⟩) (by kernel_rfl) ?_
          have hr := Option.some.inj h
          subst hr
          exact .inl ⟨rfl, rfl, rfl⟩
      · rintro e S (⟨rfl, rfl, rfl⟩ | ⟨rfl, a, rfl, hr⟩)
        · rcases h with ⟨_, e1, h⟩ | ⟨_, e1, h⟩
          · cases e1
          · have e2 := Out.go.inj e1
            subst e2
            refine ⟨_, Turns.refl, ?_⟩
            refine awp_post (awp_region L 262 [] [] [] [1, 3] [23800] (cs := []) (S' := ⟨[(1, .P 23800), (3, .I ((IntKind.i64.wrap (xt3_7h + 1))))], [(23800, .raw [.ro Tag.t_api_Replica p0.Replicas, .ro Tag.t_bool p0.Up, .I p0.Leader, .I p0.Epoch])]⟩) (by kernel_rfl) trivial ⟨rfl, rfl⟩) (Turns.trans (Turns.keep [1, 3] [23800] (S' := ⟨[(1, .P 23800), (3, .I ((IntKind.i64.wrap (xt3_7h + 1))))], [(23800, .raw [.ro Tag.t_api_Replica p0.Replicas, .ro Tag.t_bool p0.Up, .I p0.Leader, .I p0.Epoch])]⟩) (by kernel_rfl)) (Turns.trans (Turns.ren [(23800, 21500)] (S' := ⟨[(1, .P 21500), (3, .I ((IntKind.i64.wrap (xt3_7h + 1))))], [(21500, .raw [.ro Tag.t_api_Replica p0.Replicas, .ro Tag.t_bool p0.Up, .I p0.Leader, .I p0.Epoch])]⟩) (by kernel_rfl) (by kernel_rfl)) (Turns.keep [1, 3] [21500] (S' := ⟨[(1, .P 21500), (3, .I ((IntKind.i64.wrap (xt3_7h + 1))))], [(21500, .raw [.ro Tag.t_api_Replica p0.Replicas, .ro Tag.t_bool p0.Up, .I p0.Leader, .I p0.Epoch])]⟩) (by kernel_rfl)))) ?_
            exact ⟨k, Nat.lt_succ_self k, _, rfl, h⟩
        · rcases h with ⟨_, e1, h⟩ | ⟨_, e1, h⟩
          · have e2 := Out.done.inj e1
            subst e2
            subst h
            exact ⟨_, Turns.refl, .inr ⟨rfl, _, rfl, hr⟩⟩
          · cases e1
    · refine awp_false (b := (decide (xt3_7h < (p0.Replicas.length : Int)))) (by kernel_rfl) (decide_eq_false c1) ?_
      refine awp_exit [] [] (S' := ⟨[], []⟩) (by kernel_rfl) ?_
      have hr := Option.some.inj h
      subst hr
      exact .inl ⟨rfl, rfl, rfl⟩
  · rintro e S (⟨rfl, rfl, rfl⟩ | ⟨rfl, a, rfl, hr⟩)
    · rcases h with ⟨_, e1, h⟩ | ⟨_, e1, h⟩
      · cases e1
      · have e2 := Out.go.inj e1
        subst e2
        refine ⟨_, Turns.refl, ?_⟩
        refine awp_seq ?_
        refine awp_region L 266 [] [] [] [2] [] (cs := []) (S' := ⟨[(2, .B true)], []⟩) (by kernel_rfl) trivial ?_
        refine awp_ret ?_
        have hr := Option.some.inj h
        subst hr
        exact ⟨.inr rfl, .B true, by kernel_rfl, by kernel_rfl, by kernel_rfl⟩
    · rcases h with ⟨_, e1, h⟩ | ⟨_, e1, h⟩
      · have e2 := Out.done.inj e1
        subst e2
        subst h
        exact ⟨_, Turns.refl, hr⟩
      · cases e1

theorem workflowref55_Safe.okE {K : Nat} {p0 : workflowref55_Group} {r : Bool} (h : workflowref55_Safe K p0 = some r) : ECall V P 15 [.agg [.ro Tag.t_api_Replica p0.Replicas, .ro Tag.t_bool p0.Up, .I p0.Leader, .I p0.Epoch]] [] [] (.B r) [] :=
  ecall_of (fn := Try.f15) (n := 51) (m := 100) (by kernel_rfl) (by kernel_rfl) (by kernel_rfl) rfl (by kernel_rfl) (by kernel_rfl) fun Γ => workflowref55_Safe.body h

theorem workflowref55_Safe.ok {K : Nat} {p0 : workflowref55_Group} {r : Bool} (h : workflowref55_Safe K p0 = some r) : PCall V P 15 [.agg [.ro Tag.t_api_Replica p0.Replicas, .ro Tag.t_bool p0.Up, .I p0.Leader, .I p0.Epoch]] (.B r) := (workflowref55_Safe.okE h).pcall (by kernel_rfl)

def slices_EqualFunc_40.l15 (K : Nat) (p0 : List api_Entry) (p1 : List api_Entry) : Nat → Int → Option (Out Bool Unit)
  | 0, _ => none
  | k + 1, xt17_15h => (if xt17_15h < (p0.length : Int) then (if (0 : Int) ≤ xt17_15h ∧ (xt17_15h : Int) < (p0.length : Int) then (if (xt17_15h : Int) < (p1.length : Int) then (Option.bind (replog_agree K ((p0.getD (Int.toNat xt17_15h) z_api_Entry)) ((p1.getD (Int.toNat xt17_15h) z_api_Entry))) (fun a1 => (if a1 = true then slices_EqualFunc_40.l15 K p0 p1 k ((IntKind.i64.wrap (xt17_15h + 1))) else some (Out.done false)))) else none) else none) else some (Out.go ()))

def slices_EqualFunc_40 (K : Nat) (p0 : List api_Entry) (p1 : List api_Entry) : Option Bool := (if (p0.length : Int) ≠ (p1.length : Int) then some false else (obind (slices_EqualFunc_40.l15 K p0 p1 K 0 : Option (Out Bool Unit)) (fun r => r) (fun _ => some true)))

theorem slices_EqualFunc_40.body {Γ : Ent} {K : Nat} {p0 : List api_Entry} {p1 : List api_Entry} {r : Bool} (h : slices_EqualFunc_40 K p0 p1 = some r) : AWp V P 32 100 Γ (Try.f40.body.getD .skip) (EndsE P V Try.f40 (.B r) []) ⟨args0 0 [.cv (.ro Tag.t_api_Entry p0), .cv (.ro Tag.t_api_Entry p1), .cv (.fn (.func 39) [] [])], []⟩ := by
  unfold slices_EqualFunc_40 at h
  refine awp_seq ?_
  refine awp_region L 200 [] [] [] [0, 1, 2] [] (cs := []) (S' := ⟨[(0, .cv (.ro Tag.t_api_Entry p0)), (1, .cv (.ro Tag.t_api_Entry p1)), (2, .cv (.fn (.func 39) [] []))], []⟩) (by kernel_rfl) trivial ?_
  refine awp_seq ?_
  refine awp_seq ?_
  refine awp_region L 202 [] [] [] [0, 1, 2, 14] [] (cs := []) (S' := ⟨[(0, .cv (.ro Tag.t_api_Entry p0)), (1, .cv (.ro Tag.t_api_Entry p1)), (2, .cv (.fn (.func 39) [] [])), (14, .B ((decide ((p0.length : Int) ≠ (p1.length : Int)))))], []⟩) (by kernel_rfl) trivial ?_
  rcases ite_some h with ⟨c1, h⟩ | ⟨c1, h⟩
  · refine awp_true (b := (decide ((p0.length : Int) ≠ (p1.length : Int)))) (by kernel_rfl) (decide_eq_true c1) ?_
    refine awp_seq ?_
    refine awp_region L 208 [] [] [] [6] [] (cs := []) (S' := ⟨[(6, .B false)], []⟩) (by kernel_rfl) trivial ?_
    refine awp_ret ?_
    have hr := Option.some.inj h
    subst hr
    exact ⟨.inr rfl, .B false, by kernel_rfl, by kernel_rfl, by kernel_rfl⟩
  · refine awp_false (b := (decide ((p0.length : Int) ≠ (p1.length : Int)))) (by kernel_rfl) (decide_eq_false c1) ?_
    refine awp_skip [0, 1, 2] [] (S' := ⟨[(0, .cv (.ro Tag.t_api_Entry p0)), (1, .cv (.ro Tag.t_api_Entry p1)), (2, .cv (.fn (.func 39) [] []))], []⟩) (by kernel_rfl) ?_
    refine awp_seq ?_
    refine awp_seq ?_
    refine awp_region L 210 [] [] [] [1, 2, 15, 16, 17] [] (cs := []) (S' := ⟨[(1, .cv (.ro Tag.t_api_Entry p1)), (2, .cv (.fn (.func 39) [] [])), (15, .cv (.ro Tag.t_api_Entry p0)), (16, .I (p0.length : Int)), (17, .I 0)], []⟩) (by kernel_rfl) trivial ?_
    refine awp_block ?_
    refine awp_keep (ts := [1, 2, 15, 16, 17]) (ids := []) (S' := ⟨[(1, .cv (.ro Tag.t_api_Entry p1)), (2, .cv (.fn (.func 39) [] [])), (15, .cv (.ro Tag.t_api_Entry p0)), (16, .I (p0.length : Int)), (17, .I 0)], []⟩) (by kernel_rfl) ?_
    obtain ⟨o1, hp1, h⟩ := obind_some h
    refine awp_conseq (Q' := fun e S => (e = .exit 0 ∧ S = ⟨[], []⟩ ∧ Out.go () = o1) ∨ (e = .ret ∧ ∃ a, Out.done a = o1 ∧ EndsE P V Try.f40 (.B a) [] .ret S)) (awp_loop (fun k S => ∃ xt17_15h : Int, S = ⟨[(1, .cv (.ro Tag.t_api_Entry p1)), (2, .cv (.fn (.func 39) [] [])), (15, .cv (.ro Tag.t_api_Entry p0)), (16, .I (p0.length : Int)), (17, .I xt17_15h)], []⟩ ∧ slices_EqualFunc_40.l15 K p0 p1 k xt17_15h = some o1) ?_ ⟨_, rfl, hp1⟩) ?_
    · clear h hp1
      intro k S hS
      obtain ⟨xt17_15h, rfl, h⟩ := hS
      cases k with
      | zero => cases h
      | succ k =>
      unfold slices_EqualFunc_40.l15 at h
      refine awp_seq ?_
      refine awp_region L 214 [] [] [] [1, 2, 15, 16, 17, 18] [] (cs := []) (S' := ⟨[(1, .cv (.ro Tag.t_api_Entry p1)), (2, .cv (.fn (.func 39) [] [])), (15, .cv (.ro Tag.t_api_Entry p0)), (16, .I (p0.length : Int)), (17, .I xt17_15h), (18, .B ((decide (xt17_15h < (p0.length : Int)))))], []⟩) (by kernel_rfl) trivial ?_
      refine awp_seq ?_
      rcases ite_some h with ⟨c2, h⟩ | ⟨c2, h⟩
      · refine awp_true (b := (decide (xt17_15h < (p0.length : Int)))) (by kernel_rfl) (decide_eq_true c2) ?_
        refine awp_skip [1, 2, 15, 16, 17] [] (S' := ⟨[(1, .cv (.ro Tag.t_api_Entry p1)), (2, .cv (.fn (.func 39) [] [])), (15, .cv (.ro Tag.t_api_Entry p0)), (16, .I (p0.length : Int)), (17, .I xt17_15h)], []⟩) (by kernel_rfl) ?_
        refine awp_seq ?_
        refine awp_block ?_
        refine awp_seq ?_
        obtain ⟨g1, h⟩ := guard_some h
        refine awp_region L 216 [] [] [] [1, 2, 7, 8, 15, 16, 17] [219] (cs := [(0 : Int) ≤ xt17_15h, (xt17_15h : Int) < (p0.length : Int)]) (S' := ⟨[(1, .cv (.ro Tag.t_api_Entry p1)), (2, .cv (.fn (.func 39) [] [])), (7, .I xt17_15h), (8, .P 219), (15, .cv (.ro Tag.t_api_Entry p0)), (16, .I (p0.length : Int)), (17, .I xt17_15h)], [(219, .raw [.I (((p0.getD (Int.toNat xt17_15h) z_api_Entry)).Epoch), .ro Tag.t_uint8 (((p0.getD (Int.toNat xt17_15h) z_api_Entry)).Data)])]⟩) (by kernel_rfl) (And.intro g1.1 g1.2) ?_
        refine awp_seq ?_
        obtain ⟨g2, h⟩ := guard_some h
        refine awp_region L 223 [] [] [] [1, 2, 8, 9, 15, 16, 17] [219, 227] (cs := [(0 : Int) ≤ xt17_15h, (xt17_15h : Int) < (p1.length : Int)]) (S' := ⟨[(1, .cv (.ro Tag.t_api_Entry p1)), (2, .cv (.fn (.func 39) [] [])), (8, .P 219), (9, .P 227), (15, .cv (.ro Tag.t_api_Entry p0)), (16, .I (p0.length : Int)), (17, .I xt17_15h)], [(219, .raw [.I (((p0.getD (Int.toNat xt17_15h) z_api_Entry)).Epoch), .ro Tag.t_uint8 (((p0.getD (Int.toNat xt17_15h) z_api_Entry)).Data)]), (227, .raw [.I (((p1.getD (Int.toNat xt17_15h) z_api_Entry)).Epoch), .ro Tag.t_uint8 (((p1.getD (Int.toNat xt17_15h) z_api_Entry)).Data)])]⟩) (by kernel_rfl) (And.intro g1.1 g2) ?_
        refine awp_seq ?_
        obtain ⟨a1, h1, h⟩ := bind_some h
        refine awp_region L 230 [] [(3, .B a1)] [] [1, 2, 15, 16, 17, 30] [] (cs := [PCall V P 39 [.agg [.I (((p0.getD (Int.toNat xt17_15h) z_api_Entry)).Epoch), .ro Tag.t_uint8 (((p0.getD (Int.toNat xt17_15h) z_api_Entry)).Data)], .agg [.I (((p1.getD (Int.toNat xt17_15h) z_api_Entry)).Epoch), .ro Tag.t_uint8 (((p1.getD (Int.toNat xt17_15h) z_api_Entry)).Data)]] (.B a1), True]) (S' := ⟨[(1, .cv (.ro Tag.t_api_Entry p1)), (2, .cv (.fn (.func 39) [] [])), (15, .cv (.ro Tag.t_api_Entry p0)), (16, .I (p0.length : Int)), (17, .I xt17_15h), (30, .B (!a1))], []⟩) (by kernel_rfl) (And.intro (replog_agree.ok h1) trivial) ?_
        rcases ite_some h with ⟨c3, h⟩ | ⟨c3, h⟩
        · refine awp_false (b := (!a1)) (by kernel_rfl) (congrArg Bool.not (c3)) ?_
          refine awp_skip [1, 2, 15, 16, 17] [] (S' := ⟨[(1, .cv (.ro Tag.t_api_Entry p1)), (2, .cv (.fn (.func 39) [] [])), (15, .cv (.ro Tag.t_api_Entry p0)), (16, .I (p0.length : Int)), (17, .I xt17_15h)], []⟩) (by kernel_rfl) ?_
          refine awp_region L 238 [] [] [] [1, 2, 15, 16, 17] [] (cs := []) (S' := ⟨[(1, .cv (.ro Tag.t_api_Entry p1)), (2, .cv (.fn (.func 39) [] [])), (15, .cv (.ro Tag.t_api_Entry p0)), (16, .I (p0.length : Int)), (17, .I ((IntKind.i64.wrap (xt17_15h + 1))))], []⟩) (by kernel_rfl) trivial ?_
          exact ⟨k, Nat.lt_succ_self k, _, rfl, h⟩
        · refine awp_true (b := (!a1)) (by kernel_rfl) (congrArg Bool.not (eq_false_of_ne_true c3)) ?_
          refine awp_seq ?_
          refine awp_region L 236 [] [] [] [6] [] (cs := []) (S' := ⟨[(6, .B false)], []⟩) (by kernel_rfl) trivial ?_
          refine awp_ret ?_
          have hr := Option.some.inj h
          subst hr
          exact .inr ⟨rfl, _, rfl, ⟨.inr rfl, .B false, by kernel_rfl, by kernel_rfl, by kernel_rfl⟩⟩
      · refine awp_false (b := (decide (xt17_15h < (p0.length : Int)))) (by kernel_rfl) (decide_eq_false c2) ?_
        refine awp_exit [] [] (S' := ⟨[], []⟩) (by kernel_rfl) ?_
        have hr := Option.some.inj h
        subst hr
        exact .inl ⟨rfl, rfl, rfl⟩
    · rintro e S (⟨rfl, rfl, rfl⟩ | ⟨rfl, a, rfl, hr⟩)
      · rcases h with ⟨_, e1, h⟩ | ⟨_, e1, h⟩
        · cases e1
        · have e2 := Out.go.inj e1
          subst e2
          refine ⟨_, Turns.refl, ?_⟩
          refine awp_seq ?_
          refine awp_region L 241 [] [] [] [6] [] (cs := []) (S' := ⟨[(6, .B true)], []⟩) (by kernel_rfl) trivial ?_
          refine awp_ret ?_
          have hr := Option.some.inj h
          subst hr
          exact ⟨.inr rfl, .B true, by kernel_rfl, by kernel_rfl, by kernel_rfl⟩
      · rcases h with ⟨_, e1, h⟩ | ⟨_, e1, h⟩
        · have e2 := Out.done.inj e1
          subst e2
          subst h
          exact ⟨_, Turns.refl, hr⟩
        · cases e1

theorem slices_EqualFunc_40.okE {K : Nat} {p0 : List api_Entry} {p1 : List api_Entry} {r : Bool} (h : slices_EqualFunc_40 K p0 p1 = some r) : ECall V P 40 [.cv (.ro Tag.t_api_Entry p0), .cv (.ro Tag.t_api_Entry p1), .cv (.fn (.func 39) [] [])] [] [] (.B r) [] :=
  ecall_of (fn := Try.f40) (n := 32) (m := 100) (by kernel_rfl) (by kernel_rfl) (by kernel_rfl) rfl (by kernel_rfl) (by kernel_rfl) fun Γ => slices_EqualFunc_40.body h

theorem slices_EqualFunc_40.ok {K : Nat} {p0 : List api_Entry} {p1 : List api_Entry} {r : Bool} (h : slices_EqualFunc_40 K p0 p1 = some r) : PCall V P 40 [.cv (.ro Tag.t_api_Entry p0), .cv (.ro Tag.t_api_Entry p1), .cv (.fn (.func 39) [] [])] (.B r) := (slices_EqualFunc_40.okE h).pcall (by kernel_rfl)

def replog_Same (K : Nat) (p0 : api_Replica) (p1 : api_Replica) : Option Bool := (if p0.Epoch = p1.Epoch then (if p0.Vote = p1.Vote then (if p0.Commit = p1.Commit then (Option.bind (slices_EqualFunc_40 K p0.Log p1.Log) (fun a1 => some a1)) else some false) else some false) else some false)

theorem replog_Same.body {Γ : Ent} {K : Nat} {p0 : api_Replica} {p1 : api_Replica} {r : Bool} (h : replog_Same K p0 p1 = some r) : AWp V P 31 100 Γ (Try.f26.body.getD .skip) (EndsE P V Try.f26 (.B r) []) ⟨args0 0 [.agg [.I p0.Epoch, .I p0.Vote, .I p0.Commit, .ro Tag.t_api_Entry p0.Log], .agg [.I p1.Epoch, .I p1.Vote, .I p1.Commit, .ro Tag.t_api_Entry p1.Log]], []⟩ := by
  unfold replog_Same at h
  refine awp_seq ?_
  refine awp_region L 200 [] [] [] [2, 3] [200, 201] (cs := []) (S' := ⟨[(2, .P 200), (3, .P 201)], [(200, .raw [.I p0.Epoch, .I p0.Vote, .I p0.Commit, .ro Tag.t_api_Entry p0.Log]), (201, .raw [.I p1.Epoch, .I p1.Vote, .I p1.Commit, .ro Tag.t_api_Entry p1.Log])]⟩) (by kernel_rfl) trivial ?_
  refine awp_seq ?_
  rcases ite_some h with ⟨c1, h⟩ | ⟨c1, h⟩
  · rcases ite_some h with ⟨c2, h⟩ | ⟨c2, h⟩
    · rcases ite_some h with ⟨c3, h⟩ | ⟨c3, h⟩
      · obtain ⟨a1, h1, h⟩ := bind_some h
        refine awp_region L 204 [(5, true), (12, true), (19, true)] [(24, .B a1)] [] [4] [] (cs := [(decide (p0.Epoch = p1.Epoch)) = true, (decide (p0.Vote = p1.Vote)) = true, (decide (p0.Commit = p1.Commit)) = true, PCall V P 40 [.cv (.ro Tag.t_api_Entry p0.Log), .cv (.ro Tag.t_api_Entry p1.Log), .cv (.fn (.func 39) [] [])] (.B a1), True]) (S' := ⟨[(4, .B a1)], []⟩) (by kernel_rfl) (And.intro (decide_eq_true c1) (And.intro (decide_eq_true c2) (And.intro (decide_eq_true c3) (And.intro (slices_EqualFunc_40.ok h1) trivial)))) ?_
        refine awp_ret ?_
        have hr := Option.some.inj h
        subst hr
        exact ⟨.inr rfl, .B a1, by kernel_rfl, by kernel_rfl, by kernel_rfl⟩
      · refine awp_region L 204 [(5, true), (12, true), (19, false)] [] [] [4] [] (cs := [(decide (p0.Epoch = p1.Epoch)) = true, (decide (p0.Vote = p1.Vote)) = true, (decide (p0.Commit = p1.Commit)) = false]) (S' := ⟨[(4, .B false)], []⟩) (by kernel_rfl) (And.intro (decide_eq_true c1) (And.intro (decide_eq_true c2) (decide_eq_false c3))) ?_
        refine awp_ret ?_
        have hr := Option.some.inj h
        subst hr
        exact ⟨.inr rfl, .B false, by kernel_rfl, by kernel_rfl, by kernel_rfl⟩
    · refine awp_region L 204 [(5, true), (12, false)] [] [] [4] [] (cs := [(decide (p0.Epoch = p1.Epoch)) = true, (decide (p0.Vote = p1.Vote)) = false]) (S' := ⟨[(4, .B false)], []⟩) (by kernel_rfl) (And.intro (decide_eq_true c1) (decide_eq_false c2)) ?_
      refine awp_ret ?_
      have hr := Option.some.inj h
      subst hr
      exact ⟨.inr rfl, .B false, by kernel_rfl, by kernel_rfl, by kernel_rfl⟩
  · refine awp_region L 204 [(5, false)] [] [] [4] [] (cs := [(decide (p0.Epoch = p1.Epoch)) = false]) (S' := ⟨[(4, .B false)], []⟩) (by kernel_rfl) (decide_eq_false c1) ?_
    refine awp_ret ?_
    have hr := Option.some.inj h
    subst hr
    exact ⟨.inr rfl, .B false, by kernel_rfl, by kernel_rfl, by kernel_rfl⟩

theorem replog_Same.okE {K : Nat} {p0 : api_Replica} {p1 : api_Replica} {r : Bool} (h : replog_Same K p0 p1 = some r) : ECall V P 26 [.agg [.I p0.Epoch, .I p0.Vote, .I p0.Commit, .ro Tag.t_api_Entry p0.Log], .agg [.I p1.Epoch, .I p1.Vote, .I p1.Commit, .ro Tag.t_api_Entry p1.Log]] [] [] (.B r) [] :=
  ecall_of (fn := Try.f26) (n := 31) (m := 100) (by kernel_rfl) (by kernel_rfl) (by kernel_rfl) rfl (by kernel_rfl) (by kernel_rfl) fun Γ => replog_Same.body h

theorem replog_Same.ok {K : Nat} {p0 : api_Replica} {p1 : api_Replica} {r : Bool} (h : replog_Same K p0 p1 = some r) : PCall V P 26 [.agg [.I p0.Epoch, .I p0.Vote, .I p0.Commit, .ro Tag.t_api_Entry p0.Log], .agg [.I p1.Epoch, .I p1.Vote, .I p1.Commit, .ro Tag.t_api_Entry p1.Log]] (.B r) := (replog_Same.okE h).pcall (by kernel_rfl)


end Go.Proofs.Ytmafcdkdcfaajaa
