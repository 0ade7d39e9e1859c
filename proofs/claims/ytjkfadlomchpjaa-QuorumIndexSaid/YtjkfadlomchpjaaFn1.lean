/- What functions of the program compute, as Lean functions, and that they compute it. -/
import Derived.Test.YtjkfadlomchpjaaSvc
set_option linter.unusedVariables false
namespace Go.Proofs.Ytjkfadlomchpjaa
open Eng

def quorum_Majority (K : Nat) (p0 : Int) : Option Int := (if p0 < 1 then some 0 else some ((IntKind.i64.wrap ((IntKind.i64.wrap (Int.tdiv p0 2)) + 1))))

theorem quorum_Majority.body {Γ : Ent} {K : Nat} {p0 : Int} {r : Int} (h : quorum_Majority K p0 = some r) : AWp V P 8 0 Γ (Try.f10.body.getD .skip) (Eng.Ends P V Try.f10 (.cv (.lit (.int .i64 r)))) ⟨args0 0 [.cv (.lit (.int .i64 p0))], []⟩ := by
  unfold quorum_Majority at h
  refine awp_seq ?_
  refine awp_region L 0 [] [] [0] [] (cs := []) (S' := ⟨[(0, .cv (.lit (.int .i64 p0)))], []⟩) (by kernel_rfl) trivial ?_
  refine awp_seq ?_
  refine awp_seq ?_
  refine awp_region L 2 [] [] [0, 4] [] (cs := []) (S' := ⟨[(0, .cv (.lit (.int .i64 p0))), (4, .cv (.lit (.bool ((decide (p0 < 1))))))], []⟩) (by kernel_rfl) trivial ?_
  rcases ite_some h with ⟨c1, h⟩ | ⟨c1, h⟩
  · refine awp_true (b := (decide (p0 < 1))) (by kernel_rfl) (decide_eq_true c1) ?_
    refine awp_seq ?_
    refine awp_region L 5 [] [] [2] [] (cs := []) (S' := ⟨[(2, .cv (.lit (.int .i64 0)))], []⟩) (by kernel_rfl) trivial ?_
    refine awp_ret ?_
    have hr := Option.some.inj h
    subst hr
    exact ⟨.inr rfl, .cv (.lit (.int .i64 0)), by kernel_rfl, by kernel_rfl, trivial, by kernel_rfl⟩
  · refine awp_false (b := (decide (p0 < 1))) (by kernel_rfl) (decide_eq_false c1) ?_
    refine awp_skip [0] [] (S' := ⟨[(0, .cv (.lit (.int .i64 p0)))], []⟩) (by kernel_rfl) ?_
    refine awp_seq ?_
    refine awp_region L 7 [] [] [2] [] (cs := [2 ≠ (0 : Int)]) (S' := ⟨[(2, .cv (.lit (.int .i64 ((IntKind.i64.wrap ((IntKind.i64.wrap (Int.tdiv p0 2)) + 1))))))], []⟩) (by kernel_rfl) (show 2 ≠ (0 : Int) from by decide) ?_
    refine awp_ret ?_
    have hr := Option.some.inj h
    subst hr
    exact ⟨.inr rfl, .cv (.lit (.int .i64 ((IntKind.i64.wrap ((IntKind.i64.wrap (Int.tdiv p0 2)) + 1))))), by kernel_rfl, by kernel_rfl, trivial, by kernel_rfl⟩

theorem quorum_Majority.ok {K : Nat} {p0 : Int} {r : Int} (h : quorum_Majority K p0 = some r) : PCall V P 10 [.cv (.lit (.int .i64 p0))] (.cv (.lit (.int .i64 r))) :=
  pcall_of (fn := Try.f10) (n := 8) (by kernel_rfl) (by kernel_rfl) (by kernel_rfl) rfl (by kernel_rfl) (by kernel_rfl) fun Γ => quorum_Majority.body h

def quorum_Won (K : Nat) (p0 : Int) (p1 : Int) : Option Bool := (if p1 ≥ 1 then (Option.bind (quorum_Majority K p1) (fun a1 => some ((decide (p0 ≥ a1))))) else some false)

theorem quorum_Won.body {Γ : Ent} {K : Nat} {p0 : Int} {p1 : Int} {r : Bool} (h : quorum_Won K p0 p1 = some r) : AWp V P 13 0 Γ (Try.f13.body.getD .skip) (Eng.Ends P V Try.f13 (.cv (.lit (.bool r)))) ⟨args0 0 [.cv (.lit (.int .i64 p0)), .cv (.lit (.int .i64 p1))], []⟩ := by
  unfold quorum_Won at h
  refine awp_seq ?_
  refine awp_region L 0 [] [] [0, 1] [] (cs := []) (S' := ⟨[(0, .cv (.lit (.int .i64 p0))), (1, .cv (.lit (.int .i64 p1)))], []⟩) (by kernel_rfl) trivial ?_
  refine awp_seq ?_
  rcases ite_some h with ⟨c1, h⟩ | ⟨c1, h⟩
  · obtain ⟨a1, h1, h⟩ := bind_some h
    refine awp_region L 2 [(2, true)] [(5, .cv (.lit (.int .i64 a1)))] [4] [] (cs := [(decide (p1 ≥ 1)) = true, PCall V P 10 [.cv (.lit (.int .i64 p1))] (.cv (.lit (.int .i64 a1))), True]) (S' := ⟨[(4, .cv (.lit (.bool ((decide (p0 ≥ a1))))))], []⟩) (by kernel_rfl) (And.intro (decide_eq_true c1) (And.intro (quorum_Majority.ok h1) trivial)) ?_
    refine awp_ret ?_
    have hr := Option.some.inj h
    subst hr
    exact ⟨.inr rfl, .cv (.lit (.bool ((decide (p0 ≥ a1))))), by kernel_rfl, by kernel_rfl, trivial, by kernel_rfl⟩
  · refine awp_region L 2 [(2, false)] [] [4] [] (cs := [(decide (p1 ≥ 1)) = false]) (S' := ⟨[(4, .cv (.lit (.bool false)))], []⟩) (by kernel_rfl) (decide_eq_false c1) ?_
    refine awp_ret ?_
    have hr := Option.some.inj h
    subst hr
    exact ⟨.inr rfl, .cv (.lit (.bool false)), by kernel_rfl, by kernel_rfl, trivial, by kernel_rfl⟩

theorem quorum_Won.ok {K : Nat} {p0 : Int} {p1 : Int} {r : Bool} (h : quorum_Won K p0 p1 = some r) : PCall V P 13 [.cv (.lit (.int .i64 p0)), .cv (.lit (.int .i64 p1))] (.cv (.lit (.bool r))) :=
  pcall_of (fn := Try.f13) (n := 13) (by kernel_rfl) (by kernel_rfl) (by kernel_rfl) rfl (by kernel_rfl) (by kernel_rfl) fun Γ => quorum_Won.body h

def quorum_Index (K : Nat) (p0 : List Int) : Option Int := (if (p0.length : Int) = 0 then some 0 else (if p0.length * 8 ≤ 140737488351232 then (Option.bind (quorum_Majority K ((((p0.mergeSort (fun x y => decide (x ≤ y)))).length : Int))) (fun a1 => (if (0 : Int) ≤ (IntKind.i64.wrap ((((p0.mergeSort (fun x y => decide (x ≤ y)))).length : Int) - a1)) ∧ ((IntKind.i64.wrap ((((p0.mergeSort (fun x y => decide (x ≤ y)))).length : Int) - a1)) : Int) < (((p0.mergeSort (fun x y => decide (x ≤ y)))).length : Int) then (if (Int.toNat ((IntKind.i64.wrap ((((p0.mergeSort (fun x y => decide (x ≤ y)))).length : Int) - a1)))) < ((p0.mergeSort (fun x y => decide (x ≤ y)))).length then some ((if (0 : Int) > (((p0.mergeSort (fun x y => decide (x ≤ y)))).getD ((Int.toNat ((IntKind.i64.wrap ((((p0.mergeSort (fun x y => decide (x ≤ y)))).length : Int) - a1))))) (0 : Int)) then 0 else (((p0.mergeSort (fun x y => decide (x ≤ y)))).getD ((Int.toNat ((IntKind.i64.wrap ((((p0.mergeSort (fun x y => decide (x ≤ y)))).length : Int) - a1))))) (0 : Int)))) else none) else none))) else none))

theorem quorum_Index.body {Γ : Ent} {K : Nat} {p0 : List Int} {r : Int} (h : quorum_Index K p0 = some r) : AWp V P 20 0 Γ (Try.f8.body.getD .skip) (Eng.Ends P V Try.f8 (.cv (.lit (.int .i64 r)))) ⟨args0 0 [.cv (.ro Tag.t_int p0)], []⟩ := by
  unfold quorum_Index at h
  refine awp_seq ?_
  refine awp_region L 0 [] [] [0] [] (cs := []) (S' := ⟨[(0, .cv (.ro Tag.t_int p0))], []⟩) (by kernel_rfl) trivial ?_
  refine awp_seq ?_
  refine awp_seq ?_
  refine awp_region L 2 [] [] [0, 6] [] (cs := []) (S' := ⟨[(0, .cv (.ro Tag.t_int p0)), (6, .cv (.lit (.bool ((decide ((p0.length : Int) = 0))))))], []⟩) (by kernel_rfl) trivial ?_
  rcases ite_some h with ⟨c1, h⟩ | ⟨c1, h⟩
  · refine awp_true (b := (decide ((p0.length : Int) = 0))) (by kernel_rfl) (decide_eq_true c1) ?_
    refine awp_seq ?_
    refine awp_region L 6 [] [] [2] [] (cs := []) (S' := ⟨[(2, .cv (.lit (.int .i64 0)))], []⟩) (by kernel_rfl) trivial ?_
    refine awp_ret ?_
    have hr := Option.some.inj h
    subst hr
    exact ⟨.inr rfl, .cv (.lit (.int .i64 0)), by kernel_rfl, by kernel_rfl, trivial, by kernel_rfl⟩
  · refine awp_false (b := (decide ((p0.length : Int) = 0))) (by kernel_rfl) (decide_eq_false c1) ?_
    refine awp_skip [0] [] (S' := ⟨[(0, .cv (.ro Tag.t_int p0))], []⟩) (by kernel_rfl) ?_
    refine awp_seq ?_
    obtain ⟨g1, h⟩ := guard_some h
    refine awp_region L 8 [] [(1, .cv (.fn (.func 25) [] [.pcs [.ro Tag.t_int p0] 0])), (2, .cv (.ron Tag.t_int (p0.mergeSort (fun x y => decide (x ≤ y)))))] [3] [10] (cs := [PCall V P 21 [.cv (.ro Tag.t_int p0)] (.cv (.fn (.func 25) [] [.pcs [.ro Tag.t_int p0] 0])), True, FCall V P 20 [.cv (.fn (.func 25) [] [.pcs [.ro Tag.t_int p0] 0])] Tag.t_int (p0.mergeSort (fun x y => decide (x ≤ y)))]) (S' := ⟨[(3, .cv (.own Tag.t_int 10))], [(10, .lst Tag.t_int ((p0.mergeSort (fun x y => decide (x ≤ y)))))]⟩) (by kernel_rfl) (And.intro (slices_Values.ok p0) (And.intro trivial (slices_Sorted.okF p0 g1))) ?_
    refine awp_seq ?_
    obtain ⟨a1, h1, h⟩ := bind_some h
    obtain ⟨g2, h⟩ := guard_some h
    obtain ⟨g3, h⟩ := guard_some h
    refine awp_region L 13 [] [(5, .cv (.lit (.int .i64 a1)))] [2] [] (cs := [PCall V P 10 [.cv (.lit (.int .i64 ((((p0.mergeSort (fun x y => decide (x ≤ y)))).length : Int))))] (.cv (.lit (.int .i64 a1))), True, (0 : Int) ≤ (IntKind.i64.wrap ((((p0.mergeSort (fun x y => decide (x ≤ y)))).length : Int) - a1)), ((IntKind.i64.wrap ((((p0.mergeSort (fun x y => decide (x ≤ y)))).length : Int) - a1)) : Int) < (((p0.mergeSort (fun x y => decide (x ≤ y)))).length : Int), (Int.toNat ((IntKind.i64.wrap ((((p0.mergeSort (fun x y => decide (x ≤ y)))).length : Int) - a1)))) < ((p0.mergeSort (fun x y => decide (x ≤ y)))).length]) (S' := ⟨[(2, .cv (.lit (.int .i64 ((if (0 : Int) > (((p0.mergeSort (fun x y => decide (x ≤ y)))).getD ((Int.toNat ((IntKind.i64.wrap ((((p0.mergeSort (fun x y => decide (x ≤ y)))).length : Int) - a1))))) (0 : Int)) then 0 else (((p0.mergeSort (fun x y => decide (x ≤ y)))).getD ((Int.toNat ((IntKind.i64.wrap ((((p0.mergeSort (fun x y => decide (x ≤ y)))).length : Int) - a1))))) (0 : Int)))))))], []⟩) (by kernel_rfl) (And.intro (quorum_Majority.ok h1) (And.intro trivial (And.intro g2.1 (And.intro g2.2 g3)))) ?_
    refine awp_ret ?_
    have hr := Option.some.inj h
    subst hr
    exact ⟨.inr rfl, .cv (.lit (.int .i64 ((if (0 : Int) > (((p0.mergeSort (fun x y => decide (x ≤ y)))).getD ((Int.toNat ((IntKind.i64.wrap ((((p0.mergeSort (fun x y => decide (x ≤ y)))).length : Int) - a1))))) (0 : Int)) then 0 else (((p0.mergeSort (fun x y => decide (x ≤ y)))).getD ((Int.toNat ((IntKind.i64.wrap ((((p0.mergeSort (fun x y => decide (x ≤ y)))).length : Int) - a1))))) (0 : Int)))))), by kernel_rfl, by kernel_rfl, trivial, by kernel_rfl⟩

theorem quorum_Index.ok {K : Nat} {p0 : List Int} {r : Int} (h : quorum_Index K p0 = some r) : PCall V P 8 [.cv (.ro Tag.t_int p0)] (.cv (.lit (.int .i64 r))) :=
  pcall_of (fn := Try.f8) (n := 20) (by kernel_rfl) (by kernel_rfl) (by kernel_rfl) rfl (by kernel_rfl) (by kernel_rfl) fun Γ => quorum_Index.body h

def quorum_Commit.l7 (K : Nat) (p0 : api_Replica) : Nat → Int → Option (Out Int Unit)
  | 0, _ => none
  | k + 1, xt5_7h => (if xt5_7h > p0.Commit then (if xt5_7h > 0 then (if (0 : Int) ≤ (IntKind.i64.wrap (xt5_7h - 1)) ∧ ((IntKind.i64.wrap (xt5_7h - 1)) : Int) < (p0.Log.length : Int) then (if ((p0.Log.getD (Int.toNat ((IntKind.i64.wrap (xt5_7h - 1)))) (⟨(0 : Int), ([] : List UInt8)⟩ : api_Entry))).Epoch = p0.Epoch then some (Out.done xt5_7h) else quorum_Commit.l7 K p0 k ((IntKind.i64.wrap (xt5_7h - 1)))) else none) else some (Out.go ())) else some (Out.go ()))

def quorum_Commit (K : Nat) (p0 : api_Replica) (p1 : List Int) : Option Int := (Option.bind (quorum_Index K p1) (fun a1 => (obind (quorum_Commit.l7 K p0 K ((if (p0.Log.length : Int) < a1 then (p0.Log.length : Int) else a1)) : Option (Out Int Unit)) (fun r => r) (fun _ => some p0.Commit))))

theorem quorum_Commit.body {Γ : Ent} {K : Nat} {p0 : api_Replica} {p1 : List Int} {r : Int} (h : quorum_Commit K p0 p1 = some r) : AWp V P 35 0 Γ (Try.f11.body.getD .skip) (Eng.Ends P V Try.f11 (.cv (.lit (.int .i64 r)))) ⟨args0 0 [.agg [.lit (.int .i64 p0.Epoch), .lit (.int .i64 p0.Vote), .lit (.int .i64 p0.Commit), .ro Tag.t_api_Entry p0.Log], .cv (.ro Tag.t_int p1)], []⟩ := by
  unfold quorum_Commit at h
  refine awp_seq ?_
  refine awp_region L 0 [] [] [1, 2] [0] (cs := []) (S' := ⟨[(1, .cv (.ro Tag.t_int p1)), (2, .cv (.ptr 0 0))], [(0, .raw [.lit (.int .i64 p0.Epoch), .lit (.int .i64 p0.Vote), .lit (.int .i64 p0.Commit), .ro Tag.t_api_Entry p0.Log])]⟩) (by kernel_rfl) trivial ?_
  refine awp_seq ?_
  refine awp_seq ?_
  obtain ⟨a1, h1, h⟩ := bind_some h
  refine awp_draw L mixed 3 [] [(1, .cv (.lit (.int .i64 a1)))] 7 [2, 5] [0] (cs := [PCall V P 8 [.cv (.ro Tag.t_int p1)] (.cv (.lit (.int .i64 a1))), True]) (S' := ⟨[(2, .cv (.ptr 0 0)), (5, .cv (.lit (.int .i64 ((if (p0.Log.length : Int) < a1 then (p0.Log.length : Int) else a1)))))], [(0, .raw [.lit (.int .i64 p0.Epoch), .lit (.int .i64 p0.Vote), .lit (.int .i64 p0.Commit), .ro Tag.t_api_Entry p0.Log])]⟩) (by kernel_rfl) (And.intro (quorum_Index.ok h1) trivial) ?_
  refine awp_block ?_
  refine awp_keep (ts := [2, 5]) (ids := [0]) (S' := ⟨[(2, .cv (.ptr 0 0)), (5, .cv (.lit (.int .i64 ((if (p0.Log.length : Int) < a1 then (p0.Log.length : Int) else a1)))))], [(0, .raw [.lit (.int .i64 p0.Epoch), .lit (.int .i64 p0.Vote), .lit (.int .i64 p0.Commit), .ro Tag.t_api_Entry p0.Log])]⟩) (by kernel_rfl) ?_
  obtain ⟨o1, hp1, h⟩ := obind_some h
  refine awp_mono (Q' := fun e S => (e = .exit 0 ∧ S = ⟨[(2, .cv (.ptr 0 0))], [(0, .raw [.lit (.int .i64 p0.Epoch), .lit (.int .i64 p0.Vote), .lit (.int .i64 p0.Commit), .ro Tag.t_api_Entry p0.Log])]⟩ ∧ Out.go () = o1) ∨ (e = .ret ∧ ∃ a, Out.done a = o1 ∧ Eng.Ends P V Try.f11 (.cv (.lit (.int .i64 a))) .ret S)) (awp_loop (fun k S => ∃ xt5_7h : Int, S = ⟨[(2, .cv (.ptr 0 0)), (5, .cv (.lit (.int .i64 xt5_7h)))], [(0, .raw [.lit (.int .i64 p0.Epoch), .lit (.int .i64 p0.Vote), .lit (.int .i64 p0.Commit), .ro Tag.t_api_Entry p0.Log])]⟩ ∧ quorum_Commit.l7 K p0 k xt5_7h = some o1) ?_ ⟨_, rfl, hp1⟩) ?_
  · clear h hp1
    intro k S hS
    obtain ⟨xt5_7h, rfl, h⟩ := hS
    cases k with
    | zero => cases h
    | succ k =>
    unfold quorum_Commit.l7 at h
    refine awp_seq ?_
    refine awp_seq ?_
    rcases ite_some h with ⟨c1, h⟩ | ⟨c1, h⟩
    · refine awp_region L 11 [(4, true)] [] [2, 5, 19] [0] (cs := [(decide (xt5_7h > p0.Commit)) = true]) (S' := ⟨[(2, .cv (.ptr 0 0)), (5, .cv (.lit (.int .i64 xt5_7h))), (19, .cv (.lit (.bool ((decide (xt5_7h > 0))))))], [(0, .raw [.lit (.int .i64 p0.Epoch), .lit (.int .i64 p0.Vote), .lit (.int .i64 p0.Commit), .ro Tag.t_api_Entry p0.Log])]⟩) (by kernel_rfl) (decide_eq_true c1) ?_
      rcases ite_some h with ⟨c2, h⟩ | ⟨c2, h⟩
      · refine awp_true (b := (decide (xt5_7h > 0))) (by kernel_rfl) (decide_eq_true c2) ?_
        refine awp_skip [2, 5] [0] (S' := ⟨[(2, .cv (.ptr 0 0)), (5, .cv (.lit (.int .i64 xt5_7h)))], [(0, .raw [.lit (.int .i64 p0.Epoch), .lit (.int .i64 p0.Vote), .lit (.int .i64 p0.Commit), .ro Tag.t_api_Entry p0.Log])]⟩) (by kernel_rfl) ?_
        refine awp_seq ?_
        refine awp_block ?_
        refine awp_seq ?_
        obtain ⟨g1, h⟩ := guard_some h
        refine awp_draw L mixed 20 [] [] 10 [2, 5, 31] [0] (cs := [(0 : Int) ≤ (IntKind.i64.wrap (xt5_7h - 1)), ((IntKind.i64.wrap (xt5_7h - 1)) : Int) < (p0.Log.length : Int)]) (S' := ⟨[(2, .cv (.ptr 0 0)), (5, .cv (.lit (.int .i64 xt5_7h))), (31, .cv (.lit (.bool ((decide (((p0.Log.getD (Int.toNat ((IntKind.i64.wrap (xt5_7h - 1)))) (⟨(0 : Int), ([] : List UInt8)⟩ : api_Entry))).Epoch = p0.Epoch))))))], [(0, .raw [.lit (.int .i64 p0.Epoch), .lit (.int .i64 p0.Vote), .lit (.int .i64 p0.Commit), .ro Tag.t_api_Entry p0.Log])]⟩) (by kernel_rfl) (And.intro g1.1 g1.2) ?_
        rcases ite_some h with ⟨c3, h⟩ | ⟨c3, h⟩
        · refine awp_true (b := (decide (((p0.Log.getD (Int.toNat ((IntKind.i64.wrap (xt5_7h - 1)))) (⟨(0 : Int), ([] : List UInt8)⟩ : api_Entry))).Epoch = p0.Epoch))) (by kernel_rfl) (decide_eq_true c3) ?_
          refine awp_seq ?_
          refine awp_region L 31 [] [] [4] [] (cs := []) (S' := ⟨[(4, .cv (.lit (.int .i64 xt5_7h)))], []⟩) (by kernel_rfl) trivial ?_
          refine awp_ret ?_
          have hr := Option.some.inj h
          subst hr
          exact .inr ⟨rfl, _, rfl, ⟨.inr rfl, .cv (.lit (.int .i64 xt5_7h)), by kernel_rfl, by kernel_rfl, trivial, by kernel_rfl⟩⟩
        · refine awp_false (b := (decide (((p0.Log.getD (Int.toNat ((IntKind.i64.wrap (xt5_7h - 1)))) (⟨(0 : Int), ([] : List UInt8)⟩ : api_Entry))).Epoch = p0.Epoch))) (by kernel_rfl) (decide_eq_false c3) ?_
          refine awp_skip [2, 5] [0] (S' := ⟨[(2, .cv (.ptr 0 0)), (5, .cv (.lit (.int .i64 xt5_7h)))], [(0, .raw [.lit (.int .i64 p0.Epoch), .lit (.int .i64 p0.Vote), .lit (.int .i64 p0.Commit), .ro Tag.t_api_Entry p0.Log])]⟩) (by kernel_rfl) ?_
          refine awp_region L 34 [] [] [2, 5] [0] (cs := []) (S' := ⟨[(2, .cv (.ptr 0 0)), (5, .cv (.lit (.int .i64 ((IntKind.i64.wrap (xt5_7h - 1))))))], [(0, .raw [.lit (.int .i64 p0.Epoch), .lit (.int .i64 p0.Vote), .lit (.int .i64 p0.Commit), .ro Tag.t_api_Entry p0.Log])]⟩) (by kernel_rfl) trivial ?_
          exact ⟨k, Nat.lt_succ_self k, _, rfl, h⟩
      · refine awp_false (b := (decide (xt5_7h > 0))) (by kernel_rfl) (decide_eq_false c2) ?_
        refine awp_exit [2] [0] (S' := ⟨[(2, .cv (.ptr 0 0))], [(0, .raw [.lit (.int .i64 p0.Epoch), .lit (.int .i64 p0.Vote), .lit (.int .i64 p0.Commit), .ro Tag.t_api_Entry p0.Log])]⟩) (by kernel_rfl) ?_
        have hr := Option.some.inj h
        subst hr
        exact .inl ⟨rfl, rfl, rfl⟩
    · refine awp_region L 11 [(4, false)] [] [2, 5, 19] [0] (cs := [(decide (xt5_7h > p0.Commit)) = false]) (S' := ⟨[(2, .cv (.ptr 0 0)), (5, .cv (.lit (.int .i64 xt5_7h))), (19, .cv (.lit (.bool false)))], [(0, .raw [.lit (.int .i64 p0.Epoch), .lit (.int .i64 p0.Vote), .lit (.int .i64 p0.Commit), .ro Tag.t_api_Entry p0.Log])]⟩) (by kernel_rfl) (decide_eq_false c1) ?_
      refine awp_false (b := false) (by kernel_rfl) (rfl) ?_
      refine awp_exit [2] [0] (S' := ⟨[(2, .cv (.ptr 0 0))], [(0, .raw [.lit (.int .i64 p0.Epoch), .lit (.int .i64 p0.Vote), .lit (.int .i64 p0.Commit), .ro Tag.t_api_Entry p0.Log])]⟩) (by kernel_rfl) ?_
      have hr := Option.some.inj h
      subst hr
      exact .inl ⟨rfl, rfl, rfl⟩
  · rintro e S (⟨rfl, rfl, rfl⟩ | ⟨rfl, a, rfl, hr⟩)
    · rcases h with ⟨_, e1, h⟩ | ⟨_, e1, h⟩
      · cases e1
      · have e2 := Out.go.inj e1
        subst e2
        refine awp_seq ?_
        refine awp_region L 38 [] [] [4] [] (cs := []) (S' := ⟨[(4, .cv (.lit (.int .i64 p0.Commit)))], []⟩) (by kernel_rfl) trivial ?_
        refine awp_ret ?_
        have hr := Option.some.inj h
        subst hr
        exact ⟨.inr rfl, .cv (.lit (.int .i64 p0.Commit)), by kernel_rfl, by kernel_rfl, trivial, by kernel_rfl⟩
    · rcases h with ⟨_, e1, h⟩ | ⟨_, e1, h⟩
      · have e2 := Out.done.inj e1
        subst e2
        subst h
        exact hr
      · cases e1

theorem quorum_Commit.ok {K : Nat} {p0 : api_Replica} {p1 : List Int} {r : Int} (h : quorum_Commit K p0 p1 = some r) : PCall V P 11 [.agg [.lit (.int .i64 p0.Epoch), .lit (.int .i64 p0.Vote), .lit (.int .i64 p0.Commit), .ro Tag.t_api_Entry p0.Log], .cv (.ro Tag.t_int p1)] (.cv (.lit (.int .i64 r))) :=
  pcall_of (fn := Try.f11) (n := 35) (by kernel_rfl) (by kernel_rfl) (by kernel_rfl) rfl (by kernel_rfl) (by kernel_rfl) fun Γ => quorum_Commit.body h

def workflowlaw53_lives (K : Nat) : Option Bool := (Option.bind (quorum_Majority K 5) (fun a1 => (if a1 = 3 then (Option.bind (quorum_Won K 2 4) (fun a2 => (if a2 = true then some false else (Option.bind (quorum_Index K ([5, 3, 1] : List Int)) (fun a3 => (if a3 = 3 then (Option.bind (quorum_Index K ([5, 1] : List Int)) (fun a4 => (if a4 = 1 then (Option.bind (quorum_Commit K ((⟨2, 0, 0, ([(⟨1, ([] : List UInt8)⟩ : api_Entry), (⟨1, ([] : List UInt8)⟩ : api_Entry), (⟨2, ([] : List UInt8)⟩ : api_Entry)] : List api_Entry)⟩ : api_Replica)) ([3, 2, 0] : List Int)) (fun a5 => (if a5 = 0 then (Option.bind (quorum_Commit K ((⟨2, 0, 0, ([(⟨1, ([] : List UInt8)⟩ : api_Entry), (⟨1, ([] : List UInt8)⟩ : api_Entry), (⟨2, ([] : List UInt8)⟩ : api_Entry)] : List api_Entry)⟩ : api_Replica)) ([3, 3, 0] : List Int)) (fun a6 => some ((decide (a6 = 3))))) else some false))) else some false))) else some false)))))) else some false)))

theorem workflowlaw53_lives.body {Γ : Ent} {K : Nat} {r : Bool} (h : workflowlaw53_lives K = some r) : AWp V P 35 0 Γ (Try.f7.body.getD .skip) (Eng.Ends P V Try.f7 (.cv (.lit (.bool r)))) ⟨args0 0 [], []⟩ := by
  unfold workflowlaw53_lives at h
  refine awp_seq ?_
  refine awp_region L 0 [] [] [] [] (cs := []) (S' := ⟨[], []⟩) (by kernel_rfl) trivial ?_
  refine awp_seq ?_
  refine awp_region L 2 [] [] [1] [7] (cs := []) (S' := ⟨[(1, .cv (.ptr 7 0))], [(7, .raw [.lit (.int .i64 2), .lit (.int .i64 0), .lit (.int .i64 0), .ro Tag.t_api_Entry (([(⟨1, ([] : List UInt8)⟩ : api_Entry), (⟨1, ([] : List UInt8)⟩ : api_Entry), (⟨2, ([] : List UInt8)⟩ : api_Entry)] : List api_Entry))])]⟩) (by kernel_rfl) trivial ?_
  refine awp_seq ?_
  obtain ⟨a1, h1, h⟩ := bind_some h
  rcases ite_some h with ⟨c1, h⟩ | ⟨c1, h⟩
  · obtain ⟨a2, h2, h⟩ := bind_some h
    rcases ite_some h with ⟨c2, h⟩ | ⟨c2, h⟩
    · refine awp_region L 10 [(2, true), (6, false)] [(0, .cv (.lit (.int .i64 a1))), (3, .cv (.lit (.bool a2)))] [0] [] (cs := [PCall V P 10 [.cv (.lit (.int .i64 5))] (.cv (.lit (.int .i64 a1))), True, (decide (a1 = 3)) = true, PCall V P 13 [.cv (.lit (.int .i64 2)), .cv (.lit (.int .i64 4))] (.cv (.lit (.bool a2))), True, (!a2) = false]) (S' := ⟨[(0, .cv (.lit (.bool false)))], []⟩) (by kernel_rfl) (And.intro (quorum_Majority.ok h1) (And.intro trivial (And.intro (decide_eq_true c1) (And.intro (quorum_Won.ok h2) (And.intro trivial (congrArg Bool.not (c2))))))) ?_
      refine awp_ret ?_
      have hr := Option.some.inj h
      subst hr
      exact ⟨.inr rfl, .cv (.lit (.bool false)), by kernel_rfl, by kernel_rfl, trivial, by kernel_rfl⟩
    · obtain ⟨a3, h3, h⟩ := bind_some h
      rcases ite_some h with ⟨c3, h⟩ | ⟨c3, h⟩
      · obtain ⟨a4, h4, h⟩ := bind_some h
        rcases ite_some h with ⟨c4, h⟩ | ⟨c4, h⟩
        · obtain ⟨a5, h5, h⟩ := bind_some h
          rcases ite_some h with ⟨c5, h⟩ | ⟨c5, h⟩
          · obtain ⟨a6, h6, h⟩ := bind_some h
            refine awp_region L 10 [(2, true), (6, true), (11, true), (16, true), (22, true)] [(0, .cv (.lit (.int .i64 a1))), (3, .cv (.lit (.bool a2))), (8, .cv (.lit (.int .i64 a3))), (13, .cv (.lit (.int .i64 a4))), (19, .cv (.lit (.int .i64 a5))), (25, .cv (.lit (.int .i64 a6)))] [0] [] (cs := [PCall V P 10 [.cv (.lit (.int .i64 5))] (.cv (.lit (.int .i64 a1))), True, (decide (a1 = 3)) = true, PCall V P 13 [.cv (.lit (.int .i64 2)), .cv (.lit (.int .i64 4))] (.cv (.lit (.bool a2))), True, (!a2) = true, PCall V P 8 [.cv (.ro Tag.t_int ([5, 3, 1] : List Int))] (.cv (.lit (.int .i64 a3))), True, (decide (a3 = 3)) = true, PCall V P 8 [.cv (.ro Tag.t_int ([5, 1] : List Int))] (.cv (.lit (.int .i64 a4))), True, (decide (a4 = 1)) = true, PCall V P 11 [.agg [.lit (.int .i64 2), .lit (.int .i64 0), .lit (.int .i64 0), .ro Tag.t_api_Entry (([(⟨1, ([] : List UInt8)⟩ : api_Entry), (⟨1, ([] : List UInt8)⟩ : api_Entry), (⟨2, ([] : List UInt8)⟩ : api_Entry)] : List api_Entry))], .cv (.ro Tag.t_int ([3, 2, 0] : List Int))] (.cv (.lit (.int .i64 a5))), True, (decide (a5 = 0)) = true, PCall V P 11 [.agg [.lit (.int .i64 2), .lit (.int .i64 0), .lit (.int .i64 0), .ro Tag.t_api_Entry (([(⟨1, ([] : List UInt8)⟩ : api_Entry), (⟨1, ([] : List UInt8)⟩ : api_Entry), (⟨2, ([] : List UInt8)⟩ : api_Entry)] : List api_Entry))], .cv (.ro Tag.t_int ([3, 3, 0] : List Int))] (.cv (.lit (.int .i64 a6))), True]) (S' := ⟨[(0, .cv (.lit (.bool ((decide (a6 = 3))))))], []⟩) (by kernel_rfl) (And.intro (quorum_Majority.ok h1) (And.intro trivial (And.intro (decide_eq_true c1) (And.intro (quorum_Won.ok h2) (And.intro trivial (And.intro (congrArg Bool.not (eq_false_of_ne_true c2)) (And.intro (quorum_Index.ok h3) (And.intro trivial (And.intro (decide_eq_true c3) (And.intro (quorum_Index.ok h4) (And.intro trivial (And.intro (decide_eq_true c4) (And.intro (quorum_Commit.ok h5) (And.intro trivial (And.intro (decide_eq_true c5) (And.intro (quorum_Commit.ok h6) trivial)))))))))))))))) ?_
            refine awp_ret ?_
            have hr := Option.some.inj h
            subst hr
            exact ⟨.inr rfl, .cv (.lit (.bool ((decide (a6 = 3))))), by kernel_rfl, by kernel_rfl, trivial, by kernel_rfl⟩
          · refine awp_region L 10 [(2, true), (6, true), (11, true), (16, true), (22, false)] [(0, .cv (.lit (.int .i64 a1))), (3, .cv (.lit (.bool a2))), (8, .cv (.lit (.int .i64 a3))), (13, .cv (.lit (.int .i64 a4))), (19, .cv (.lit (.int .i64 a5)))] [0] [] (cs := [PCall V P 10 [.cv (.lit (.int .i64 5))] (.cv (.lit (.int .i64 a1))), True, (decide (a1 = 3)) = true, PCall V P 13 [.cv (.lit (.int .i64 2)), .cv (.lit (.int .i64 4))] (.cv (.lit (.bool a2))), True, (!a2) = true, PCall V P 8 [.cv (.ro Tag.t_int ([5, 3, 1] : List Int))] (.cv (.lit (.int .i64 a3))), True, (decide (a3 = 3)) = true, PCall V P 8 [.cv (.ro Tag.t_int ([5, 1] : List Int))] (.cv (.lit (.int .i64 a4))), True, (decide (a4 = 1)) = true, PCall V P 11 [.agg [.lit (.int .i64 2), .lit (.int .i64 0), .lit (.int .i64 0), .ro Tag.t_api_Entry (([(⟨1, ([] : List UInt8)⟩ : api_Entry), (⟨1, ([] : List UInt8)⟩ : api_Entry), (⟨2, ([] : List UInt8)⟩ : api_Entry)] : List api_Entry))], .cv (.ro Tag.t_int ([3, 2, 0] : List Int))] (.cv (.lit (.int .i64 a5))), True, (decide (a5 = 0)) = false]) (S' := ⟨[(0, .cv (.lit (.bool false)))], []⟩) (by kernel_rfl) (And.intro (quorum_Majority.ok h1) (And.intro trivial (And.intro (decide_eq_true c1) (And.intro (quorum_Won.ok h2) (And.intro trivial (And.intro (congrArg Bool.not (eq_false_of_ne_true c2)) (And.intro (quorum_Index.ok h3) (And.intro trivial (And.intro (decide_eq_true c3) (And.intro (quorum_Index.ok h4) (And.intro trivial (And.intro (decide_eq_true c4) (And.intro (quorum_Commit.ok h5) (And.intro trivial (decide_eq_false c5))))))))))))))) ?_
            refine awp_ret ?_
            have hr := Option.some.inj h
            subst hr
            exact ⟨.inr rfl, .cv (.lit (.bool false)), by kernel_rfl, by kernel_rfl, trivial, by kernel_rfl⟩
        · refine awp_region L 10 [(2, true), (6, true), (11, true), (16, false)] [(0, .cv (.lit (.int .i64 a1))), (3, .cv (.lit (.bool a2))), (8, .cv (.lit (.int .i64 a3))), (13, .cv (.lit (.int .i64 a4)))] [0] [] (cs := [PCall V P 10 [.cv (.lit (.int .i64 5))] (.cv (.lit (.int .i64 a1))), True, (decide (a1 = 3)) = true, PCall V P 13 [.cv (.lit (.int .i64 2)), .cv (.lit (.int .i64 4))] (.cv (.lit (.bool a2))), True, (!a2) = true, PCall V P 8 [.cv (.ro Tag.t_int ([5, 3, 1] : List Int))] (.cv (.lit (.int .i64 a3))), True, (decide (a3 = 3)) = true, PCall V P 8 [.cv (.ro Tag.t_int ([5, 1] : List Int))] (.cv (.lit (.int .i64 a4))), True, (decide (a4 = 1)) = false]) (S' := ⟨[(0, .cv (.lit (.bool false)))], []⟩) (by kernel_rfl) (And.intro (quorum_Majority.ok h1) (And.intro trivial (And.intro (decide_eq_true c1) (And.intro (quorum_Won.ok h2) (And.intro trivial (And.intro (congrArg Bool.not (eq_false_of_ne_true c2)) (And.intro (quorum_Index.ok h3) (And.intro trivial (And.intro (decide_eq_true c3) (And.intro (quorum_Index.ok h4) (And.intro trivial (decide_eq_false c4)))))))))))) ?_
          refine awp_ret ?_
          have hr := Option.some.inj h
          subst hr
          exact ⟨.inr rfl, .cv (.lit (.bool false)), by kernel_rfl, by kernel_rfl, trivial, by kernel_rfl⟩
      · refine awp_region L 10 [(2, true), (6, true), (11, false)] [(0, .cv (.lit (.int .i64 a1))), (3, .cv (.lit (.bool a2))), (8, .cv (.lit (.int .i64 a3)))] [0] [] (cs := [PCall V P 10 [.cv (.lit (.int .i64 5))] (.cv (.lit (.int .i64 a1))), True, (decide (a1 = 3)) = true, PCall V P 13 [.cv (.lit (.int .i64 2)), .cv (.lit (.int .i64 4))] (.cv (.lit (.bool a2))), True, (!a2) = true, PCall V P 8 [.cv (.ro Tag.t_int ([5, 3, 1] : List Int))] (.cv (.lit (.int .i64 a3))), True, (decide (a3 = 3)) = false]) (S' := ⟨[(0, .cv (.lit (.bool false)))], []⟩) (by kernel_rfl) (And.intro (quorum_Majority.ok h1) (And.intro trivial (And.intro (decide_eq_true c1) (And.intro (quorum_Won.ok h2) (And.intro trivial (And.intro (congrArg Bool.not (eq_false_of_ne_true c2)) (And.intro (quorum_Index.ok h3) (And.intro trivial (decide_eq_false c3))))))))) ?_
        refine awp_ret ?_
        have hr := Option.some.inj h
        subst hr
        exact ⟨.inr rfl, .cv (.lit (.bool false)), by kernel_rfl, by kernel_rfl, trivial, by kernel_rfl⟩
  · refine awp_region L 10 [(2, false)] [(0, .cv (.lit (.int .i64 a1)))] [0] [] (cs := [PCall V P 10 [.cv (.lit (.int .i64 5))] (.cv (.lit (.int .i64 a1))), True, (decide (a1 = 3)) = false]) (S' := ⟨[(0, .cv (.lit (.bool false)))], []⟩) (by kernel_rfl) (And.intro (quorum_Majority.ok h1) (And.intro trivial (decide_eq_false c1))) ?_
    refine awp_ret ?_
    have hr := Option.some.inj h
    subst hr
    exact ⟨.inr rfl, .cv (.lit (.bool false)), by kernel_rfl, by kernel_rfl, trivial, by kernel_rfl⟩

theorem workflowlaw53_lives.ok {K : Nat} {r : Bool} (h : workflowlaw53_lives K = some r) : PCall V P 7 [] (.cv (.lit (.bool r))) :=
  pcall_of (fn := Try.f7) (n := 35) (by kernel_rfl) (by kernel_rfl) (by kernel_rfl) rfl (by kernel_rfl) (by kernel_rfl) fun Γ => workflowlaw53_lives.body h

def workflowlaw53_reach.l9 (K : Nat) (p0 : List Int) (p1 : Int) : Nat → Int → Int → Option Int
  | 0, _, _ => none
  | k + 1, xt5_9h, xt6_9h => (if xt6_9h < (p0.length : Int) then (if (0 : Int) ≤ xt6_9h ∧ (xt6_9h : Int) < (p0.length : Int) then (if (p0.getD (Int.toNat xt6_9h) (0 : Int)) ≥ p1 then workflowlaw53_reach.l9 K p0 p1 k ((IntKind.i64.wrap (xt5_9h + 1))) ((IntKind.i64.wrap (xt6_9h + 1))) else workflowlaw53_reach.l9 K p0 p1 k xt5_9h ((IntKind.i64.wrap (xt6_9h + 1)))) else none) else some xt5_9h)

def workflowlaw53_reach (K : Nat) (p0 : List Int) (p1 : Int) : Option Int := (Option.bind (workflowlaw53_reach.l9 K p0 p1 K 0 0 : Option Int) (fun xt5_9 => some xt5_9))

theorem workflowlaw53_reach.body {Γ : Ent} {K : Nat} {p0 : List Int} {p1 : Int} {r : Int} (h : workflowlaw53_reach K p0 p1 = some r) : AWp V P 22 0 Γ (Try.f9.body.getD .skip) (Eng.Ends P V Try.f9 (.cv (.lit (.int .i64 r)))) ⟨args0 0 [.cv (.ro Tag.t_int p0), .cv (.lit (.int .i64 p1))], []⟩ := by
  unfold workflowlaw53_reach at h
  refine awp_seq ?_
  refine awp_region L 0 [] [] [0, 1] [] (cs := []) (S' := ⟨[(0, .cv (.ro Tag.t_int p0)), (1, .cv (.lit (.int .i64 p1)))], []⟩) (by kernel_rfl) trivial ?_
  refine awp_seq ?_
  refine awp_region L 2 [] [] [0, 1, 5] [] (cs := []) (S' := ⟨[(0, .cv (.ro Tag.t_int p0)), (1, .cv (.lit (.int .i64 p1))), (5, .cv (.lit (.int .i64 0)))], []⟩) (by kernel_rfl) trivial ?_
  refine awp_seq ?_
  refine awp_seq ?_
  refine awp_region L 4 [] [] [0, 1, 5, 6] [] (cs := []) (S' := ⟨[(0, .cv (.ro Tag.t_int p0)), (1, .cv (.lit (.int .i64 p1))), (5, .cv (.lit (.int .i64 0))), (6, .cv (.lit (.int .i64 0)))], []⟩) (by kernel_rfl) trivial ?_
  refine awp_block ?_
  refine awp_keep (ts := [0, 1, 5, 6]) (ids := []) (S' := ⟨[(0, .cv (.ro Tag.t_int p0)), (1, .cv (.lit (.int .i64 p1))), (5, .cv (.lit (.int .i64 0))), (6, .cv (.lit (.int .i64 0)))], []⟩) (by kernel_rfl) ?_
  obtain ⟨o1, hp1, h⟩ := bind_some h
  refine awp_mono (Q' := fun e S => (e = .exit 0 ∧ ∃ xt5_9 : Int, S = ⟨[(5, .cv (.lit (.int .i64 xt5_9)))], []⟩ ∧ xt5_9 = o1)) (awp_loop (fun k S => ∃ xt5_9h : Int, ∃ xt6_9h : Int, S = ⟨[(0, .cv (.ro Tag.t_int p0)), (1, .cv (.lit (.int .i64 p1))), (5, .cv (.lit (.int .i64 xt5_9h))), (6, .cv (.lit (.int .i64 xt6_9h)))], []⟩ ∧ workflowlaw53_reach.l9 K p0 p1 k xt5_9h xt6_9h = some o1) ?_ ⟨_, _, rfl, hp1⟩) ?_
  · clear h hp1
    intro k S hS
    obtain ⟨xt5_9h, xt6_9h, rfl, h⟩ := hS
    cases k with
    | zero => cases h
    | succ k =>
    unfold workflowlaw53_reach.l9 at h
    refine awp_seq ?_
    refine awp_seq ?_
    refine awp_region L 6 [] [] [0, 1, 5, 6, 10] [] (cs := []) (S' := ⟨[(0, .cv (.ro Tag.t_int p0)), (1, .cv (.lit (.int .i64 p1))), (5, .cv (.lit (.int .i64 xt5_9h))), (6, .cv (.lit (.int .i64 xt6_9h))), (10, .cv (.lit (.bool ((decide (xt6_9h < (p0.length : Int)))))))], []⟩) (by kernel_rfl) trivial ?_
    rcases ite_some h with ⟨c1, h⟩ | ⟨c1, h⟩
    · refine awp_true (b := (decide (xt6_9h < (p0.length : Int)))) (by kernel_rfl) (decide_eq_true c1) ?_
      refine awp_skip [0, 1, 5, 6] [] (S' := ⟨[(0, .cv (.ro Tag.t_int p0)), (1, .cv (.lit (.int .i64 p1))), (5, .cv (.lit (.int .i64 xt5_9h))), (6, .cv (.lit (.int .i64 xt6_9h)))], []⟩) (by kernel_rfl) ?_
      refine awp_seq ?_
      refine awp_block ?_
      refine awp_seq ?_
      obtain ⟨g1, h⟩ := guard_some h
      refine awp_region L 11 [] [] [0, 1, 5, 6, 18] [] (cs := [(0 : Int) ≤ xt6_9h, (xt6_9h : Int) < (p0.length : Int)]) (S' := ⟨[(0, .cv (.ro Tag.t_int p0)), (1, .cv (.lit (.int .i64 p1))), (5, .cv (.lit (.int .i64 xt5_9h))), (6, .cv (.lit (.int .i64 xt6_9h))), (18, .cv (.lit (.bool ((decide ((p0.getD (Int.toNat xt6_9h) (0 : Int)) ≥ p1))))))], []⟩) (by kernel_rfl) (And.intro g1.1 g1.2) ?_
      rcases ite_some h with ⟨c2, h⟩ | ⟨c2, h⟩
      · refine awp_true (b := (decide ((p0.getD (Int.toNat xt6_9h) (0 : Int)) ≥ p1))) (by kernel_rfl) (decide_eq_true c2) ?_
        refine awp_region L 18 [] [] [0, 1, 5, 6] [] (cs := []) (S' := ⟨[(0, .cv (.ro Tag.t_int p0)), (1, .cv (.lit (.int .i64 p1))), (5, .cv (.lit (.int .i64 ((IntKind.i64.wrap (xt5_9h + 1)))))), (6, .cv (.lit (.int .i64 xt6_9h)))], []⟩) (by kernel_rfl) trivial ?_
        refine awp_region L 22 [] [] [0, 1, 5, 6] [] (cs := []) (S' := ⟨[(0, .cv (.ro Tag.t_int p0)), (1, .cv (.lit (.int .i64 p1))), (5, .cv (.lit (.int .i64 ((IntKind.i64.wrap (xt5_9h + 1)))))), (6, .cv (.lit (.int .i64 ((IntKind.i64.wrap (xt6_9h + 1))))))], []⟩) (by kernel_rfl) trivial ?_
        exact ⟨k, Nat.lt_succ_self k, _, _, rfl, h⟩
      · refine awp_false (b := (decide ((p0.getD (Int.toNat xt6_9h) (0 : Int)) ≥ p1))) (by kernel_rfl) (decide_eq_false c2) ?_
        refine awp_skip [0, 1, 5, 6] [] (S' := ⟨[(0, .cv (.ro Tag.t_int p0)), (1, .cv (.lit (.int .i64 p1))), (5, .cv (.lit (.int .i64 xt5_9h))), (6, .cv (.lit (.int .i64 xt6_9h)))], []⟩) (by kernel_rfl) ?_
        refine awp_region L 22 [] [] [0, 1, 5, 6] [] (cs := []) (S' := ⟨[(0, .cv (.ro Tag.t_int p0)), (1, .cv (.lit (.int .i64 p1))), (5, .cv (.lit (.int .i64 xt5_9h))), (6, .cv (.lit (.int .i64 ((IntKind.i64.wrap (xt6_9h + 1))))))], []⟩) (by kernel_rfl) trivial ?_
        exact ⟨k, Nat.lt_succ_self k, _, _, rfl, h⟩
    · refine awp_false (b := (decide (xt6_9h < (p0.length : Int)))) (by kernel_rfl) (decide_eq_false c1) ?_
      refine awp_exit [5] [] (S' := ⟨[(5, .cv (.lit (.int .i64 xt5_9h)))], []⟩) (by kernel_rfl) ?_
      have hr := Option.some.inj h
      subst hr
      exact ⟨rfl, _, rfl, rfl⟩
  · rintro e S ⟨rfl, xt5_9, rfl, rfl⟩
    refine awp_seq ?_
    refine awp_region L 26 [] [] [4] [] (cs := []) (S' := ⟨[(4, .cv (.lit (.int .i64 xt5_9)))], []⟩) (by kernel_rfl) trivial ?_
    refine awp_ret ?_
    have hr := Option.some.inj h
    subst hr
    exact ⟨.inr rfl, .cv (.lit (.int .i64 xt5_9)), by kernel_rfl, by kernel_rfl, trivial, by kernel_rfl⟩

theorem workflowlaw53_reach.ok {K : Nat} {p0 : List Int} {p1 : Int} {r : Int} (h : workflowlaw53_reach K p0 p1 = some r) : PCall V P 9 [.cv (.ro Tag.t_int p0), .cv (.lit (.int .i64 p1))] (.cv (.lit (.int .i64 r))) :=
  pcall_of (fn := Try.f9) (n := 22) (by kernel_rfl) (by kernel_rfl) (by kernel_rfl) rfl (by kernel_rfl) (by kernel_rfl) fun Γ => workflowlaw53_reach.body h

def workflowlaw53_QuorumIndex.l25 (K : Nat) (p0 : List Int) (a2 : Int) : Nat → Int → Option (Out Bool Unit)
  | 0, _ => none
  | k + 1, xt8_25h => (if xt8_25h < (p0.length : Int) then (if (0 : Int) ≤ xt8_25h ∧ (xt8_25h : Int) < (p0.length : Int) then (if (p0.getD (Int.toNat xt8_25h) (0 : Int)) > a2 then (Option.bind (workflowlaw53_reach K p0 ((p0.getD (Int.toNat xt8_25h) (0 : Int)))) (fun a5 => (Option.bind (quorum_Majority K (p0.length : Int)) (fun a6 => (if a5 ≥ a6 then some (Out.done false) else workflowlaw53_QuorumIndex.l25 K p0 a2 k ((IntKind.i64.wrap (xt8_25h + 1)))))))) else workflowlaw53_QuorumIndex.l25 K p0 a2 k ((IntKind.i64.wrap (xt8_25h + 1)))) else none) else some (Out.go ()))

def workflowlaw53_QuorumIndex.l48 (K : Nat) (p0 : List Int) : Nat → Int → (List Int) → Option (List Int)
  | 0, _, _ => none
  | k + 1, xt10_48h, xh726_48h => (if xt10_48h ≥ 0 then (if (0 : Int) ≤ xt10_48h ∧ (xt10_48h : Int) < (p0.length : Int) then (if (xh726_48h.length + (([(p0.getD (Int.toNat xt10_48h) (0 : Int))] : List Int)).length) * 8 ≤ 140737488355328 then workflowlaw53_QuorumIndex.l48 K p0 k ((IntKind.i64.wrap (xt10_48h - 1))) ((xh726_48h ++ ([(p0.getD (Int.toNat xt10_48h) (0 : Int))] : List Int))) else none) else none) else some xh726_48h)

def workflowlaw53_QuorumIndex (K : Nat) (p0 : List Int) (p1 : Int) (p2 : Int) : Option Bool := (Option.bind (((if (p0.length : Int) < 1 then some true else (if (p0.length : Int) > 50 then some true else (if p1 < 0 then some true else some ((decide (p2 < 0))))))) : Option Bool) (fun xt27_4 => (if xt27_4 = true then (Option.bind (workflowlaw53_lives K) (fun a1 => some a1)) else (Option.bind (quorum_Index K p0) (fun a2 => (obind (((if a2 < 0 then some (Out.done false) else (if a2 > 0 then (Option.bind (workflowlaw53_reach K p0 a2) (fun a3 => (Option.bind (quorum_Majority K (p0.length : Int)) (fun a4 => (if a3 < a4 then some (Out.done false) else some (Out.go ())))))) else some (Out.go ())))) : Option (Out Bool Unit)) (fun r => r) (fun _ => (obind (workflowlaw53_QuorumIndex.l25 K p0 a2 K 0 : Option (Out Bool Unit)) (fun r => r) (fun _ => (Option.bind (workflowlaw53_QuorumIndex.l48 K p0 K ((IntKind.i64.wrap ((p0.length : Int) - 1))) [] : Option (List Int)) (fun xh726_48 => (if (([] : List Int).length + p0.length) * 8 ≤ 140737488355328 then (if (p0.length : Int) ≠ (0 : Int) then (Option.bind (((Option.bind (((if (0 : Int) ≤ (Int.tmod p1 (p0.length : Int)) ∧ ((Int.tmod p1 (p0.length : Int)) : Int) < (p0.length : Int) then (if (p0.getD (Int.toNat ((Int.tmod p1 (p0.length : Int)))) (0 : Int)) ≤ 1000000 then some ((decide (p2 ≤ 1000000))) else some false) else none)) : Option Bool) (fun xt99_64 => (if xt99_64 = true then (if (0 : Int) ≤ (Int.tmod p1 (p0.length : Int)) ∧ ((Int.tmod p1 (p0.length : Int)) : Int) < (p0.length : Int) then (if ((Int.tmod p1 (p0.length : Int)) : Int) < (((([] : List Int) ++ p0)).length : Int) then (if (Int.toNat ((Int.tmod p1 (p0.length : Int)))) < ((([] : List Int) ++ p0)).length then some ((((([] : List Int) ++ p0)).set ((Int.toNat ((Int.tmod p1 (p0.length : Int))))) ((IntKind.i64.wrap ((p0.getD (Int.toNat ((Int.tmod p1 (p0.length : Int)))) (0 : Int)) + p2))))) else none) else none) else none) else some ((([] : List Int) ++ p0)))))) : Option (List Int)) (fun xh99_63 => (Option.bind (quorum_Index K xh726_48) (fun a7 => (if a7 = a2 then (Option.bind (quorum_Index K xh99_63) (fun a8 => (if a8 ≥ a2 then (Option.bind (workflowlaw53_lives K) (fun a9 => some a9)) else some false))) else some false))))) else none) else none))))))))))))

theorem workflowlaw53_QuorumIndex.body {Γ : Ent} {K : Nat} {p0 : List Int} {p1 : Int} {p2 : Int} {r : Bool} (h : workflowlaw53_QuorumIndex K p0 p1 p2 = some r) : AWp V P 122 0 Γ (Try.f3.body.getD .skip) (Eng.Ends P V Try.f3 (.cv (.lit (.bool r)))) ⟨args0 0 [.cv (.ro Tag.t_int p0), .cv (.lit (.int .i64 p1)), .cv (.lit (.int .i64 p2))], []⟩ := by
  unfold workflowlaw53_QuorumIndex at h
  refine awp_seq ?_
  refine awp_region L 0 [] [] [0, 1, 2] [] (cs := []) (S' := ⟨[(0, .cv (.ro Tag.t_int p0)), (1, .cv (.lit (.int .i64 p1))), (2, .cv (.lit (.int .i64 p2)))], []⟩) (by kernel_rfl) trivial ?_
  refine awp_seq ?_
  obtain ⟨o1, hp1, h⟩ := bind_some h
  refine awp_seq (awp_mono (Q' := fun e S => (e = .normal ∧ ∃ xt27_4 : Bool, S = ⟨[(0, .cv (.ro Tag.t_int p0)), (1, .cv (.lit (.int .i64 p1))), (2, .cv (.lit (.int .i64 p2))), (27, .cv (.lit (.bool xt27_4)))], []⟩ ∧ xt27_4 = o1)) ?_ ?_)
  · clear h
    replace h := hp1
    rcases ite_some h with ⟨c1, h⟩ | ⟨c1, h⟩
    · refine awp_region L 2 [(3, true)] [] [0, 1, 2, 27] [] (cs := [(decide ((p0.length : Int) < 1)) = true]) (S' := ⟨[(0, .cv (.ro Tag.t_int p0)), (1, .cv (.lit (.int .i64 p1))), (2, .cv (.lit (.int .i64 p2))), (27, .cv (.lit (.bool true)))], []⟩) (by kernel_rfl) (decide_eq_true c1) ?_
      have hr := Option.some.inj h
      subst hr
      exact ⟨rfl, _, rfl, rfl⟩
    · rcases ite_some h with ⟨c2, h⟩ | ⟨c2, h⟩
      · refine awp_region L 2 [(3, false), (8, true)] [] [0, 1, 2, 27] [] (cs := [(decide ((p0.length : Int) < 1)) = false, (decide ((p0.length : Int) > 50)) = true]) (S' := ⟨[(0, .cv (.ro Tag.t_int p0)), (1, .cv (.lit (.int .i64 p1))), (2, .cv (.lit (.int .i64 p2))), (27, .cv (.lit (.bool true)))], []⟩) (by kernel_rfl) (And.intro (decide_eq_false c1) (decide_eq_true c2)) ?_
        have hr := Option.some.inj h
        subst hr
        exact ⟨rfl, _, rfl, rfl⟩
      · rcases ite_some h with ⟨c3, h⟩ | ⟨c3, h⟩
        · refine awp_region L 2 [(3, false), (8, false), (12, true)] [] [0, 1, 2, 27] [] (cs := [(decide ((p0.length : Int) < 1)) = false, (decide ((p0.length : Int) > 50)) = false, (decide (p1 < 0)) = true]) (S' := ⟨[(0, .cv (.ro Tag.t_int p0)), (1, .cv (.lit (.int .i64 p1))), (2, .cv (.lit (.int .i64 p2))), (27, .cv (.lit (.bool true)))], []⟩) (by kernel_rfl) (And.intro (decide_eq_false c1) (And.intro (decide_eq_false c2) (decide_eq_true c3))) ?_
          have hr := Option.some.inj h
          subst hr
          exact ⟨rfl, _, rfl, rfl⟩
        · refine awp_region L 2 [(3, false), (8, false), (12, false)] [] [0, 1, 2, 27] [] (cs := [(decide ((p0.length : Int) < 1)) = false, (decide ((p0.length : Int) > 50)) = false, (decide (p1 < 0)) = false]) (S' := ⟨[(0, .cv (.ro Tag.t_int p0)), (1, .cv (.lit (.int .i64 p1))), (2, .cv (.lit (.int .i64 p2))), (27, .cv (.lit (.bool ((decide (p2 < 0))))))], []⟩) (by kernel_rfl) (And.intro (decide_eq_false c1) (And.intro (decide_eq_false c2) (decide_eq_false c3))) ?_
          have hr := Option.some.inj h
          subst hr
          exact ⟨rfl, _, rfl, rfl⟩
  · rintro e S ⟨rfl, xt27_4, rfl, rfl⟩
    rcases ite_some h with ⟨c4, h⟩ | ⟨c4, h⟩
    · refine awp_true (b := xt27_4) (by kernel_rfl) (c4) ?_
      refine awp_seq ?_
      obtain ⟨a1, h1, h⟩ := bind_some h
      refine awp_region L 19 [] [(0, .cv (.lit (.bool a1)))] [6] [] (cs := [PCall V P 7 [] (.cv (.lit (.bool a1))), True]) (S' := ⟨[(6, .cv (.lit (.bool a1)))], []⟩) (by kernel_rfl) (And.intro (workflowlaw53_lives.ok h1) trivial) ?_
      refine awp_ret ?_
      have hr := Option.some.inj h
      subst hr
      exact ⟨.inr rfl, .cv (.lit (.bool a1)), by kernel_rfl, by kernel_rfl, trivial, by kernel_rfl⟩
    · refine awp_false (b := xt27_4) (by kernel_rfl) (eq_false_of_ne_true c4) ?_
      refine awp_skip [0, 1, 2] [] (S' := ⟨[(0, .cv (.ro Tag.t_int p0)), (1, .cv (.lit (.int .i64 p1))), (2, .cv (.lit (.int .i64 p2)))], []⟩) (by kernel_rfl) ?_
      refine awp_seq ?_
      obtain ⟨a2, h2, h⟩ := bind_some h
      refine awp_region L 22 [] [(1, .cv (.lit (.int .i64 a2)))] [0, 1, 2, 7] [] (cs := [PCall V P 8 [.cv (.ro Tag.t_int p0)] (.cv (.lit (.int .i64 a2))), True]) (S' := ⟨[(0, .cv (.ro Tag.t_int p0)), (1, .cv (.lit (.int .i64 p1))), (2, .cv (.lit (.int .i64 p2))), (7, .cv (.lit (.int .i64 a2)))], []⟩) (by kernel_rfl) (And.intro (quorum_Index.ok h2) trivial) ?_
      obtain ⟨o2, hp2, h⟩ := obind_some h
      refine awp_seq (awp_mono (Q' := fun e S => (e = .normal ∧ S = ⟨[(0, .cv (.ro Tag.t_int p0)), (1, .cv (.lit (.int .i64 p1))), (2, .cv (.lit (.int .i64 p2))), (7, .cv (.lit (.int .i64 a2)))], []⟩ ∧ Out.go () = o2) ∨ (e = .ret ∧ ∃ a, Out.done a = o2 ∧ Eng.Ends P V Try.f3 (.cv (.lit (.bool a))) .ret S)) ?_ ?_)
      · clear h
        replace h := hp2
        refine awp_seq ?_
        rcases ite_some h with ⟨c5, h⟩ | ⟨c5, h⟩
        · refine awp_region L 26 [(2, true)] [] [0, 1, 2, 7, 45] [] (cs := [(decide (a2 < 0)) = true]) (S' := ⟨[(0, .cv (.ro Tag.t_int p0)), (1, .cv (.lit (.int .i64 p1))), (2, .cv (.lit (.int .i64 p2))), (7, .cv (.lit (.int .i64 a2))), (45, .cv (.lit (.bool true)))], []⟩) (by kernel_rfl) (decide_eq_true c5) ?_
          refine awp_true (b := true) (by kernel_rfl) (rfl) ?_
          refine awp_seq ?_
          refine awp_region L 42 [] [] [6] [] (cs := []) (S' := ⟨[(6, .cv (.lit (.bool false)))], []⟩) (by kernel_rfl) trivial ?_
          refine awp_ret ?_
          have hr := Option.some.inj h
          subst hr
          exact .inr ⟨rfl, _, rfl, ⟨.inr rfl, .cv (.lit (.bool false)), by kernel_rfl, by kernel_rfl, trivial, by kernel_rfl⟩⟩
        · rcases ite_some h with ⟨c6, h⟩ | ⟨c6, h⟩
          · obtain ⟨a3, h3, h⟩ := bind_some h
            obtain ⟨a4, h4, h⟩ := bind_some h
            refine awp_region L 26 [(2, false), (5, true)] [(8, .cv (.lit (.int .i64 a3))), (11, .cv (.lit (.int .i64 a4)))] [0, 1, 2, 7, 45] [] (cs := [(decide (a2 < 0)) = false, (decide (a2 > 0)) = true, PCall V P 9 [.cv (.ro Tag.t_int p0), .cv (.lit (.int .i64 a2))] (.cv (.lit (.int .i64 a3))), True, PCall V P 10 [.cv (.lit (.int .i64 (p0.length : Int)))] (.cv (.lit (.int .i64 a4))), True]) (S' := ⟨[(0, .cv (.ro Tag.t_int p0)), (1, .cv (.lit (.int .i64 p1))), (2, .cv (.lit (.int .i64 p2))), (7, .cv (.lit (.int .i64 a2))), (45, .cv (.lit (.bool ((decide (a3 < a4))))))], []⟩) (by kernel_rfl) (And.intro (decide_eq_false c5) (And.intro (decide_eq_true c6) (And.intro (workflowlaw53_reach.ok h3) (And.intro trivial (And.intro (quorum_Majority.ok h4) trivial))))) ?_
            rcases ite_some h with ⟨c7, h⟩ | ⟨c7, h⟩
            · refine awp_true (b := (decide (a3 < a4))) (by kernel_rfl) (decide_eq_true c7) ?_
              refine awp_seq ?_
              refine awp_region L 42 [] [] [6] [] (cs := []) (S' := ⟨[(6, .cv (.lit (.bool false)))], []⟩) (by kernel_rfl) trivial ?_
              refine awp_ret ?_
              have hr := Option.some.inj h
              subst hr
              exact .inr ⟨rfl, _, rfl, ⟨.inr rfl, .cv (.lit (.bool false)), by kernel_rfl, by kernel_rfl, trivial, by kernel_rfl⟩⟩
            · refine awp_false (b := (decide (a3 < a4))) (by kernel_rfl) (decide_eq_false c7) ?_
              refine awp_skip [0, 1, 2, 7] [] (S' := ⟨[(0, .cv (.ro Tag.t_int p0)), (1, .cv (.lit (.int .i64 p1))), (2, .cv (.lit (.int .i64 p2))), (7, .cv (.lit (.int .i64 a2)))], []⟩) (by kernel_rfl) ?_
              have hr := Option.some.inj h
              subst hr
              exact .inl ⟨rfl, rfl, rfl⟩
          · refine awp_region L 26 [(2, false), (5, false)] [] [0, 1, 2, 7, 45] [] (cs := [(decide (a2 < 0)) = false, (decide (a2 > 0)) = false]) (S' := ⟨[(0, .cv (.ro Tag.t_int p0)), (1, .cv (.lit (.int .i64 p1))), (2, .cv (.lit (.int .i64 p2))), (7, .cv (.lit (.int .i64 a2))), (45, .cv (.lit (.bool false)))], []⟩) (by kernel_rfl) (And.intro (decide_eq_false c5) (decide_eq_false c6)) ?_
            refine awp_false (b := false) (by kernel_rfl) (rfl) ?_
            refine awp_skip [0, 1, 2, 7] [] (S' := ⟨[(0, .cv (.ro Tag.t_int p0)), (1, .cv (.lit (.int .i64 p1))), (2, .cv (.lit (.int .i64 p2))), (7, .cv (.lit (.int .i64 a2)))], []⟩) (by kernel_rfl) ?_
            have hr := Option.some.inj h
            subst hr
            exact .inl ⟨rfl, rfl, rfl⟩
      · rintro e S (⟨rfl, rfl, rfl⟩ | ⟨rfl, a, rfl, hr⟩)
        · rcases h with ⟨_, e1, h⟩ | ⟨_, e1, h⟩
          · cases e1
          · have e2 := Out.go.inj e1
            subst e2
            refine awp_seq ?_
            refine awp_seq ?_
            refine awp_region L 44 [] [] [0, 1, 2, 7, 8] [] (cs := []) (S' := ⟨[(0, .cv (.ro Tag.t_int p0)), (1, .cv (.lit (.int .i64 p1))), (2, .cv (.lit (.int .i64 p2))), (7, .cv (.lit (.int .i64 a2))), (8, .cv (.lit (.int .i64 0)))], []⟩) (by kernel_rfl) trivial ?_
            refine awp_block ?_
            refine awp_keep (ts := [0, 1, 2, 7, 8]) (ids := []) (S' := ⟨[(0, .cv (.ro Tag.t_int p0)), (1, .cv (.lit (.int .i64 p1))), (2, .cv (.lit (.int .i64 p2))), (7, .cv (.lit (.int .i64 a2))), (8, .cv (.lit (.int .i64 0)))], []⟩) (by kernel_rfl) ?_
            obtain ⟨o3, hp3, h⟩ := obind_some h
            refine awp_mono (Q' := fun e S => (e = .exit 0 ∧ S = ⟨[(0, .cv (.ro Tag.t_int p0)), (1, .cv (.lit (.int .i64 p1))), (2, .cv (.lit (.int .i64 p2))), (7, .cv (.lit (.int .i64 a2)))], []⟩ ∧ Out.go () = o3) ∨ (e = .ret ∧ ∃ a, Out.done a = o3 ∧ Eng.Ends P V Try.f3 (.cv (.lit (.bool a))) .ret S)) (awp_loop (fun k S => ∃ xt8_25h : Int, S = ⟨[(0, .cv (.ro Tag.t_int p0)), (1, .cv (.lit (.int .i64 p1))), (2, .cv (.lit (.int .i64 p2))), (7, .cv (.lit (.int .i64 a2))), (8, .cv (.lit (.int .i64 xt8_25h)))], []⟩ ∧ workflowlaw53_QuorumIndex.l25 K p0 a2 k xt8_25h = some o3) ?_ ⟨_, rfl, hp3⟩) ?_
            · clear h hp3
              intro k S hS
              obtain ⟨xt8_25h, rfl, h⟩ := hS
              cases k with
              | zero => cases h
              | succ k =>
              unfold workflowlaw53_QuorumIndex.l25 at h
              refine awp_seq ?_
              refine awp_seq ?_
              refine awp_region L 46 [] [] [0, 1, 2, 7, 8, 49] [] (cs := []) (S' := ⟨[(0, .cv (.ro Tag.t_int p0)), (1, .cv (.lit (.int .i64 p1))), (2, .cv (.lit (.int .i64 p2))), (7, .cv (.lit (.int .i64 a2))), (8, .cv (.lit (.int .i64 xt8_25h))), (49, .cv (.lit (.bool ((decide (xt8_25h < (p0.length : Int)))))))], []⟩) (by kernel_rfl) trivial ?_
              rcases ite_some h with ⟨c8, h⟩ | ⟨c8, h⟩
              · refine awp_true (b := (decide (xt8_25h < (p0.length : Int)))) (by kernel_rfl) (decide_eq_true c8) ?_
                refine awp_skip [0, 1, 2, 7, 8] [] (S' := ⟨[(0, .cv (.ro Tag.t_int p0)), (1, .cv (.lit (.int .i64 p1))), (2, .cv (.lit (.int .i64 p2))), (7, .cv (.lit (.int .i64 a2))), (8, .cv (.lit (.int .i64 xt8_25h)))], []⟩) (by kernel_rfl) ?_
                refine awp_seq ?_
                refine awp_block ?_
                refine awp_seq ?_
                obtain ⟨g1, h⟩ := guard_some h
                rcases ite_some h with ⟨c9, h⟩ | ⟨c9, h⟩
                · obtain ⟨a5, h5, h⟩ := bind_some h
                  obtain ⟨a6, h6, h⟩ := bind_some h
                  refine awp_region L 51 [(6, true)] [(12, .cv (.lit (.int .i64 a5))), (15, .cv (.lit (.int .i64 a6)))] [0, 1, 2, 7, 8, 69] [] (cs := [(0 : Int) ≤ xt8_25h, (xt8_25h : Int) < (p0.length : Int), (decide ((p0.getD (Int.toNat xt8_25h) (0 : Int)) > a2)) = true, (0 : Int) ≤ xt8_25h, (xt8_25h : Int) < (p0.length : Int), PCall V P 9 [.cv (.ro Tag.t_int p0), .cv (.lit (.int .i64 ((p0.getD (Int.toNat xt8_25h) (0 : Int)))))] (.cv (.lit (.int .i64 a5))), True, PCall V P 10 [.cv (.lit (.int .i64 (p0.length : Int)))] (.cv (.lit (.int .i64 a6))), True]) (S' := ⟨[(0, .cv (.ro Tag.t_int p0)), (1, .cv (.lit (.int .i64 p1))), (2, .cv (.lit (.int .i64 p2))), (7, .cv (.lit (.int .i64 a2))), (8, .cv (.lit (.int .i64 xt8_25h))), (69, .cv (.lit (.bool ((decide (a5 ≥ a6))))))], []⟩) (by kernel_rfl) (And.intro g1.1 (And.intro g1.2 (And.intro (decide_eq_true c9) (And.intro g1.1 (And.intro g1.2 (And.intro (workflowlaw53_reach.ok h5) (And.intro trivial (And.intro (quorum_Majority.ok h6) trivial)))))))) ?_
                  rcases ite_some h with ⟨c10, h⟩ | ⟨c10, h⟩
                  · refine awp_true (b := (decide (a5 ≥ a6))) (by kernel_rfl) (decide_eq_true c10) ?_
                    refine awp_seq ?_
                    refine awp_region L 70 [] [] [6] [] (cs := []) (S' := ⟨[(6, .cv (.lit (.bool false)))], []⟩) (by kernel_rfl) trivial ?_
                    refine awp_ret ?_
                    have hr := Option.some.inj h
                    subst hr
                    exact .inr ⟨rfl, _, rfl, ⟨.inr rfl, .cv (.lit (.bool false)), by kernel_rfl, by kernel_rfl, trivial, by kernel_rfl⟩⟩
                  · refine awp_false (b := (decide (a5 ≥ a6))) (by kernel_rfl) (decide_eq_false c10) ?_
                    refine awp_skip [0, 1, 2, 7, 8] [] (S' := ⟨[(0, .cv (.ro Tag.t_int p0)), (1, .cv (.lit (.int .i64 p1))), (2, .cv (.lit (.int .i64 p2))), (7, .cv (.lit (.int .i64 a2))), (8, .cv (.lit (.int .i64 xt8_25h)))], []⟩) (by kernel_rfl) ?_
                    refine awp_region L 72 [] [] [0, 1, 2, 7, 8] [] (cs := []) (S' := ⟨[(0, .cv (.ro Tag.t_int p0)), (1, .cv (.lit (.int .i64 p1))), (2, .cv (.lit (.int .i64 p2))), (7, .cv (.lit (.int .i64 a2))), (8, .cv (.lit (.int .i64 ((IntKind.i64.wrap (xt8_25h + 1))))))], []⟩) (by kernel_rfl) trivial ?_
                    exact ⟨k, Nat.lt_succ_self k, _, rfl, h⟩
                · refine awp_region L 51 [(6, false)] [] [0, 1, 2, 7, 8, 69] [] (cs := [(0 : Int) ≤ xt8_25h, (xt8_25h : Int) < (p0.length : Int), (decide ((p0.getD (Int.toNat xt8_25h) (0 : Int)) > a2)) = false]) (S' := ⟨[(0, .cv (.ro Tag.t_int p0)), (1, .cv (.lit (.int .i64 p1))), (2, .cv (.lit (.int .i64 p2))), (7, .cv (.lit (.int .i64 a2))), (8, .cv (.lit (.int .i64 xt8_25h))), (69, .cv (.lit (.bool false)))], []⟩) (by kernel_rfl) (And.intro g1.1 (And.intro g1.2 (decide_eq_false c9))) ?_
                  refine awp_false (b := false) (by kernel_rfl) (rfl) ?_
                  refine awp_skip [0, 1, 2, 7, 8] [] (S' := ⟨[(0, .cv (.ro Tag.t_int p0)), (1, .cv (.lit (.int .i64 p1))), (2, .cv (.lit (.int .i64 p2))), (7, .cv (.lit (.int .i64 a2))), (8, .cv (.lit (.int .i64 xt8_25h)))], []⟩) (by kernel_rfl) ?_
                  refine awp_region L 72 [] [] [0, 1, 2, 7, 8] [] (cs := []) (S' := ⟨[(0, .cv (.ro Tag.t_int p0)), (1, .cv (.lit (.int .i64 p1))), (2, .cv (.lit (.int .i64 p2))), (7, .cv (.lit (.int .i64 a2))), (8, .cv (.lit (.int .i64 ((IntKind.i64.wrap (xt8_25h + 1))))))], []⟩) (by kernel_rfl) trivial ?_
                  exact ⟨k, Nat.lt_succ_self k, _, rfl, h⟩
              · refine awp_false (b := (decide (xt8_25h < (p0.length : Int)))) (by kernel_rfl) (decide_eq_false c8) ?_
                refine awp_exit [0, 1, 2, 7] [] (S' := ⟨[(0, .cv (.ro Tag.t_int p0)), (1, .cv (.lit (.int .i64 p1))), (2, .cv (.lit (.int .i64 p2))), (7, .cv (.lit (.int .i64 a2)))], []⟩) (by kernel_rfl) ?_
                have hr := Option.some.inj h
                subst hr
                exact .inl ⟨rfl, rfl, rfl⟩
            · rintro e S (⟨rfl, rfl, rfl⟩ | ⟨rfl, a, rfl, hr⟩)
              · rcases h with ⟨_, e1, h⟩ | ⟨_, e1, h⟩
                · cases e1
                · have e2 := Out.go.inj e1
                  subst e2
                  refine awp_seq ?_
                  refine awp_region L 76 [] [] [0, 1, 2, 7, 9] [] (cs := []) (S' := ⟨[(0, .cv (.ro Tag.t_int p0)), (1, .cv (.lit (.int .i64 p1))), (2, .cv (.lit (.int .i64 p2))), (7, .cv (.lit (.int .i64 a2))), (9, .cv (.lit (.slice none 0 0)))], []⟩) (by kernel_rfl) trivial ?_
                  refine awp_seq ?_
                  refine awp_seq ?_
                  refine awp_region L 78 [] [] [0, 1, 2, 7, 9, 10] [] (cs := []) (S' := ⟨[(0, .cv (.ro Tag.t_int p0)), (1, .cv (.lit (.int .i64 p1))), (2, .cv (.lit (.int .i64 p2))), (7, .cv (.lit (.int .i64 a2))), (9, .cv (.lit (.slice none 0 0))), (10, .cv (.lit (.int .i64 ((IntKind.i64.wrap ((p0.length : Int) - 1))))))], []⟩) (by kernel_rfl) trivial ?_
                  refine awp_block ?_
                  refine awp_nilown 9 726 Tag.t_int (by kernel_rfl) (by kernel_rfl) ?_
                  refine awp_keep (ts := [0, 1, 2, 7, 9, 10]) (ids := [726]) (S' := ⟨[(0, .cv (.ro Tag.t_int p0)), (1, .cv (.lit (.int .i64 p1))), (2, .cv (.lit (.int .i64 p2))), (7, .cv (.lit (.int .i64 a2))), (9, .cv (.own Tag.t_int 726)), (10, .cv (.lit (.int .i64 ((IntKind.i64.wrap ((p0.length : Int) - 1))))))], [(726, .lst Tag.t_int [])]⟩) (by kernel_rfl) ?_
                  obtain ⟨o4, hp4, h⟩ := bind_some h
                  refine awp_mono (Q' := fun e S => (e = .exit 2 ∧ ∃ xh726_48 : List Int, S = ⟨[(0, .cv (.ro Tag.t_int p0)), (1, .cv (.lit (.int .i64 p1))), (2, .cv (.lit (.int .i64 p2))), (7, .cv (.lit (.int .i64 a2))), (9, .cv (.own Tag.t_int 726))], [(726, .lst Tag.t_int xh726_48)]⟩ ∧ xh726_48 = o4)) (awp_loop (fun k S => ∃ xt10_48h : Int, ∃ xh726_48h : List Int, S = ⟨[(0, .cv (.ro Tag.t_int p0)), (1, .cv (.lit (.int .i64 p1))), (2, .cv (.lit (.int .i64 p2))), (7, .cv (.lit (.int .i64 a2))), (9, .cv (.own Tag.t_int 726)), (10, .cv (.lit (.int .i64 xt10_48h)))], [(726, .lst Tag.t_int xh726_48h)]⟩ ∧ workflowlaw53_QuorumIndex.l48 K p0 k xt10_48h xh726_48h = some o4) ?_ ⟨_, _, rfl, hp4⟩) ?_
                  · clear h hp4
                    intro k S hS
                    obtain ⟨xt10_48h, xh726_48h, rfl, h⟩ := hS
                    cases k with
                    | zero => cases h
                    | succ k =>
                    unfold workflowlaw53_QuorumIndex.l48 at h
                    refine awp_seq ?_
                    refine awp_seq ?_
                    refine awp_region L 83 [] [] [0, 1, 2, 7, 9, 10, 74] [726] (cs := []) (S' := ⟨[(0, .cv (.ro Tag.t_int p0)), (1, .cv (.lit (.int .i64 p1))), (2, .cv (.lit (.int .i64 p2))), (7, .cv (.lit (.int .i64 a2))), (9, .cv (.own Tag.t_int 726)), (10, .cv (.lit (.int .i64 xt10_48h))), (74, .cv (.lit (.bool ((decide (xt10_48h ≥ 0))))))], [(726, .lst Tag.t_int xh726_48h)]⟩) (by kernel_rfl) trivial ?_
                    rcases ite_some h with ⟨c11, h⟩ | ⟨c11, h⟩
                    · refine awp_true (b := (decide (xt10_48h ≥ 0))) (by kernel_rfl) (decide_eq_true c11) ?_
                      refine awp_skip [0, 1, 2, 7, 9, 10] [726] (S' := ⟨[(0, .cv (.ro Tag.t_int p0)), (1, .cv (.lit (.int .i64 p1))), (2, .cv (.lit (.int .i64 p2))), (7, .cv (.lit (.int .i64 a2))), (9, .cv (.own Tag.t_int 726)), (10, .cv (.lit (.int .i64 xt10_48h)))], [(726, .lst Tag.t_int xh726_48h)]⟩) (by kernel_rfl) ?_
                      refine awp_seq ?_
                      refine awp_block ?_
                      obtain ⟨g2, h⟩ := guard_some h
                      obtain ⟨g3, h⟩ := guard_some h
                      refine awp_region L 86 [] [] [0, 1, 2, 7, 9, 10] [726] (cs := [(0 : Int) ≤ xt10_48h, (xt10_48h : Int) < (p0.length : Int), (xh726_48h.length + (([(p0.getD (Int.toNat xt10_48h) (0 : Int))] : List Int)).length) * 8 ≤ 140737488355328, True]) (S' := ⟨[(0, .cv (.ro Tag.t_int p0)), (1, .cv (.lit (.int .i64 p1))), (2, .cv (.lit (.int .i64 p2))), (7, .cv (.lit (.int .i64 a2))), (9, .cv (.own Tag.t_int 726)), (10, .cv (.lit (.int .i64 xt10_48h)))], [(726, .lst Tag.t_int ((xh726_48h ++ ([(p0.getD (Int.toNat xt10_48h) (0 : Int))] : List Int))))]⟩) (by kernel_rfl) (And.intro g2.1 (And.intro g2.2 (And.intro g3 trivial))) ?_
                      refine awp_region L 95 [] [] [0, 1, 2, 7, 9, 10] [726] (cs := []) (S' := ⟨[(0, .cv (.ro Tag.t_int p0)), (1, .cv (.lit (.int .i64 p1))), (2, .cv (.lit (.int .i64 p2))), (7, .cv (.lit (.int .i64 a2))), (9, .cv (.own Tag.t_int 726)), (10, .cv (.lit (.int .i64 ((IntKind.i64.wrap (xt10_48h - 1))))))], [(726, .lst Tag.t_int ((xh726_48h ++ ([(p0.getD (Int.toNat xt10_48h) (0 : Int))] : List Int))))]⟩) (by kernel_rfl) trivial ?_
                      exact ⟨k, Nat.lt_succ_self k, _, _, rfl, h⟩
                    · refine awp_false (b := (decide (xt10_48h ≥ 0))) (by kernel_rfl) (decide_eq_false c11) ?_
                      refine awp_exit [0, 1, 2, 7, 9] [726] (S' := ⟨[(0, .cv (.ro Tag.t_int p0)), (1, .cv (.lit (.int .i64 p1))), (2, .cv (.lit (.int .i64 p2))), (7, .cv (.lit (.int .i64 a2))), (9, .cv (.own Tag.t_int 726))], [(726, .lst Tag.t_int xh726_48h)]⟩) (by kernel_rfl) ?_
                      have hr := Option.some.inj h
                      subst hr
                      exact ⟨rfl, _, rfl, rfl⟩
                  · rintro e S ⟨rfl, xh726_48, rfl, rfl⟩
                    refine awp_seq ?_
                    obtain ⟨g4, h⟩ := guard_some h
                    refine awp_region L 99 [] [] [0, 1, 2, 7, 9, 11] [99, 726] (cs := [(([] : List Int).length + p0.length) * 8 ≤ 140737488355328, True]) (S' := ⟨[(0, .cv (.ro Tag.t_int p0)), (1, .cv (.lit (.int .i64 p1))), (2, .cv (.lit (.int .i64 p2))), (7, .cv (.lit (.int .i64 a2))), (9, .cv (.own Tag.t_int 726)), (11, .cv (.own Tag.t_int 99))], [(99, .lst Tag.t_int ((([] : List Int) ++ p0))), (726, .lst Tag.t_int xh726_48)]⟩) (by kernel_rfl) (And.intro g4 trivial) ?_
                    refine awp_seq ?_
                    obtain ⟨g5, h⟩ := guard_some h
                    refine awp_region L 104 [] [] [0, 1, 2, 7, 9, 11] [99, 726] (cs := [(p0.length : Int) ≠ (0 : Int)]) (S' := ⟨[(0, .cv (.ro Tag.t_int p0)), (1, .cv (.lit (.int .i64 ((Int.tmod p1 (p0.length : Int)))))), (2, .cv (.lit (.int .i64 p2))), (7, .cv (.lit (.int .i64 a2))), (9, .cv (.own Tag.t_int 726)), (11, .cv (.own Tag.t_int 99))], [(99, .lst Tag.t_int ((([] : List Int) ++ p0))), (726, .lst Tag.t_int xh726_48)]⟩) (by kernel_rfl) g5 ?_
                    obtain ⟨o6, hp6, h⟩ := bind_some h
                    refine awp_seq (awp_mono (Q' := fun e S => (e = .normal ∧ ∃ xh99_63 : List Int, S = ⟨[(7, .cv (.lit (.int .i64 a2))), (9, .cv (.own Tag.t_int 726)), (11, .cv (.own Tag.t_int 99))], [(99, .lst Tag.t_int xh99_63), (726, .lst Tag.t_int xh726_48)]⟩ ∧ xh99_63 = o6)) ?_ ?_)
                    · clear h
                      replace h := hp6
                      obtain ⟨o5, hp5, h⟩ := bind_some h
                      refine awp_seq (awp_mono (Q' := fun e S => (e = .normal ∧ ∃ xt99_64 : Bool, S = ⟨[(0, .cv (.ro Tag.t_int p0)), (1, .cv (.lit (.int .i64 ((Int.tmod p1 (p0.length : Int)))))), (2, .cv (.lit (.int .i64 p2))), (7, .cv (.lit (.int .i64 a2))), (9, .cv (.own Tag.t_int 726)), (11, .cv (.own Tag.t_int 99)), (99, .cv (.lit (.bool xt99_64)))], [(99, .lst Tag.t_int ((([] : List Int) ++ p0))), (726, .lst Tag.t_int xh726_48)]⟩ ∧ xt99_64 = o5)) ?_ ?_)
                      · clear h
                        replace h := hp5
                        obtain ⟨g6, h⟩ := guard_some h
                        rcases ite_some h with ⟨c12, h⟩ | ⟨c12, h⟩
                        · refine awp_region L 110 [(5, true)] [] [0, 1, 2, 7, 9, 11, 99] [99, 726] (cs := [(0 : Int) ≤ (Int.tmod p1 (p0.length : Int)), ((Int.tmod p1 (p0.length : Int)) : Int) < (p0.length : Int), (decide ((p0.getD (Int.toNat ((Int.tmod p1 (p0.length : Int)))) (0 : Int)) ≤ 1000000)) = true]) (S' := ⟨[(0, .cv (.ro Tag.t_int p0)), (1, .cv (.lit (.int .i64 ((Int.tmod p1 (p0.length : Int)))))), (2, .cv (.lit (.int .i64 p2))), (7, .cv (.lit (.int .i64 a2))), (9, .cv (.own Tag.t_int 726)), (11, .cv (.own Tag.t_int 99)), (99, .cv (.lit (.bool ((decide (p2 ≤ 1000000))))))], [(99, .lst Tag.t_int ((([] : List Int) ++ p0))), (726, .lst Tag.t_int xh726_48)]⟩) (by kernel_rfl) (And.intro g6.1 (And.intro g6.2 (decide_eq_true c12))) ?_
                          have hr := Option.some.inj h
                          subst hr
                          exact ⟨rfl, _, rfl, rfl⟩
                        · refine awp_region L 110 [(5, false)] [] [0, 1, 2, 7, 9, 11, 99] [99, 726] (cs := [(0 : Int) ≤ (Int.tmod p1 (p0.length : Int)), ((Int.tmod p1 (p0.length : Int)) : Int) < (p0.length : Int), (decide ((p0.getD (Int.toNat ((Int.tmod p1 (p0.length : Int)))) (0 : Int)) ≤ 1000000)) = false]) (S' := ⟨[(0, .cv (.ro Tag.t_int p0)), (1, .cv (.lit (.int .i64 ((Int.tmod p1 (p0.length : Int)))))), (2, .cv (.lit (.int .i64 p2))), (7, .cv (.lit (.int .i64 a2))), (9, .cv (.own Tag.t_int 726)), (11, .cv (.own Tag.t_int 99)), (99, .cv (.lit (.bool false)))], [(99, .lst Tag.t_int ((([] : List Int) ++ p0))), (726, .lst Tag.t_int xh726_48)]⟩) (by kernel_rfl) (And.intro g6.1 (And.intro g6.2 (decide_eq_false c12))) ?_
                          have hr := Option.some.inj h
                          subst hr
                          exact ⟨rfl, _, rfl, rfl⟩
                      · rintro e S ⟨rfl, xt99_64, rfl, rfl⟩
                        rcases ite_some h with ⟨c13, h⟩ | ⟨c13, h⟩
                        · refine awp_true (b := xt99_64) (by kernel_rfl) (c13) ?_
                          obtain ⟨g7, h⟩ := guard_some h
                          obtain ⟨g8, h⟩ := guard_some h
                          obtain ⟨g9, h⟩ := guard_some h
                          refine awp_region L 120 [] [] [7, 9, 11] [99, 726] (cs := [(0 : Int) ≤ (Int.tmod p1 (p0.length : Int)), ((Int.tmod p1 (p0.length : Int)) : Int) < (p0.length : Int), (0 : Int) ≤ (Int.tmod p1 (p0.length : Int)), ((Int.tmod p1 (p0.length : Int)) : Int) < (((([] : List Int) ++ p0)).length : Int), (Int.toNat ((Int.tmod p1 (p0.length : Int)))) < ((([] : List Int) ++ p0)).length, True]) (S' := ⟨[(7, .cv (.lit (.int .i64 a2))), (9, .cv (.own Tag.t_int 726)), (11, .cv (.own Tag.t_int 99))], [(99, .lst Tag.t_int ((((([] : List Int) ++ p0)).set ((Int.toNat ((Int.tmod p1 (p0.length : Int))))) ((IntKind.i64.wrap ((p0.getD (Int.toNat ((Int.tmod p1 (p0.length : Int)))) (0 : Int)) + p2)))))), (726, .lst Tag.t_int xh726_48)]⟩) (by kernel_rfl) (And.intro g7.1 (And.intro g7.2 (And.intro g7.1 (And.intro g8 (And.intro g9 trivial))))) ?_
                          have hr := Option.some.inj h
                          subst hr
                          exact ⟨rfl, _, rfl, rfl⟩
                        · refine awp_false (b := xt99_64) (by kernel_rfl) (eq_false_of_ne_true c13) ?_
                          refine awp_skip [7, 9, 11] [99, 726] (S' := ⟨[(7, .cv (.lit (.int .i64 a2))), (9, .cv (.own Tag.t_int 726)), (11, .cv (.own Tag.t_int 99))], [(99, .lst Tag.t_int ((([] : List Int) ++ p0))), (726, .lst Tag.t_int xh726_48)]⟩) (by kernel_rfl) ?_
                          have hr := Option.some.inj h
                          subst hr
                          exact ⟨rfl, _, rfl, rfl⟩
                    · rintro e S ⟨rfl, xh99_63, rfl, rfl⟩
                      refine awp_seq ?_
                      obtain ⟨a7, h7, h⟩ := bind_some h
                      rcases ite_some h with ⟨c14, h⟩ | ⟨c14, h⟩
                      · obtain ⟨a8, h8, h⟩ := bind_some h
                        rcases ite_some h with ⟨c15, h⟩ | ⟨c15, h⟩
                        · obtain ⟨a9, h9, h⟩ := bind_some h
                          refine awp_region L 131 [(4, true), (10, true)] [(1, .cv (.lit (.int .i64 a7))), (6, .cv (.lit (.int .i64 a8))), (11, .cv (.lit (.bool a9)))] [6] [] (cs := [PCall V P 8 [.cv (.ro Tag.t_int xh726_48)] (.cv (.lit (.int .i64 a7))), True, (decide (a7 = a2)) = true, PCall V P 8 [.cv (.ro Tag.t_int xh99_63)] (.cv (.lit (.int .i64 a8))), True, (decide (a8 ≥ a2)) = true, PCall V P 7 [] (.cv (.lit (.bool a9))), True]) (S' := ⟨[(6, .cv (.lit (.bool a9)))], []⟩) (by kernel_rfl) (And.intro (quorum_Index.ok h7) (And.intro trivial (And.intro (decide_eq_true c14) (And.intro (quorum_Index.ok h8) (And.intro trivial (And.intro (decide_eq_true c15) (And.intro (workflowlaw53_lives.ok h9) trivial))))))) ?_
                          refine awp_ret ?_
                          have hr := Option.some.inj h
                          subst hr
                          exact ⟨.inr rfl, .cv (.lit (.bool a9)), by kernel_rfl, by kernel_rfl, trivial, by kernel_rfl⟩
                        · refine awp_region L 131 [(4, true), (10, false)] [(1, .cv (.lit (.int .i64 a7))), (6, .cv (.lit (.int .i64 a8)))] [6] [] (cs := [PCall V P 8 [.cv (.ro Tag.t_int xh726_48)] (.cv (.lit (.int .i64 a7))), True, (decide (a7 = a2)) = true, PCall V P 8 [.cv (.ro Tag.t_int xh99_63)] (.cv (.lit (.int .i64 a8))), True, (decide (a8 ≥ a2)) = false]) (S' := ⟨[(6, .cv (.lit (.bool false)))], []⟩) (by kernel_rfl) (And.intro (quorum_Index.ok h7) (And.intro trivial (And.intro (decide_eq_true c14) (And.intro (quorum_Index.ok h8) (And.intro trivial (decide_eq_false c15)))))) ?_
                          refine awp_ret ?_
                          have hr := Option.some.inj h
                          subst hr
                          exact ⟨.inr rfl, .cv (.lit (.bool false)), by kernel_rfl, by kernel_rfl, trivial, by kernel_rfl⟩
                      · refine awp_region L 131 [(4, false)] [(1, .cv (.lit (.int .i64 a7)))] [6] [] (cs := [PCall V P 8 [.cv (.ro Tag.t_int xh726_48)] (.cv (.lit (.int .i64 a7))), True, (decide (a7 = a2)) = false]) (S' := ⟨[(6, .cv (.lit (.bool false)))], []⟩) (by kernel_rfl) (And.intro (quorum_Index.ok h7) (And.intro trivial (decide_eq_false c14))) ?_
                        refine awp_ret ?_
                        have hr := Option.some.inj h
                        subst hr
                        exact ⟨.inr rfl, .cv (.lit (.bool false)), by kernel_rfl, by kernel_rfl, trivial, by kernel_rfl⟩
              · rcases h with ⟨_, e1, h⟩ | ⟨_, e1, h⟩
                · have e2 := Out.done.inj e1
                  subst e2
                  subst h
                  exact hr
                · cases e1
        · rcases h with ⟨_, e1, h⟩ | ⟨_, e1, h⟩
          · have e2 := Out.done.inj e1
            subst e2
            subst h
            exact hr
          · cases e1

theorem workflowlaw53_QuorumIndex.ok {K : Nat} {p0 : List Int} {p1 : Int} {p2 : Int} {r : Bool} (h : workflowlaw53_QuorumIndex K p0 p1 p2 = some r) : PCall V P 3 [.cv (.ro Tag.t_int p0), .cv (.lit (.int .i64 p1)), .cv (.lit (.int .i64 p2))] (.cv (.lit (.bool r))) :=
  pcall_of (fn := Try.f3) (n := 122) (by kernel_rfl) (by kernel_rfl) (by kernel_rfl) rfl (by kernel_rfl) (by kernel_rfl) fun Γ => workflowlaw53_QuorumIndex.body h

def workflowlaw53_QuorumCommits (K : Nat) (p0 : api_Replica) (p1 : List Int) : Option Bool := (Option.bind (((if (p1.length : Int) > 50 then some true else some ((decide ((p0.Log.length : Int) > 300))))) : Option Bool) (fun xt14_4 => (if xt14_4 = true then (Option.bind (workflowlaw53_lives K) (fun a1 => some a1)) else (Option.bind (quorum_Commit K p0 p1) (fun a2 => (if a2 = p0.Commit then (Option.bind (workflowlaw53_lives K) (fun a3 => some a3)) else (if a2 > p0.Commit then (if a2 ≥ 1 then (if a2 ≤ (p0.Log.length : Int) then (if (0 : Int) ≤ (IntKind.i64.wrap (a2 - 1)) ∧ ((IntKind.i64.wrap (a2 - 1)) : Int) < (p0.Log.length : Int) then (if ((p0.Log.getD (Int.toNat ((IntKind.i64.wrap (a2 - 1)))) (⟨(0 : Int), ([] : List UInt8)⟩ : api_Entry))).Epoch = p0.Epoch then (Option.bind (workflowlaw53_reach K p1 a2) (fun a4 => (Option.bind (quorum_Majority K (p1.length : Int)) (fun a5 => (if a4 ≥ a5 then (Option.bind (workflowlaw53_lives K) (fun a6 => some a6)) else some false))))) else some false) else none) else some false) else some false) else some false)))))))

theorem workflowlaw53_QuorumCommits.body {Γ : Ent} {K : Nat} {p0 : api_Replica} {p1 : List Int} {r : Bool} (h : workflowlaw53_QuorumCommits K p0 p1 = some r) : AWp V P 63 0 Γ (Try.f4.body.getD .skip) (Eng.Ends P V Try.f4 (.cv (.lit (.bool r)))) ⟨args0 0 [.agg [.lit (.int .i64 p0.Epoch), .lit (.int .i64 p0.Vote), .lit (.int .i64 p0.Commit), .ro Tag.t_api_Entry p0.Log], .cv (.ro Tag.t_int p1)], []⟩ := by
  unfold workflowlaw53_QuorumCommits at h
  refine awp_seq ?_
  refine awp_region L 0 [] [] [1, 2] [0] (cs := []) (S' := ⟨[(1, .cv (.ro Tag.t_int p1)), (2, .cv (.ptr 0 0))], [(0, .raw [.lit (.int .i64 p0.Epoch), .lit (.int .i64 p0.Vote), .lit (.int .i64 p0.Commit), .ro Tag.t_api_Entry p0.Log])]⟩) (by kernel_rfl) trivial ?_
  refine awp_seq ?_
  obtain ⟨o1, hp1, h⟩ := bind_some h
  refine awp_seq (awp_mono (Q' := fun e S => (e = .normal ∧ ∃ xt14_4 : Bool, S = ⟨[(1, .cv (.ro Tag.t_int p1)), (2, .cv (.ptr 0 0)), (14, .cv (.lit (.bool xt14_4)))], [(0, .raw [.lit (.int .i64 p0.Epoch), .lit (.int .i64 p0.Vote), .lit (.int .i64 p0.Commit), .ro Tag.t_api_Entry p0.Log])]⟩ ∧ xt14_4 = o1)) ?_ ?_)
  · clear h
    replace h := hp1
    rcases ite_some h with ⟨c1, h⟩ | ⟨c1, h⟩
    · refine awp_region L 3 [(3, true)] [] [1, 2, 14] [0] (cs := [(decide ((p1.length : Int) > 50)) = true]) (S' := ⟨[(1, .cv (.ro Tag.t_int p1)), (2, .cv (.ptr 0 0)), (14, .cv (.lit (.bool true)))], [(0, .raw [.lit (.int .i64 p0.Epoch), .lit (.int .i64 p0.Vote), .lit (.int .i64 p0.Commit), .ro Tag.t_api_Entry p0.Log])]⟩) (by kernel_rfl) (decide_eq_true c1) ?_
      have hr := Option.some.inj h
      subst hr
      exact ⟨rfl, _, rfl, rfl⟩
    · refine awp_region L 3 [(3, false)] [] [1, 2, 14] [0] (cs := [(decide ((p1.length : Int) > 50)) = false]) (S' := ⟨[(1, .cv (.ro Tag.t_int p1)), (2, .cv (.ptr 0 0)), (14, .cv (.lit (.bool ((decide ((p0.Log.length : Int) > 300))))))], [(0, .raw [.lit (.int .i64 p0.Epoch), .lit (.int .i64 p0.Vote), .lit (.int .i64 p0.Commit), .ro Tag.t_api_Entry p0.Log])]⟩) (by kernel_rfl) (decide_eq_false c1) ?_
      have hr := Option.some.inj h
      subst hr
      exact ⟨rfl, _, rfl, rfl⟩
  · rintro e S ⟨rfl, xt14_4, rfl, rfl⟩
    rcases ite_some h with ⟨c2, h⟩ | ⟨c2, h⟩
    · refine awp_true (b := xt14_4) (by kernel_rfl) (c2) ?_
      refine awp_seq ?_
      obtain ⟨a1, h1, h⟩ := bind_some h
      refine awp_region L 13 [] [(0, .cv (.lit (.bool a1)))] [4] [] (cs := [PCall V P 7 [] (.cv (.lit (.bool a1))), True]) (S' := ⟨[(4, .cv (.lit (.bool a1)))], []⟩) (by kernel_rfl) (And.intro (workflowlaw53_lives.ok h1) trivial) ?_
      refine awp_ret ?_
      have hr := Option.some.inj h
      subst hr
      exact ⟨.inr rfl, .cv (.lit (.bool a1)), by kernel_rfl, by kernel_rfl, trivial, by kernel_rfl⟩
    · refine awp_false (b := xt14_4) (by kernel_rfl) (eq_false_of_ne_true c2) ?_
      refine awp_skip [1, 2] [0] (S' := ⟨[(1, .cv (.ro Tag.t_int p1)), (2, .cv (.ptr 0 0))], [(0, .raw [.lit (.int .i64 p0.Epoch), .lit (.int .i64 p0.Vote), .lit (.int .i64 p0.Commit), .ro Tag.t_api_Entry p0.Log])]⟩) (by kernel_rfl) ?_
      refine awp_seq ?_
      obtain ⟨a2, h2, h⟩ := bind_some h
      refine awp_region L 16 [] [(2, .cv (.lit (.int .i64 a2)))] [1, 2, 5] [0] (cs := [PCall V P 11 [.agg [.lit (.int .i64 p0.Epoch), .lit (.int .i64 p0.Vote), .lit (.int .i64 p0.Commit), .ro Tag.t_api_Entry p0.Log], .cv (.ro Tag.t_int p1)] (.cv (.lit (.int .i64 a2))), True]) (S' := ⟨[(1, .cv (.ro Tag.t_int p1)), (2, .cv (.ptr 0 0)), (5, .cv (.lit (.int .i64 a2)))], [(0, .raw [.lit (.int .i64 p0.Epoch), .lit (.int .i64 p0.Vote), .lit (.int .i64 p0.Commit), .ro Tag.t_api_Entry p0.Log])]⟩) (by kernel_rfl) (And.intro (quorum_Commit.ok h2) trivial) ?_
      refine awp_seq ?_
      refine awp_seq ?_
      refine awp_region L 21 [] [] [1, 2, 5, 22] [0] (cs := []) (S' := ⟨[(1, .cv (.ro Tag.t_int p1)), (2, .cv (.ptr 0 0)), (5, .cv (.lit (.int .i64 a2))), (22, .cv (.lit (.bool ((decide (a2 = p0.Commit))))))], [(0, .raw [.lit (.int .i64 p0.Epoch), .lit (.int .i64 p0.Vote), .lit (.int .i64 p0.Commit), .ro Tag.t_api_Entry p0.Log])]⟩) (by kernel_rfl) trivial ?_
      rcases ite_some h with ⟨c3, h⟩ | ⟨c3, h⟩
      · refine awp_true (b := (decide (a2 = p0.Commit))) (by kernel_rfl) (decide_eq_true c3) ?_
        refine awp_seq ?_
        obtain ⟨a3, h3, h⟩ := bind_some h
        refine awp_region L 26 [] [(0, .cv (.lit (.bool a3)))] [4] [] (cs := [PCall V P 7 [] (.cv (.lit (.bool a3))), True]) (S' := ⟨[(4, .cv (.lit (.bool a3)))], []⟩) (by kernel_rfl) (And.intro (workflowlaw53_lives.ok h3) trivial) ?_
        refine awp_ret ?_
        have hr := Option.some.inj h
        subst hr
        exact ⟨.inr rfl, .cv (.lit (.bool a3)), by kernel_rfl, by kernel_rfl, trivial, by kernel_rfl⟩
      · refine awp_false (b := (decide (a2 = p0.Commit))) (by kernel_rfl) (decide_eq_false c3) ?_
        refine awp_skip [1, 2, 5] [0] (S' := ⟨[(1, .cv (.ro Tag.t_int p1)), (2, .cv (.ptr 0 0)), (5, .cv (.lit (.int .i64 a2)))], [(0, .raw [.lit (.int .i64 p0.Epoch), .lit (.int .i64 p0.Vote), .lit (.int .i64 p0.Commit), .ro Tag.t_api_Entry p0.Log])]⟩) (by kernel_rfl) ?_
        refine awp_seq ?_
        rcases ite_some h with ⟨c4, h⟩ | ⟨c4, h⟩
        · rcases ite_some h with ⟨c5, h⟩ | ⟨c5, h⟩
          · rcases ite_some h with ⟨c6, h⟩ | ⟨c6, h⟩
            · obtain ⟨g1, h⟩ := guard_some h
              rcases ite_some h with ⟨c7, h⟩ | ⟨c7, h⟩
              · obtain ⟨a4, h4, h⟩ := bind_some h
                obtain ⟨a5, h5, h⟩ := bind_some h
                rcases ite_some h with ⟨c8, h⟩ | ⟨c8, h⟩
                · obtain ⟨a6, h6, h⟩ := bind_some h
                  refine awp_draw L mixed 29 [(4, true), (8, true), (15, true), (27, true), (36, true)] [(30, .cv (.lit (.int .i64 a4))), (33, .cv (.lit (.int .i64 a5))), (37, .cv (.lit (.bool a6)))] 40 [4] [] (cs := [(decide (a2 > p0.Commit)) = true, (decide (a2 ≥ 1)) = true, (decide (a2 ≤ (p0.Log.length : Int))) = true, (0 : Int) ≤ (IntKind.i64.wrap (a2 - 1)), ((IntKind.i64.wrap (a2 - 1)) : Int) < (p0.Log.length : Int), (decide (((p0.Log.getD (Int.toNat ((IntKind.i64.wrap (a2 - 1)))) (⟨(0 : Int), ([] : List UInt8)⟩ : api_Entry))).Epoch = p0.Epoch)) = true, PCall V P 9 [.cv (.ro Tag.t_int p1), .cv (.lit (.int .i64 a2))] (.cv (.lit (.int .i64 a4))), True, PCall V P 10 [.cv (.lit (.int .i64 (p1.length : Int)))] (.cv (.lit (.int .i64 a5))), True, (decide (a4 ≥ a5)) = true, PCall V P 7 [] (.cv (.lit (.bool a6))), True]) (S' := ⟨[(4, .cv (.lit (.bool a6)))], []⟩) (by kernel_rfl) (And.intro (decide_eq_true c4) (And.intro (decide_eq_true c5) (And.intro (decide_eq_true c6) (And.intro g1.1 (And.intro g1.2 (And.intro (decide_eq_true c7) (And.intro (workflowlaw53_reach.ok h4) (And.intro trivial (And.intro (quorum_Majority.ok h5) (And.intro trivial (And.intro (decide_eq_true c8) (And.intro (workflowlaw53_lives.ok h6) trivial)))))))))))) ?_
                  refine awp_ret ?_
                  have hr := Option.some.inj h
                  subst hr
                  exact ⟨.inr rfl, .cv (.lit (.bool a6)), by kernel_rfl, by kernel_rfl, trivial, by kernel_rfl⟩
                · refine awp_draw L mixed 29 [(4, true), (8, true), (15, true), (27, true), (36, false)] [(30, .cv (.lit (.int .i64 a4))), (33, .cv (.lit (.int .i64 a5)))] 40 [4] [] (cs := [(decide (a2 > p0.Commit)) = true, (decide (a2 ≥ 1)) = true, (decide (a2 ≤ (p0.Log.length : Int))) = true, (0 : Int) ≤ (IntKind.i64.wrap (a2 - 1)), ((IntKind.i64.wrap (a2 - 1)) : Int) < (p0.Log.length : Int), (decide (((p0.Log.getD (Int.toNat ((IntKind.i64.wrap (a2 - 1)))) (⟨(0 : Int), ([] : List UInt8)⟩ : api_Entry))).Epoch = p0.Epoch)) = true, PCall V P 9 [.cv (.ro Tag.t_int p1), .cv (.lit (.int .i64 a2))] (.cv (.lit (.int .i64 a4))), True, PCall V P 10 [.cv (.lit (.int .i64 (p1.length : Int)))] (.cv (.lit (.int .i64 a5))), True, (decide (a4 ≥ a5)) = false]) (S' := ⟨[(4, .cv (.lit (.bool false)))], []⟩) (by kernel_rfl) (And.intro (decide_eq_true c4) (And.intro (decide_eq_true c5) (And.intro (decide_eq_true c6) (And.intro g1.1 (And.intro g1.2 (And.intro (decide_eq_true c7) (And.intro (workflowlaw53_reach.ok h4) (And.intro trivial (And.intro (quorum_Majority.ok h5) (And.intro trivial (decide_eq_false c8))))))))))) ?_
                  refine awp_ret ?_
                  have hr := Option.some.inj h
                  subst hr
                  exact ⟨.inr rfl, .cv (.lit (.bool false)), by kernel_rfl, by kernel_rfl, trivial, by kernel_rfl⟩
              · refine awp_draw L mixed 29 [(4, true), (8, true), (15, true), (27, false)] [] 40 [4] [] (cs := [(decide (a2 > p0.Commit)) = true, (decide (a2 ≥ 1)) = true, (decide (a2 ≤ (p0.Log.length : Int))) = true, (0 : Int) ≤ (IntKind.i64.wrap (a2 - 1)), ((IntKind.i64.wrap (a2 - 1)) : Int) < (p0.Log.length : Int), (decide (((p0.Log.getD (Int.toNat ((IntKind.i64.wrap (a2 - 1)))) (⟨(0 : Int), ([] : List UInt8)⟩ : api_Entry))).Epoch = p0.Epoch)) = false]) (S' := ⟨[(4, .cv (.lit (.bool false)))], []⟩) (by kernel_rfl) (And.intro (decide_eq_true c4) (And.intro (decide_eq_true c5) (And.intro (decide_eq_true c6) (And.intro g1.1 (And.intro g1.2 (decide_eq_false c7)))))) ?_
                refine awp_ret ?_
                have hr := Option.some.inj h
                subst hr
                exact ⟨.inr rfl, .cv (.lit (.bool false)), by kernel_rfl, by kernel_rfl, trivial, by kernel_rfl⟩
            · refine awp_draw L mixed 29 [(4, true), (8, true), (15, false)] [] 40 [4] [] (cs := [(decide (a2 > p0.Commit)) = true, (decide (a2 ≥ 1)) = true, (decide (a2 ≤ (p0.Log.length : Int))) = false]) (S' := ⟨[(4, .cv (.lit (.bool false)))], []⟩) (by kernel_rfl) (And.intro (decide_eq_true c4) (And.intro (decide_eq_true c5) (decide_eq_false c6))) ?_
              refine awp_ret ?_
              have hr := Option.some.inj h
              subst hr
              exact ⟨.inr rfl, .cv (.lit (.bool false)), by kernel_rfl, by kernel_rfl, trivial, by kernel_rfl⟩
          · refine awp_draw L mixed 29 [(4, true), (8, false)] [] 40 [4] [] (cs := [(decide (a2 > p0.Commit)) = true, (decide (a2 ≥ 1)) = false]) (S' := ⟨[(4, .cv (.lit (.bool false)))], []⟩) (by kernel_rfl) (And.intro (decide_eq_true c4) (decide_eq_false c5)) ?_
            refine awp_ret ?_
            have hr := Option.some.inj h
            subst hr
            exact ⟨.inr rfl, .cv (.lit (.bool false)), by kernel_rfl, by kernel_rfl, trivial, by kernel_rfl⟩
        · refine awp_draw L mixed 29 [(4, false)] [] 40 [4] [] (cs := [(decide (a2 > p0.Commit)) = false]) (S' := ⟨[(4, .cv (.lit (.bool false)))], []⟩) (by kernel_rfl) (decide_eq_false c4) ?_
          refine awp_ret ?_
          have hr := Option.some.inj h
          subst hr
          exact ⟨.inr rfl, .cv (.lit (.bool false)), by kernel_rfl, by kernel_rfl, trivial, by kernel_rfl⟩

theorem workflowlaw53_QuorumCommits.ok {K : Nat} {p0 : api_Replica} {p1 : List Int} {r : Bool} (h : workflowlaw53_QuorumCommits K p0 p1 = some r) : PCall V P 4 [.agg [.lit (.int .i64 p0.Epoch), .lit (.int .i64 p0.Vote), .lit (.int .i64 p0.Commit), .ro Tag.t_api_Entry p0.Log], .cv (.ro Tag.t_int p1)] (.cv (.lit (.bool r))) :=
  pcall_of (fn := Try.f4) (n := 63) (by kernel_rfl) (by kernel_rfl) (by kernel_rfl) rfl (by kernel_rfl) (by kernel_rfl) fun Γ => workflowlaw53_QuorumCommits.body h

def workflowref53_Majority (K : Nat) (p0 : Int) : Option Int := (if p0 < 1 then some 0 else some ((IntKind.i64.wrap ((IntKind.i64.wrap (Int.tdiv p0 2)) + 1))))

theorem workflowref53_Majority.body {Γ : Ent} {K : Nat} {p0 : Int} {r : Int} (h : workflowref53_Majority K p0 = some r) : AWp V P 8 0 Γ (Try.f12.body.getD .skip) (Eng.Ends P V Try.f12 (.cv (.lit (.int .i64 r)))) ⟨args0 0 [.cv (.lit (.int .i64 p0))], []⟩ := by
  unfold workflowref53_Majority at h
  refine awp_seq ?_
  refine awp_region L 0 [] [] [0] [] (cs := []) (S' := ⟨[(0, .cv (.lit (.int .i64 p0)))], []⟩) (by kernel_rfl) trivial ?_
  refine awp_seq ?_
  refine awp_seq ?_
  refine awp_region L 2 [] [] [0, 4] [] (cs := []) (S' := ⟨[(0, .cv (.lit (.int .i64 p0))), (4, .cv (.lit (.bool ((decide (p0 < 1))))))], []⟩) (by kernel_rfl) trivial ?_
  rcases ite_some h with ⟨c1, h⟩ | ⟨c1, h⟩
  · refine awp_true (b := (decide (p0 < 1))) (by kernel_rfl) (decide_eq_true c1) ?_
    refine awp_seq ?_
    refine awp_region L 5 [] [] [2] [] (cs := []) (S' := ⟨[(2, .cv (.lit (.int .i64 0)))], []⟩) (by kernel_rfl) trivial ?_
    refine awp_ret ?_
    have hr := Option.some.inj h
    subst hr
    exact ⟨.inr rfl, .cv (.lit (.int .i64 0)), by kernel_rfl, by kernel_rfl, trivial, by kernel_rfl⟩
  · refine awp_false (b := (decide (p0 < 1))) (by kernel_rfl) (decide_eq_false c1) ?_
    refine awp_skip [0] [] (S' := ⟨[(0, .cv (.lit (.int .i64 p0)))], []⟩) (by kernel_rfl) ?_
    refine awp_seq ?_
    refine awp_region L 7 [] [] [2] [] (cs := [2 ≠ (0 : Int)]) (S' := ⟨[(2, .cv (.lit (.int .i64 ((IntKind.i64.wrap ((IntKind.i64.wrap (Int.tdiv p0 2)) + 1))))))], []⟩) (by kernel_rfl) (show 2 ≠ (0 : Int) from by decide) ?_
    refine awp_ret ?_
    have hr := Option.some.inj h
    subst hr
    exact ⟨.inr rfl, .cv (.lit (.int .i64 ((IntKind.i64.wrap ((IntKind.i64.wrap (Int.tdiv p0 2)) + 1))))), by kernel_rfl, by kernel_rfl, trivial, by kernel_rfl⟩

theorem workflowref53_Majority.ok {K : Nat} {p0 : Int} {r : Int} (h : workflowref53_Majority K p0 = some r) : PCall V P 12 [.cv (.lit (.int .i64 p0))] (.cv (.lit (.int .i64 r))) :=
  pcall_of (fn := Try.f12) (n := 8) (by kernel_rfl) (by kernel_rfl) (by kernel_rfl) rfl (by kernel_rfl) (by kernel_rfl) fun Γ => workflowref53_Majority.body h

def workflowref53_Won (K : Nat) (p0 : Int) (p1 : Int) : Option Bool := (if p1 ≥ 1 then (Option.bind (workflowref53_Majority K p1) (fun a1 => some ((decide (p0 ≥ a1))))) else some false)

theorem workflowref53_Won.body {Γ : Ent} {K : Nat} {p0 : Int} {p1 : Int} {r : Bool} (h : workflowref53_Won K p0 p1 = some r) : AWp V P 13 0 Γ (Try.f14.body.getD .skip) (Eng.Ends P V Try.f14 (.cv (.lit (.bool r)))) ⟨args0 0 [.cv (.lit (.int .i64 p0)), .cv (.lit (.int .i64 p1))], []⟩ := by
  unfold workflowref53_Won at h
  refine awp_seq ?_
  refine awp_region L 0 [] [] [0, 1] [] (cs := []) (S' := ⟨[(0, .cv (.lit (.int .i64 p0))), (1, .cv (.lit (.int .i64 p1)))], []⟩) (by kernel_rfl) trivial ?_
  refine awp_seq ?_
  rcases ite_some h with ⟨c1, h⟩ | ⟨c1, h⟩
  · obtain ⟨a1, h1, h⟩ := bind_some h
    refine awp_region L 2 [(2, true)] [(5, .cv (.lit (.int .i64 a1)))] [4] [] (cs := [(decide (p1 ≥ 1)) = true, PCall V P 12 [.cv (.lit (.int .i64 p1))] (.cv (.lit (.int .i64 a1))), True]) (S' := ⟨[(4, .cv (.lit (.bool ((decide (p0 ≥ a1))))))], []⟩) (by kernel_rfl) (And.intro (decide_eq_true c1) (And.intro (workflowref53_Majority.ok h1) trivial)) ?_
    refine awp_ret ?_
    have hr := Option.some.inj h
    subst hr
    exact ⟨.inr rfl, .cv (.lit (.bool ((decide (p0 ≥ a1))))), by kernel_rfl, by kernel_rfl, trivial, by kernel_rfl⟩
  · refine awp_region L 2 [(2, false)] [] [4] [] (cs := [(decide (p1 ≥ 1)) = false]) (S' := ⟨[(4, .cv (.lit (.bool false)))], []⟩) (by kernel_rfl) (decide_eq_false c1) ?_
    refine awp_ret ?_
    have hr := Option.some.inj h
    subst hr
    exact ⟨.inr rfl, .cv (.lit (.bool false)), by kernel_rfl, by kernel_rfl, trivial, by kernel_rfl⟩

theorem workflowref53_Won.ok {K : Nat} {p0 : Int} {p1 : Int} {r : Bool} (h : workflowref53_Won K p0 p1 = some r) : PCall V P 14 [.cv (.lit (.int .i64 p0)), .cv (.lit (.int .i64 p1))] (.cv (.lit (.bool r))) :=
  pcall_of (fn := Try.f14) (n := 13) (by kernel_rfl) (by kernel_rfl) (by kernel_rfl) rfl (by kernel_rfl) (by kernel_rfl) fun Γ => workflowref53_Won.body h

def workflowref53_reached.l9 (K : Nat) (p0 : List Int) (p1 : Int) : Nat → Int → Int → Option Int
  | 0, _, _ => none
  | k + 1, xt5_9h, xt6_9h => (if xt6_9h < (p0.length : Int) then (if (0 : Int) ≤ xt6_9h ∧ (xt6_9h : Int) < (p0.length : Int) then (if (p0.getD (Int.toNat xt6_9h) (0 : Int)) ≥ p1 then workflowref53_reached.l9 K p0 p1 k ((IntKind.i64.wrap (xt5_9h + 1))) ((IntKind.i64.wrap (xt6_9h + 1))) else workflowref53_reached.l9 K p0 p1 k xt5_9h ((IntKind.i64.wrap (xt6_9h + 1)))) else none) else some xt5_9h)

def workflowref53_reached (K : Nat) (p0 : List Int) (p1 : Int) : Option Int := (Option.bind (workflowref53_reached.l9 K p0 p1 K 0 0 : Option Int) (fun xt5_9 => some xt5_9))

theorem workflowref53_reached.body {Γ : Ent} {K : Nat} {p0 : List Int} {p1 : Int} {r : Int} (h : workflowref53_reached K p0 p1 = some r) : AWp V P 22 0 Γ (Try.f22.body.getD .skip) (Eng.Ends P V Try.f22 (.cv (.lit (.int .i64 r)))) ⟨args0 0 [.cv (.ro Tag.t_int p0), .cv (.lit (.int .i64 p1))], []⟩ := by
  unfold workflowref53_reached at h
  refine awp_seq ?_
  refine awp_region L 0 [] [] [0, 1] [] (cs := []) (S' := ⟨[(0, .cv (.ro Tag.t_int p0)), (1, .cv (.lit (.int .i64 p1)))], []⟩) (by kernel_rfl) trivial ?_
  refine awp_seq ?_
  refine awp_region L 2 [] [] [0, 1, 5] [] (cs := []) (S' := ⟨[(0, .cv (.ro Tag.t_int p0)), (1, .cv (.lit (.int .i64 p1))), (5, .cv (.lit (.int .i64 0)))], []⟩) (by kernel_rfl) trivial ?_
  refine awp_seq ?_
  refine awp_seq ?_
  refine awp_region L 4 [] [] [0, 1, 5, 6] [] (cs := []) (S' := ⟨[(0, .cv (.ro Tag.t_int p0)), (1, .cv (.lit (.int .i64 p1))), (5, .cv (.lit (.int .i64 0))), (6, .cv (.lit (.int .i64 0)))], []⟩) (by kernel_rfl) trivial ?_
  refine awp_block ?_
  refine awp_keep (ts := [0, 1, 5, 6]) (ids := []) (S' := ⟨[(0, .cv (.ro Tag.t_int p0)), (1, .cv (.lit (.int .i64 p1))), (5, .cv (.lit (.int .i64 0))), (6, .cv (.lit (.int .i64 0)))], []⟩) (by kernel_rfl) ?_
  obtain ⟨o1, hp1, h⟩ := bind_some h
  refine awp_mono (Q' := fun e S => (e = .exit 0 ∧ ∃ xt5_9 : Int, S = ⟨[(5, .cv (.lit (.int .i64 xt5_9)))], []⟩ ∧ xt5_9 = o1)) (awp_loop (fun k S => ∃ xt5_9h : Int, ∃ xt6_9h : Int, S = ⟨[(0, .cv (.ro Tag.t_int p0)), (1, .cv (.lit (.int .i64 p1))), (5, .cv (.lit (.int .i64 xt5_9h))), (6, .cv (.lit (.int .i64 xt6_9h)))], []⟩ ∧ workflowref53_reached.l9 K p0 p1 k xt5_9h xt6_9h = some o1) ?_ ⟨_, _, rfl, hp1⟩) ?_
  · clear h hp1
    intro k S hS
    obtain ⟨xt5_9h, xt6_9h, rfl, h⟩ := hS
    cases k with
    | zero => cases h
    | succ k =>
    unfold workflowref53_reached.l9 at h
    refine awp_seq ?_
    refine awp_seq ?_
    refine awp_region L 6 [] [] [0, 1, 5, 6, 10] [] (cs := []) (S' := ⟨[(0, .cv (.ro Tag.t_int p0)), (1, .cv (.lit (.int .i64 p1))), (5, .cv (.lit (.int .i64 xt5_9h))), (6, .cv (.lit (.int .i64 xt6_9h))), (10, .cv (.lit (.bool ((decide (xt6_9h < (p0.length : Int)))))))], []⟩) (by kernel_rfl) trivial ?_
    rcases ite_some h with ⟨c1, h⟩ | ⟨c1, h⟩
    · refine awp_true (b := (decide (xt6_9h < (p0.length : Int)))) (by kernel_rfl) (decide_eq_true c1) ?_
      refine awp_skip [0, 1, 5, 6] [] (S' := ⟨[(0, .cv (.ro Tag.t_int p0)), (1, .cv (.lit (.int .i64 p1))), (5, .cv (.lit (.int .i64 xt5_9h))), (6, .cv (.lit (.int .i64 xt6_9h)))], []⟩) (by kernel_rfl) ?_
      refine awp_seq ?_
      refine awp_block ?_
      refine awp_seq ?_
      obtain ⟨g1, h⟩ := guard_some h
      refine awp_region L 11 [] [] [0, 1, 5, 6, 18] [] (cs := [(0 : Int) ≤ xt6_9h, (xt6_9h : Int) < (p0.length : Int)]) (S' := ⟨[(0, .cv (.ro Tag.t_int p0)), (1, .cv (.lit (.int .i64 p1))), (5, .cv (.lit (.int .i64 xt5_9h))), (6, .cv (.lit (.int .i64 xt6_9h))), (18, .cv (.lit (.bool ((decide ((p0.getD (Int.toNat xt6_9h) (0 : Int)) ≥ p1))))))], []⟩) (by kernel_rfl) (And.intro g1.1 g1.2) ?_
      rcases ite_some h with ⟨c2, h⟩ | ⟨c2, h⟩
      · refine awp_true (b := (decide ((p0.getD (Int.toNat xt6_9h) (0 : Int)) ≥ p1))) (by kernel_rfl) (decide_eq_true c2) ?_
        refine awp_region L 18 [] [] [0, 1, 5, 6] [] (cs := []) (S' := ⟨[(0, .cv (.ro Tag.t_int p0)), (1, .cv (.lit (.int .i64 p1))), (5, .cv (.lit (.int .i64 ((IntKind.i64.wrap (xt5_9h + 1)))))), (6, .cv (.lit (.int .i64 xt6_9h)))], []⟩) (by kernel_rfl) trivial ?_
        refine awp_region L 22 [] [] [0, 1, 5, 6] [] (cs := []) (S' := ⟨[(0, .cv (.ro Tag.t_int p0)), (1, .cv (.lit (.int .i64 p1))), (5, .cv (.lit (.int .i64 ((IntKind.i64.wrap (xt5_9h + 1)))))), (6, .cv (.lit (.int .i64 ((IntKind.i64.wrap (xt6_9h + 1))))))], []⟩) (by kernel_rfl) trivial ?_
        exact ⟨k, Nat.lt_succ_self k, _, _, rfl, h⟩
      · refine awp_false (b := (decide ((p0.getD (Int.toNat xt6_9h) (0 : Int)) ≥ p1))) (by kernel_rfl) (decide_eq_false c2) ?_
        refine awp_skip [0, 1, 5, 6] [] (S' := ⟨[(0, .cv (.ro Tag.t_int p0)), (1, .cv (.lit (.int .i64 p1))), (5, .cv (.lit (.int .i64 xt5_9h))), (6, .cv (.lit (.int .i64 xt6_9h)))], []⟩) (by kernel_rfl) ?_
        refine awp_region L 22 [] [] [0, 1, 5, 6] [] (cs := []) (S' := ⟨[(0, .cv (.ro Tag.t_int p0)), (1, .cv (.lit (.int .i64 p1))), (5, .cv (.lit (.int .i64 xt5_9h))), (6, .cv (.lit (.int .i64 ((IntKind.i64.wrap (xt6_9h + 1))))))], []⟩) (by kernel_rfl) trivial ?_
        exact ⟨k, Nat.lt_succ_self k, _, _, rfl, h⟩
    · refine awp_false (b := (decide (xt6_9h < (p0.length : Int)))) (by kernel_rfl) (decide_eq_false c1) ?_
      refine awp_exit [5] [] (S' := ⟨[(5, .cv (.lit (.int .i64 xt5_9h)))], []⟩) (by kernel_rfl) ?_
      have hr := Option.some.inj h
      subst hr
      exact ⟨rfl, _, rfl, rfl⟩
  · rintro e S ⟨rfl, xt5_9, rfl, rfl⟩
    refine awp_seq ?_
    refine awp_region L 26 [] [] [4] [] (cs := []) (S' := ⟨[(4, .cv (.lit (.int .i64 xt5_9)))], []⟩) (by kernel_rfl) trivial ?_
    refine awp_ret ?_
    have hr := Option.some.inj h
    subst hr
    exact ⟨.inr rfl, .cv (.lit (.int .i64 xt5_9)), by kernel_rfl, by kernel_rfl, trivial, by kernel_rfl⟩

theorem workflowref53_reached.ok {K : Nat} {p0 : List Int} {p1 : Int} {r : Int} (h : workflowref53_reached K p0 p1 = some r) : PCall V P 22 [.cv (.ro Tag.t_int p0), .cv (.lit (.int .i64 p1))] (.cv (.lit (.int .i64 r))) :=
  pcall_of (fn := Try.f22) (n := 22) (by kernel_rfl) (by kernel_rfl) (by kernel_rfl) rfl (by kernel_rfl) (by kernel_rfl) fun Γ => workflowref53_reached.body h

def workflowref53_Index.l9 (K : Nat) (p0 : List Int) : Nat → Int → Int → Option Int
  | 0, _, _ => none
  | k + 1, xt3_9h, xt4_9h => (if xt4_9h < (p0.length : Int) then (if (0 : Int) ≤ xt4_9h ∧ (xt4_9h : Int) < (p0.length : Int) then (if (p0.getD (Int.toNat xt4_9h) (0 : Int)) > xt3_9h then (Option.bind (workflowref53_reached K p0 ((p0.getD (Int.toNat xt4_9h) (0 : Int)))) (fun a1 => (Option.bind (workflowref53_Won K a1 (p0.length : Int)) (fun a2 => (if a2 = true then workflowref53_Index.l9 K p0 k ((p0.getD (Int.toNat xt4_9h) (0 : Int))) ((IntKind.i64.wrap (xt4_9h + 1))) else workflowref53_Index.l9 K p0 k xt3_9h ((IntKind.i64.wrap (xt4_9h + 1)))))))) else workflowref53_Index.l9 K p0 k xt3_9h ((IntKind.i64.wrap (xt4_9h + 1)))) else none) else some xt3_9h)

def workflowref53_Index (K : Nat) (p0 : List Int) : Option Int := (Option.bind (workflowref53_Index.l9 K p0 K 0 0 : Option Int) (fun xt3_9 => some xt3_9))

theorem workflowref53_Index.body {Γ : Ent} {K : Nat} {p0 : List Int} {r : Int} (h : workflowref53_Index K p0 = some r) : AWp V P 33 0 Γ (Try.f15.body.getD .skip) (Eng.Ends P V Try.f15 (.cv (.lit (.int .i64 r)))) ⟨args0 0 [.cv (.ro Tag.t_int p0)], []⟩ := by
  unfold workflowref53_Index at h
  refine awp_seq ?_
  refine awp_region L 0 [] [] [0] [] (cs := []) (S' := ⟨[(0, .cv (.ro Tag.t_int p0))], []⟩) (by kernel_rfl) trivial ?_
  refine awp_seq ?_
  refine awp_region L 2 [] [] [0, 3] [] (cs := []) (S' := ⟨[(0, .cv (.ro Tag.t_int p0)), (3, .cv (.lit (.int .i64 0)))], []⟩) (by kernel_rfl) trivial ?_
  refine awp_seq ?_
  refine awp_seq ?_
  refine awp_region L 4 [] [] [0, 3, 4] [] (cs := []) (S' := ⟨[(0, .cv (.ro Tag.t_int p0)), (3, .cv (.lit (.int .i64 0))), (4, .cv (.lit (.int .i64 0)))], []⟩) (by kernel_rfl) trivial ?_
  refine awp_block ?_
  refine awp_keep (ts := [0, 3, 4]) (ids := []) (S' := ⟨[(0, .cv (.ro Tag.t_int p0)), (3, .cv (.lit (.int .i64 0))), (4, .cv (.lit (.int .i64 0)))], []⟩) (by kernel_rfl) ?_
  obtain ⟨o1, hp1, h⟩ := bind_some h
  refine awp_mono (Q' := fun e S => (e = .exit 0 ∧ ∃ xt3_9 : Int, S = ⟨[(3, .cv (.lit (.int .i64 xt3_9)))], []⟩ ∧ xt3_9 = o1)) (awp_loop (fun k S => ∃ xt3_9h : Int, ∃ xt4_9h : Int, S = ⟨[(0, .cv (.ro Tag.t_int p0)), (3, .cv (.lit (.int .i64 xt3_9h))), (4, .cv (.lit (.int .i64 xt4_9h)))], []⟩ ∧ workflowref53_Index.l9 K p0 k xt3_9h xt4_9h = some o1) ?_ ⟨_, _, rfl, hp1⟩) ?_
  · clear h hp1
    intro k S hS
    obtain ⟨xt3_9h, xt4_9h, rfl, h⟩ := hS
    cases k with
    | zero => cases h
    | succ k =>
    unfold workflowref53_Index.l9 at h
    refine awp_seq ?_
    refine awp_seq ?_
    refine awp_region L 6 [] [] [0, 3, 4, 8] [] (cs := []) (S' := ⟨[(0, .cv (.ro Tag.t_int p0)), (3, .cv (.lit (.int .i64 xt3_9h))), (4, .cv (.lit (.int .i64 xt4_9h))), (8, .cv (.lit (.bool ((decide (xt4_9h < (p0.length : Int)))))))], []⟩) (by kernel_rfl) trivial ?_
    rcases ite_some h with ⟨c1, h⟩ | ⟨c1, h⟩
    · refine awp_true (b := (decide (xt4_9h < (p0.length : Int)))) (by kernel_rfl) (decide_eq_true c1) ?_
      refine awp_skip [0, 3, 4] [] (S' := ⟨[(0, .cv (.ro Tag.t_int p0)), (3, .cv (.lit (.int .i64 xt3_9h))), (4, .cv (.lit (.int .i64 xt4_9h)))], []⟩) (by kernel_rfl) ?_
      refine awp_seq ?_
      refine awp_block ?_
      refine awp_seq ?_
      obtain ⟨g1, h⟩ := guard_some h
      rcases ite_some h with ⟨c2, h⟩ | ⟨c2, h⟩
      · obtain ⟨a1, h1, h⟩ := bind_some h
        obtain ⟨a2, h2, h⟩ := bind_some h
        refine awp_region L 11 [(6, true)] [(12, .cv (.lit (.int .i64 a1))), (15, .cv (.lit (.bool a2)))] [0, 3, 4, 27] [] (cs := [(0 : Int) ≤ xt4_9h, (xt4_9h : Int) < (p0.length : Int), (decide ((p0.getD (Int.toNat xt4_9h) (0 : Int)) > xt3_9h)) = true, (0 : Int) ≤ xt4_9h, (xt4_9h : Int) < (p0.length : Int), PCall V P 22 [.cv (.ro Tag.t_int p0), .cv (.lit (.int .i64 ((p0.getD (Int.toNat xt4_9h) (0 : Int)))))] (.cv (.lit (.int .i64 a1))), True, PCall V P 14 [.cv (.lit (.int .i64 a1)), .cv (.lit (.int .i64 (p0.length : Int)))] (.cv (.lit (.bool a2))), True]) (S' := ⟨[(0, .cv (.ro Tag.t_int p0)), (3, .cv (.lit (.int .i64 xt3_9h))), (4, .cv (.lit (.int .i64 xt4_9h))), (27, .cv (.lit (.bool a2)))], []⟩) (by kernel_rfl) (And.intro g1.1 (And.intro g1.2 (And.intro (decide_eq_true c2) (And.intro g1.1 (And.intro g1.2 (And.intro (workflowref53_reached.ok h1) (And.intro trivial (And.intro (workflowref53_Won.ok h2) trivial)))))))) ?_
        rcases ite_some h with ⟨c3, h⟩ | ⟨c3, h⟩
        · refine awp_true (b := a2) (by kernel_rfl) (c3) ?_
          refine awp_region L 29 [] [] [0, 3, 4] [] (cs := [(0 : Int) ≤ xt4_9h, (xt4_9h : Int) < (p0.length : Int)]) (S' := ⟨[(0, .cv (.ro Tag.t_int p0)), (3, .cv (.lit (.int .i64 ((p0.getD (Int.toNat xt4_9h) (0 : Int)))))), (4, .cv (.lit (.int .i64 xt4_9h)))], []⟩) (by kernel_rfl) (And.intro g1.1 g1.2) ?_
          refine awp_region L 35 [] [] [0, 3, 4] [] (cs := []) (S' := ⟨[(0, .cv (.ro Tag.t_int p0)), (3, .cv (.lit (.int .i64 ((p0.getD (Int.toNat xt4_9h) (0 : Int)))))), (4, .cv (.lit (.int .i64 ((IntKind.i64.wrap (xt4_9h + 1))))))], []⟩) (by kernel_rfl) trivial ?_
          exact ⟨k, Nat.lt_succ_self k, _, _, rfl, h⟩
        · refine awp_false (b := a2) (by kernel_rfl) (eq_false_of_ne_true c3) ?_
          refine awp_skip [0, 3, 4] [] (S' := ⟨[(0, .cv (.ro Tag.t_int p0)), (3, .cv (.lit (.int .i64 xt3_9h))), (4, .cv (.lit (.int .i64 xt4_9h)))], []⟩) (by kernel_rfl) ?_
          refine awp_region L 35 [] [] [0, 3, 4] [] (cs := []) (S' := ⟨[(0, .cv (.ro Tag.t_int p0)), (3, .cv (.lit (.int .i64 xt3_9h))), (4, .cv (.lit (.int .i64 ((IntKind.i64.wrap (xt4_9h + 1))))))], []⟩) (by kernel_rfl) trivial ?_
          exact ⟨k, Nat.lt_succ_self k, _, _, rfl, h⟩
      · refine awp_region L 11 [(6, false)] [] [0, 3, 4, 27] [] (cs := [(0 : Int) ≤ xt4_9h, (xt4_9h : Int) < (p0.length : Int), (decide ((p0.getD (Int.toNat xt4_9h) (0 : Int)) > xt3_9h)) = false]) (S' := ⟨[(0, .cv (.ro Tag.t_int p0)), (3, .cv (.lit (.int .i64 xt3_9h))), (4, .cv (.lit (.int .i64 xt4_9h))), (27, .cv (.lit (.bool false)))], []⟩) (by kernel_rfl) (And.intro g1.1 (And.intro g1.2 (decide_eq_false c2))) ?_
        refine awp_false (b := false) (by kernel_rfl) (rfl) ?_
        refine awp_skip [0, 3, 4] [] (S' := ⟨[(0, .cv (.ro Tag.t_int p0)), (3, .cv (.lit (.int .i64 xt3_9h))), (4, .cv (.lit (.int .i64 xt4_9h)))], []⟩) (by kernel_rfl) ?_
        refine awp_region L 35 [] [] [0, 3, 4] [] (cs := []) (S' := ⟨[(0, .cv (.ro Tag.t_int p0)), (3, .cv (.lit (.int .i64 xt3_9h))), (4, .cv (.lit (.int .i64 ((IntKind.i64.wrap (xt4_9h + 1))))))], []⟩) (by kernel_rfl) trivial ?_
        exact ⟨k, Nat.lt_succ_self k, _, _, rfl, h⟩
    · refine awp_false (b := (decide (xt4_9h < (p0.length : Int)))) (by kernel_rfl) (decide_eq_false c1) ?_
      refine awp_exit [3] [] (S' := ⟨[(3, .cv (.lit (.int .i64 xt3_9h)))], []⟩) (by kernel_rfl) ?_
      have hr := Option.some.inj h
      subst hr
      exact ⟨rfl, _, rfl, rfl⟩
  · rintro e S ⟨rfl, xt3_9, rfl, rfl⟩
    refine awp_seq ?_
    refine awp_region L 39 [] [] [2] [] (cs := []) (S' := ⟨[(2, .cv (.lit (.int .i64 xt3_9)))], []⟩) (by kernel_rfl) trivial ?_
    refine awp_ret ?_
    have hr := Option.some.inj h
    subst hr
    exact ⟨.inr rfl, .cv (.lit (.int .i64 xt3_9)), by kernel_rfl, by kernel_rfl, trivial, by kernel_rfl⟩

theorem workflowref53_Index.ok {K : Nat} {p0 : List Int} {r : Int} (h : workflowref53_Index K p0 = some r) : PCall V P 15 [.cv (.ro Tag.t_int p0)] (.cv (.lit (.int .i64 r))) :=
  pcall_of (fn := Try.f15) (n := 33) (by kernel_rfl) (by kernel_rfl) (by kernel_rfl) rfl (by kernel_rfl) (by kernel_rfl) fun Γ => workflowref53_Index.body h

def workflowref53_Commit.l9 (K : Nat) (p0 : api_Replica) (p1 : List Int) : Nat → Int → Int → Option Int
  | 0, _, _ => none
  | k + 1, xt5_9h, xt6_9h => (if xt6_9h ≤ (p0.Log.length : Int) then (Option.bind (workflowref53_Index K p1) (fun a1 => (if xt6_9h ≤ a1 then (if xt6_9h > xt5_9h then (if (0 : Int) ≤ (IntKind.i64.wrap (xt6_9h - 1)) ∧ ((IntKind.i64.wrap (xt6_9h - 1)) : Int) < (p0.Log.length : Int) then (if ((p0.Log.getD (Int.toNat ((IntKind.i64.wrap (xt6_9h - 1)))) (⟨(0 : Int), ([] : List UInt8)⟩ : api_Entry))).Epoch = p0.Epoch then workflowref53_Commit.l9 K p0 p1 k xt6_9h ((IntKind.i64.wrap (xt6_9h + 1))) else workflowref53_Commit.l9 K p0 p1 k xt5_9h ((IntKind.i64.wrap (xt6_9h + 1)))) else none) else workflowref53_Commit.l9 K p0 p1 k xt5_9h ((IntKind.i64.wrap (xt6_9h + 1)))) else some xt5_9h))) else some xt5_9h)

def workflowref53_Commit (K : Nat) (p0 : api_Replica) (p1 : List Int) : Option Int := (Option.bind (workflowref53_Commit.l9 K p0 p1 K p0.Commit 1 : Option Int) (fun xt5_9 => some xt5_9))

theorem workflowref53_Commit.body {Γ : Ent} {K : Nat} {p0 : api_Replica} {p1 : List Int} {r : Int} (h : workflowref53_Commit K p0 p1 = some r) : AWp V P 39 0 Γ (Try.f16.body.getD .skip) (Eng.Ends P V Try.f16 (.cv (.lit (.int .i64 r)))) ⟨args0 0 [.agg [.lit (.int .i64 p0.Epoch), .lit (.int .i64 p0.Vote), .lit (.int .i64 p0.Commit), .ro Tag.t_api_Entry p0.Log], .cv (.ro Tag.t_int p1)], []⟩ := by
  unfold workflowref53_Commit at h
  refine awp_seq ?_
  refine awp_region L 0 [] [] [1, 2] [0] (cs := []) (S' := ⟨[(1, .cv (.ro Tag.t_int p1)), (2, .cv (.ptr 0 0))], [(0, .raw [.lit (.int .i64 p0.Epoch), .lit (.int .i64 p0.Vote), .lit (.int .i64 p0.Commit), .ro Tag.t_api_Entry p0.Log])]⟩) (by kernel_rfl) trivial ?_
  refine awp_seq ?_
  refine awp_region L 3 [] [] [1, 2, 5] [0] (cs := []) (S' := ⟨[(1, .cv (.ro Tag.t_int p1)), (2, .cv (.ptr 0 0)), (5, .cv (.lit (.int .i64 p0.Commit)))], [(0, .raw [.lit (.int .i64 p0.Epoch), .lit (.int .i64 p0.Vote), .lit (.int .i64 p0.Commit), .ro Tag.t_api_Entry p0.Log])]⟩) (by kernel_rfl) trivial ?_
  refine awp_seq ?_
  refine awp_seq ?_
  refine awp_region L 7 [] [] [1, 2, 5, 6] [0] (cs := []) (S' := ⟨[(1, .cv (.ro Tag.t_int p1)), (2, .cv (.ptr 0 0)), (5, .cv (.lit (.int .i64 p0.Commit))), (6, .cv (.lit (.int .i64 1)))], [(0, .raw [.lit (.int .i64 p0.Epoch), .lit (.int .i64 p0.Vote), .lit (.int .i64 p0.Commit), .ro Tag.t_api_Entry p0.Log])]⟩) (by kernel_rfl) trivial ?_
  refine awp_block ?_
  refine awp_keep (ts := [1, 2, 5, 6]) (ids := [0]) (S' := ⟨[(1, .cv (.ro Tag.t_int p1)), (2, .cv (.ptr 0 0)), (5, .cv (.lit (.int .i64 p0.Commit))), (6, .cv (.lit (.int .i64 1)))], [(0, .raw [.lit (.int .i64 p0.Epoch), .lit (.int .i64 p0.Vote), .lit (.int .i64 p0.Commit), .ro Tag.t_api_Entry p0.Log])]⟩) (by kernel_rfl) ?_
  obtain ⟨o1, hp1, h⟩ := bind_some h
  refine awp_mono (Q' := fun e S => (e = .exit 0 ∧ ∃ xt5_9 : Int, S = ⟨[(5, .cv (.lit (.int .i64 xt5_9)))], []⟩ ∧ xt5_9 = o1)) (awp_loop (fun k S => ∃ xt5_9h : Int, ∃ xt6_9h : Int, S = ⟨[(1, .cv (.ro Tag.t_int p1)), (2, .cv (.ptr 0 0)), (5, .cv (.lit (.int .i64 xt5_9h))), (6, .cv (.lit (.int .i64 xt6_9h)))], [(0, .raw [.lit (.int .i64 p0.Epoch), .lit (.int .i64 p0.Vote), .lit (.int .i64 p0.Commit), .ro Tag.t_api_Entry p0.Log])]⟩ ∧ workflowref53_Commit.l9 K p0 p1 k xt5_9h xt6_9h = some o1) ?_ ⟨_, _, rfl, hp1⟩) ?_
  · clear h hp1
    intro k S hS
    obtain ⟨xt5_9h, xt6_9h, rfl, h⟩ := hS
    cases k with
    | zero => cases h
    | succ k =>
    unfold workflowref53_Commit.l9 at h
    refine awp_seq ?_
    refine awp_seq ?_
    rcases ite_some h with ⟨c1, h⟩ | ⟨c1, h⟩
    · obtain ⟨a1, h1, h⟩ := bind_some h
      refine awp_region L 9 [(5, true)] [(8, .cv (.lit (.int .i64 a1)))] [1, 2, 5, 6, 19] [0] (cs := [(decide (xt6_9h ≤ (p0.Log.length : Int))) = true, PCall V P 15 [.cv (.ro Tag.t_int p1)] (.cv (.lit (.int .i64 a1))), True]) (S' := ⟨[(1, .cv (.ro Tag.t_int p1)), (2, .cv (.ptr 0 0)), (5, .cv (.lit (.int .i64 xt5_9h))), (6, .cv (.lit (.int .i64 xt6_9h))), (19, .cv (.lit (.bool ((decide (xt6_9h ≤ a1))))))], [(0, .raw [.lit (.int .i64 p0.Epoch), .lit (.int .i64 p0.Vote), .lit (.int .i64 p0.Commit), .ro Tag.t_api_Entry p0.Log])]⟩) (by kernel_rfl) (And.intro (decide_eq_true c1) (And.intro (workflowref53_Index.ok h1) trivial)) ?_
      rcases ite_some h with ⟨c2, h⟩ | ⟨c2, h⟩
      · refine awp_true (b := (decide (xt6_9h ≤ a1))) (by kernel_rfl) (decide_eq_true c2) ?_
        refine awp_skip [1, 2, 5, 6] [0] (S' := ⟨[(1, .cv (.ro Tag.t_int p1)), (2, .cv (.ptr 0 0)), (5, .cv (.lit (.int .i64 xt5_9h))), (6, .cv (.lit (.int .i64 xt6_9h)))], [(0, .raw [.lit (.int .i64 p0.Epoch), .lit (.int .i64 p0.Vote), .lit (.int .i64 p0.Commit), .ro Tag.t_api_Entry p0.Log])]⟩) (by kernel_rfl) ?_
        refine awp_seq ?_
        refine awp_block ?_
        refine awp_seq ?_
        rcases ite_some h with ⟨c3, h⟩ | ⟨c3, h⟩
        · obtain ⟨g1, h⟩ := guard_some h
          refine awp_draw L mixed 21 [(3, true)] [] 15 [1, 2, 5, 6, 36] [0] (cs := [(decide (xt6_9h > xt5_9h)) = true, (0 : Int) ≤ (IntKind.i64.wrap (xt6_9h - 1)), ((IntKind.i64.wrap (xt6_9h - 1)) : Int) < (p0.Log.length : Int)]) (S' := ⟨[(1, .cv (.ro Tag.t_int p1)), (2, .cv (.ptr 0 0)), (5, .cv (.lit (.int .i64 xt5_9h))), (6, .cv (.lit (.int .i64 xt6_9h))), (36, .cv (.lit (.bool ((decide (((p0.Log.getD (Int.toNat ((IntKind.i64.wrap (xt6_9h - 1)))) (⟨(0 : Int), ([] : List UInt8)⟩ : api_Entry))).Epoch = p0.Epoch))))))], [(0, .raw [.lit (.int .i64 p0.Epoch), .lit (.int .i64 p0.Vote), .lit (.int .i64 p0.Commit), .ro Tag.t_api_Entry p0.Log])]⟩) (by kernel_rfl) (And.intro (decide_eq_true c3) (And.intro g1.1 g1.2)) ?_
          rcases ite_some h with ⟨c4, h⟩ | ⟨c4, h⟩
          · refine awp_true (b := (decide (((p0.Log.getD (Int.toNat ((IntKind.i64.wrap (xt6_9h - 1)))) (⟨(0 : Int), ([] : List UInt8)⟩ : api_Entry))).Epoch = p0.Epoch))) (by kernel_rfl) (decide_eq_true c4) ?_
            refine awp_region L 37 [] [] [1, 2, 5, 6] [0] (cs := []) (S' := ⟨[(1, .cv (.ro Tag.t_int p1)), (2, .cv (.ptr 0 0)), (5, .cv (.lit (.int .i64 xt6_9h))), (6, .cv (.lit (.int .i64 xt6_9h)))], [(0, .raw [.lit (.int .i64 p0.Epoch), .lit (.int .i64 p0.Vote), .lit (.int .i64 p0.Commit), .ro Tag.t_api_Entry p0.Log])]⟩) (by kernel_rfl) trivial ?_
            refine awp_region L 40 [] [] [1, 2, 5, 6] [0] (cs := []) (S' := ⟨[(1, .cv (.ro Tag.t_int p1)), (2, .cv (.ptr 0 0)), (5, .cv (.lit (.int .i64 xt6_9h))), (6, .cv (.lit (.int .i64 ((IntKind.i64.wrap (xt6_9h + 1))))))], [(0, .raw [.lit (.int .i64 p0.Epoch), .lit (.int .i64 p0.Vote), .lit (.int .i64 p0.Commit), .ro Tag.t_api_Entry p0.Log])]⟩) (by kernel_rfl) trivial ?_
            exact ⟨k, Nat.lt_succ_self k, _, _, rfl, h⟩
          · refine awp_false (b := (decide (((p0.Log.getD (Int.toNat ((IntKind.i64.wrap (xt6_9h - 1)))) (⟨(0 : Int), ([] : List UInt8)⟩ : api_Entry))).Epoch = p0.Epoch))) (by kernel_rfl) (decide_eq_false c4) ?_
            refine awp_skip [1, 2, 5, 6] [0] (S' := ⟨[(1, .cv (.ro Tag.t_int p1)), (2, .cv (.ptr 0 0)), (5, .cv (.lit (.int .i64 xt5_9h))), (6, .cv (.lit (.int .i64 xt6_9h)))], [(0, .raw [.lit (.int .i64 p0.Epoch), .lit (.int .i64 p0.Vote), .lit (.int .i64 p0.Commit), .ro Tag.t_api_Entry p0.Log])]⟩) (by kernel_rfl) ?_
            refine awp_region L 40 [] [] [1, 2, 5, 6] [0] (cs := []) (S' := ⟨[(1, .cv (.ro Tag.t_int p1)), (2, .cv (.ptr 0 0)), (5, .cv (.lit (.int .i64 xt5_9h))), (6, .cv (.lit (.int .i64 ((IntKind.i64.wrap (xt6_9h + 1))))))], [(0, .raw [.lit (.int .i64 p0.Epoch), .lit (.int .i64 p0.Vote), .lit (.int .i64 p0.Commit), .ro Tag.t_api_Entry p0.Log])]⟩) (by kernel_rfl) trivial ?_
            exact ⟨k, Nat.lt_succ_self k, _, _, rfl, h⟩
        · refine awp_draw L mixed 21 [(3, false)] [] 15 [1, 2, 5, 6, 36] [0] (cs := [(decide (xt6_9h > xt5_9h)) = false]) (S' := ⟨[(1, .cv (.ro Tag.t_int p1)), (2, .cv (.ptr 0 0)), (5, .cv (.lit (.int .i64 xt5_9h))), (6, .cv (.lit (.int .i64 xt6_9h))), (36, .cv (.lit (.bool false)))], [(0, .raw [.lit (.int .i64 p0.Epoch), .lit (.int .i64 p0.Vote), .lit (.int .i64 p0.Commit), .ro Tag.t_api_Entry p0.Log])]⟩) (by kernel_rfl) (decide_eq_false c3) ?_
          refine awp_false (b := false) (by kernel_rfl) (rfl) ?_
          refine awp_skip [1, 2, 5, 6] [0] (S' := ⟨[(1, .cv (.ro Tag.t_int p1)), (2, .cv (.ptr 0 0)), (5, .cv (.lit (.int .i64 xt5_9h))), (6, .cv (.lit (.int .i64 xt6_9h)))], [(0, .raw [.lit (.int .i64 p0.Epoch), .lit (.int .i64 p0.Vote), .lit (.int .i64 p0.Commit), .ro Tag.t_api_Entry p0.Log])]⟩) (by kernel_rfl) ?_
          refine awp_region L 40 [] [] [1, 2, 5, 6] [0] (cs := []) (S' := ⟨[(1, .cv (.ro Tag.t_int p1)), (2, .cv (.ptr 0 0)), (5, .cv (.lit (.int .i64 xt5_9h))), (6, .cv (.lit (.int .i64 ((IntKind.i64.wrap (xt6_9h + 1))))))], [(0, .raw [.lit (.int .i64 p0.Epoch), .lit (.int .i64 p0.Vote), .lit (.int .i64 p0.Commit), .ro Tag.t_api_Entry p0.Log])]⟩) (by kernel_rfl) trivial ?_
          exact ⟨k, Nat.lt_succ_self k, _, _, rfl, h⟩
      · refine awp_false (b := (decide (xt6_9h ≤ a1))) (by kernel_rfl) (decide_eq_false c2) ?_
        refine awp_exit [5] [] (S' := ⟨[(5, .cv (.lit (.int .i64 xt5_9h)))], []⟩) (by kernel_rfl) ?_
        have hr := Option.some.inj h
        subst hr
        exact ⟨rfl, _, rfl, rfl⟩
    · refine awp_region L 9 [(5, false)] [] [1, 2, 5, 6, 19] [0] (cs := [(decide (xt6_9h ≤ (p0.Log.length : Int))) = false]) (S' := ⟨[(1, .cv (.ro Tag.t_int p1)), (2, .cv (.ptr 0 0)), (5, .cv (.lit (.int .i64 xt5_9h))), (6, .cv (.lit (.int .i64 xt6_9h))), (19, .cv (.lit (.bool false)))], [(0, .raw [.lit (.int .i64 p0.Epoch), .lit (.int .i64 p0.Vote), .lit (.int .i64 p0.Commit), .ro Tag.t_api_Entry p0.Log])]⟩) (by kernel_rfl) (decide_eq_false c1) ?_
      refine awp_false (b := false) (by kernel_rfl) (rfl) ?_
      refine awp_exit [5] [] (S' := ⟨[(5, .cv (.lit (.int .i64 xt5_9h)))], []⟩) (by kernel_rfl) ?_
      have hr := Option.some.inj h
      subst hr
      exact ⟨rfl, _, rfl, rfl⟩
  · rintro e S ⟨rfl, xt5_9, rfl, rfl⟩
    refine awp_seq ?_
    refine awp_region L 44 [] [] [4] [] (cs := []) (S' := ⟨[(4, .cv (.lit (.int .i64 xt5_9)))], []⟩) (by kernel_rfl) trivial ?_
    refine awp_ret ?_
    have hr := Option.some.inj h
    subst hr
    exact ⟨.inr rfl, .cv (.lit (.int .i64 xt5_9)), by kernel_rfl, by kernel_rfl, trivial, by kernel_rfl⟩

theorem workflowref53_Commit.ok {K : Nat} {p0 : api_Replica} {p1 : List Int} {r : Int} (h : workflowref53_Commit K p0 p1 = some r) : PCall V P 16 [.agg [.lit (.int .i64 p0.Epoch), .lit (.int .i64 p0.Vote), .lit (.int .i64 p0.Commit), .ro Tag.t_api_Entry p0.Log], .cv (.ro Tag.t_int p1)] (.cv (.lit (.int .i64 r))) :=
  pcall_of (fn := Try.f16) (n := 39) (by kernel_rfl) (by kernel_rfl) (by kernel_rfl) rfl (by kernel_rfl) (by kernel_rfl) fun Γ => workflowref53_Commit.body h

def quorum_Overlap (K : Nat) (p0 : Int) (p1 : Int) : Option Bool := some ((decide ((IntKind.i64.wrap ((BitVec.ofInt 64 p0 &&& BitVec.ofInt 64 p1).toNat : Int)) ≠ 0)))

theorem quorum_Overlap.body {Γ : Ent} {K : Nat} {p0 : Int} {p1 : Int} {r : Bool} (h : quorum_Overlap K p0 p1 = some r) : AWp V P 9 0 Γ (Try.f17.body.getD .skip) (Eng.Ends P V Try.f17 (.cv (.lit (.bool r)))) ⟨args0 0 [.cv (.lit (.int .i64 p0)), .cv (.lit (.int .i64 p1))], []⟩ := by
  unfold quorum_Overlap at h
  refine awp_seq ?_
  refine awp_region L 0 [] [] [0, 1] [] (cs := []) (S' := ⟨[(0, .cv (.lit (.int .i64 p0))), (1, .cv (.lit (.int .i64 p1)))], []⟩) (by kernel_rfl) trivial ?_
  refine awp_seq ?_
  refine awp_region L 2 [] [] [4] [] (cs := []) (S' := ⟨[(4, .cv (.lit (.bool ((decide ((IntKind.i64.wrap ((BitVec.ofInt 64 p0 &&& BitVec.ofInt 64 p1).toNat : Int)) ≠ 0))))))], []⟩) (by kernel_rfl) trivial ?_
  refine awp_ret ?_
  have hr := Option.some.inj h
  subst hr
  exact ⟨.inr rfl, .cv (.lit (.bool ((decide ((IntKind.i64.wrap ((BitVec.ofInt 64 p0 &&& BitVec.ofInt 64 p1).toNat : Int)) ≠ 0))))), by kernel_rfl, by kernel_rfl, trivial, by kernel_rfl⟩

theorem quorum_Overlap.ok {K : Nat} {p0 : Int} {p1 : Int} {r : Bool} (h : quorum_Overlap K p0 p1 = some r) : PCall V P 17 [.cv (.lit (.int .i64 p0)), .cv (.lit (.int .i64 p1))] (.cv (.lit (.bool r))) :=
  pcall_of (fn := Try.f17) (n := 9) (by kernel_rfl) (by kernel_rfl) (by kernel_rfl) rfl (by kernel_rfl) (by kernel_rfl) fun Γ => quorum_Overlap.body h

def workflowref53_Overlap (K : Nat) (p0 : Int) (p1 : Int) : Option Bool := some ((decide ((IntKind.i64.wrap ((BitVec.ofInt 64 p0 &&& BitVec.ofInt 64 p1).toNat : Int)) ≠ 0)))

theorem workflowref53_Overlap.body {Γ : Ent} {K : Nat} {p0 : Int} {p1 : Int} {r : Bool} (h : workflowref53_Overlap K p0 p1 = some r) : AWp V P 9 0 Γ (Try.f18.body.getD .skip) (Eng.Ends P V Try.f18 (.cv (.lit (.bool r)))) ⟨args0 0 [.cv (.lit (.int .i64 p0)), .cv (.lit (.int .i64 p1))], []⟩ := by
  unfold workflowref53_Overlap at h
  refine awp_seq ?_
  refine awp_region L 0 [] [] [0, 1] [] (cs := []) (S' := ⟨[(0, .cv (.lit (.int .i64 p0))), (1, .cv (.lit (.int .i64 p1)))], []⟩) (by kernel_rfl) trivial ?_
  refine awp_seq ?_
  refine awp_region L 2 [] [] [4] [] (cs := []) (S' := ⟨[(4, .cv (.lit (.bool ((decide ((IntKind.i64.wrap ((BitVec.ofInt 64 p0 &&& BitVec.ofInt 64 p1).toNat : Int)) ≠ 0))))))], []⟩) (by kernel_rfl) trivial ?_
  refine awp_ret ?_
  have hr := Option.some.inj h
  subst hr
  exact ⟨.inr rfl, .cv (.lit (.bool ((decide ((IntKind.i64.wrap ((BitVec.ofInt 64 p0 &&& BitVec.ofInt 64 p1).toNat : Int)) ≠ 0))))), by kernel_rfl, by kernel_rfl, trivial, by kernel_rfl⟩

theorem workflowref53_Overlap.ok {K : Nat} {p0 : Int} {p1 : Int} {r : Bool} (h : workflowref53_Overlap K p0 p1 = some r) : PCall V P 18 [.cv (.lit (.int .i64 p0)), .cv (.lit (.int .i64 p1))] (.cv (.lit (.bool r))) :=
  pcall_of (fn := Try.f18) (n := 9) (by kernel_rfl) (by kernel_rfl) (by kernel_rfl) rfl (by kernel_rfl) (by kernel_rfl) fun Γ => workflowref53_Overlap.body h

def workflowlaw53_QuorumAnswers (K : Nat) (p0 : Int) (p1 : Int) (p2 : List Int) (p3 : api_Replica) (p4 : Int) (p5 : Int) : Option Bool := (Option.bind (((if (p2.length : Int) > 50 then some true else some ((decide ((p3.Log.length : Int) > 300))))) : Option Bool) (fun xt21_4 => (if xt21_4 = true then (Option.bind (workflowlaw53_lives K) (fun a1 => some a1)) else (Option.bind (quorum_Majority K p0) (fun a2 => (Option.bind (workflowref53_Majority K p0) (fun a3 => (if a2 = a3 then (Option.bind (quorum_Won K p1 p0) (fun a4 => (Option.bind (workflowref53_Won K p1 p0) (fun a5 => (if (a4 == a5) = true then (Option.bind (quorum_Index K p2) (fun a6 => (Option.bind (workflowref53_Index K p2) (fun a7 => (if a6 = a7 then (Option.bind (quorum_Commit K p3 p2) (fun a8 => (Option.bind (workflowref53_Commit K p3 p2) (fun a9 => (if a8 = a9 then (Option.bind (quorum_Overlap K p4 p5) (fun a10 => (Option.bind (workflowref53_Overlap K p4 p5) (fun a11 => (if (a10 == a11) = true then (Option.bind (workflowlaw53_lives K) (fun a12 => some a12)) else some false))))) else some false))))) else some false))))) else some false))))) else some false))))))))

theorem workflowlaw53_QuorumAnswers.body {Γ : Ent} {K : Nat} {p0 : Int} {p1 : Int} {p2 : List Int} {p3 : api_Replica} {p4 : Int} {p5 : Int} {r : Bool} (h : workflowlaw53_QuorumAnswers K p0 p1 p2 p3 p4 p5 = some r) : AWp V P 65 0 Γ (Try.f5.body.getD .skip) (Eng.Ends P V Try.f5 (.cv (.lit (.bool r)))) ⟨args0 0 [.cv (.lit (.int .i64 p0)), .cv (.lit (.int .i64 p1)), .cv (.ro Tag.t_int p2), .agg [.lit (.int .i64 p3.Epoch), .lit (.int .i64 p3.Vote), .lit (.int .i64 p3.Commit), .ro Tag.t_api_Entry p3.Log], .cv (.lit (.int .i64 p4)), .cv (.lit (.int .i64 p5))], []⟩ := by
  unfold workflowlaw53_QuorumAnswers at h
  refine awp_seq ?_
  refine awp_region L 0 [] [] [0, 1, 2, 4, 5, 9] [0] (cs := []) (S' := ⟨[(0, .cv (.lit (.int .i64 p0))), (1, .cv (.lit (.int .i64 p1))), (2, .cv (.ro Tag.t_int p2)), (4, .cv (.lit (.int .i64 p4))), (5, .cv (.lit (.int .i64 p5))), (9, .cv (.ptr 0 0))], [(0, .raw [.lit (.int .i64 p3.Epoch), .lit (.int .i64 p3.Vote), .lit (.int .i64 p3.Commit), .ro Tag.t_api_Entry p3.Log])]⟩) (by kernel_rfl) trivial ?_
  refine awp_seq ?_
  obtain ⟨o1, hp1, h⟩ := bind_some h
  refine awp_seq (awp_mono (Q' := fun e S => (e = .normal ∧ ∃ xt21_4 : Bool, S = ⟨[(0, .cv (.lit (.int .i64 p0))), (1, .cv (.lit (.int .i64 p1))), (2, .cv (.ro Tag.t_int p2)), (4, .cv (.lit (.int .i64 p4))), (5, .cv (.lit (.int .i64 p5))), (9, .cv (.ptr 0 0)), (21, .cv (.lit (.bool xt21_4)))], [(0, .raw [.lit (.int .i64 p3.Epoch), .lit (.int .i64 p3.Vote), .lit (.int .i64 p3.Commit), .ro Tag.t_api_Entry p3.Log])]⟩ ∧ xt21_4 = o1)) ?_ ?_)
  · clear h
    replace h := hp1
    rcases ite_some h with ⟨c1, h⟩ | ⟨c1, h⟩
    · refine awp_region L 3 [(3, true)] [] [0, 1, 2, 4, 5, 9, 21] [0] (cs := [(decide ((p2.length : Int) > 50)) = true]) (S' := ⟨[(0, .cv (.lit (.int .i64 p0))), (1, .cv (.lit (.int .i64 p1))), (2, .cv (.ro Tag.t_int p2)), (4, .cv (.lit (.int .i64 p4))), (5, .cv (.lit (.int .i64 p5))), (9, .cv (.ptr 0 0)), (21, .cv (.lit (.bool true)))], [(0, .raw [.lit (.int .i64 p3.Epoch), .lit (.int .i64 p3.Vote), .lit (.int .i64 p3.Commit), .ro Tag.t_api_Entry p3.Log])]⟩) (by kernel_rfl) (decide_eq_true c1) ?_
      have hr := Option.some.inj h
      subst hr
      exact ⟨rfl, _, rfl, rfl⟩
    · refine awp_region L 3 [(3, false)] [] [0, 1, 2, 4, 5, 9, 21] [0] (cs := [(decide ((p2.length : Int) > 50)) = false]) (S' := ⟨[(0, .cv (.lit (.int .i64 p0))), (1, .cv (.lit (.int .i64 p1))), (2, .cv (.ro Tag.t_int p2)), (4, .cv (.lit (.int .i64 p4))), (5, .cv (.lit (.int .i64 p5))), (9, .cv (.ptr 0 0)), (21, .cv (.lit (.bool ((decide ((p3.Log.length : Int) > 300))))))], [(0, .raw [.lit (.int .i64 p3.Epoch), .lit (.int .i64 p3.Vote), .lit (.int .i64 p3.Commit), .ro Tag.t_api_Entry p3.Log])]⟩) (by kernel_rfl) (decide_eq_false c1) ?_
      have hr := Option.some.inj h
      subst hr
      exact ⟨rfl, _, rfl, rfl⟩
  · rintro e S ⟨rfl, xt21_4, rfl, rfl⟩
    rcases ite_some h with ⟨c2, h⟩ | ⟨c2, h⟩
    · refine awp_true (b := xt21_4) (by kernel_rfl) (c2) ?_
      refine awp_seq ?_
      obtain ⟨a1, h1, h⟩ := bind_some h
      refine awp_region L 13 [] [(0, .cv (.lit (.bool a1)))] [12] [] (cs := [PCall V P 7 [] (.cv (.lit (.bool a1))), True]) (S' := ⟨[(12, .cv (.lit (.bool a1)))], []⟩) (by kernel_rfl) (And.intro (workflowlaw53_lives.ok h1) trivial) ?_
      refine awp_ret ?_
      have hr := Option.some.inj h
      subst hr
      exact ⟨.inr rfl, .cv (.lit (.bool a1)), by kernel_rfl, by kernel_rfl, trivial, by kernel_rfl⟩
    · refine awp_false (b := xt21_4) (by kernel_rfl) (eq_false_of_ne_true c2) ?_
      refine awp_skip [0, 1, 2, 4, 5, 9] [0] (S' := ⟨[(0, .cv (.lit (.int .i64 p0))), (1, .cv (.lit (.int .i64 p1))), (2, .cv (.ro Tag.t_int p2)), (4, .cv (.lit (.int .i64 p4))), (5, .cv (.lit (.int .i64 p5))), (9, .cv (.ptr 0 0))], [(0, .raw [.lit (.int .i64 p3.Epoch), .lit (.int .i64 p3.Vote), .lit (.int .i64 p3.Commit), .ro Tag.t_api_Entry p3.Log])]⟩) (by kernel_rfl) ?_
      refine awp_seq ?_
      obtain ⟨a2, h2, h⟩ := bind_some h
      obtain ⟨a3, h3, h⟩ := bind_some h
      rcases ite_some h with ⟨c3, h⟩ | ⟨c3, h⟩
      · obtain ⟨a4, h4, h⟩ := bind_some h
        obtain ⟨a5, h5, h⟩ := bind_some h
        rcases ite_some h with ⟨c4, h⟩ | ⟨c4, h⟩
        · obtain ⟨a6, h6, h⟩ := bind_some h
          obtain ⟨a7, h7, h⟩ := bind_some h
          rcases ite_some h with ⟨c5, h⟩ | ⟨c5, h⟩
          · obtain ⟨a8, h8, h⟩ := bind_some h
            obtain ⟨a9, h9, h⟩ := bind_some h
            rcases ite_some h with ⟨c6, h⟩ | ⟨c6, h⟩
            · obtain ⟨a10, h10, h⟩ := bind_some h
              obtain ⟨a11, h11, h⟩ := bind_some h
              rcases ite_some h with ⟨c7, h⟩ | ⟨c7, h⟩
              · obtain ⟨a12, h12, h⟩ := bind_some h
                refine awp_draw L mixed 16 [(5, true), (14, true), (21, true), (30, true), (39, true)] [(1, .cv (.lit (.int .i64 a2))), (3, .cv (.lit (.int .i64 a3))), (8, .cv (.lit (.bool a4))), (11, .cv (.lit (.bool a5))), (16, .cv (.lit (.int .i64 a6))), (18, .cv (.lit (.int .i64 a7))), (24, .cv (.lit (.int .i64 a8))), (27, .cv (.lit (.int .i64 a9))), (33, .cv (.lit (.bool a10))), (36, .cv (.lit (.bool a11))), (40, .cv (.lit (.bool a12)))] 43 [12] [] (cs := [PCall V P 10 [.cv (.lit (.int .i64 p0))] (.cv (.lit (.int .i64 a2))), True, PCall V P 12 [.cv (.lit (.int .i64 p0))] (.cv (.lit (.int .i64 a3))), True, (decide (a2 = a3)) = true, PCall V P 13 [.cv (.lit (.int .i64 p1)), .cv (.lit (.int .i64 p0))] (.cv (.lit (.bool a4))), True, PCall V P 14 [.cv (.lit (.int .i64 p1)), .cv (.lit (.int .i64 p0))] (.cv (.lit (.bool a5))), True, (a4 == a5) = true, PCall V P 8 [.cv (.ro Tag.t_int p2)] (.cv (.lit (.int .i64 a6))), True, PCall V P 15 [.cv (.ro Tag.t_int p2)] (.cv (.lit (.int .i64 a7))), True, (decide (a6 = a7)) = true, PCall V P 11 [.agg [.lit (.int .i64 p3.Epoch), .lit (.int .i64 p3.Vote), .lit (.int .i64 p3.Commit), .ro Tag.t_api_Entry p3.Log], .cv (.ro Tag.t_int p2)] (.cv (.lit (.int .i64 a8))), True, PCall V P 16 [.agg [.lit (.int .i64 p3.Epoch), .lit (.int .i64 p3.Vote), .lit (.int .i64 p3.Commit), .ro Tag.t_api_Entry p3.Log], .cv (.ro Tag.t_int p2)] (.cv (.lit (.int .i64 a9))), True, (decide (a8 = a9)) = true, PCall V P 17 [.cv (.lit (.int .i64 p4)), .cv (.lit (.int .i64 p5))] (.cv (.lit (.bool a10))), True, PCall V P 18 [.cv (.lit (.int .i64 p4)), .cv (.lit (.int .i64 p5))] (.cv (.lit (.bool a11))), True, (a10 == a11) = true, PCall V P 7 [] (.cv (.lit (.bool a12))), True]) (S' := ⟨[(12, .cv (.lit (.bool a12)))], []⟩) (by kernel_rfl) (And.intro (quorum_Majority.ok h2) (And.intro trivial (And.intro (workflowref53_Majority.ok h3) (And.intro trivial (And.intro (decide_eq_true c3) (And.intro (quorum_Won.ok h4) (And.intro trivial (And.intro (workflowref53_Won.ok h5) (And.intro trivial (And.intro c4 (And.intro (quorum_Index.ok h6) (And.intro trivial (And.intro (workflowref53_Index.ok h7) (And.intro trivial (And.intro (decide_eq_true c5) (And.intro (quorum_Commit.ok h8) (And.intro trivial (And.intro (workflowref53_Commit.ok h9) (And.intro trivial (And.intro (decide_eq_true c6) (And.intro (quorum_Overlap.ok h10) (And.intro trivial (And.intro (workflowref53_Overlap.ok h11) (And.intro trivial (And.intro c7 (And.intro (workflowlaw53_lives.ok h12) trivial)))))))))))))))))))))))))) ?_
                refine awp_ret ?_
                have hr := Option.some.inj h
                subst hr
                exact ⟨.inr rfl, .cv (.lit (.bool a12)), by kernel_rfl, by kernel_rfl, trivial, by kernel_rfl⟩
              · refine awp_draw L mixed 16 [(5, true), (14, true), (21, true), (30, true), (39, false)] [(1, .cv (.lit (.int .i64 a2))), (3, .cv (.lit (.int .i64 a3))), (8, .cv (.lit (.bool a4))), (11, .cv (.lit (.bool a5))), (16, .cv (.lit (.int .i64 a6))), (18, .cv (.lit (.int .i64 a7))), (24, .cv (.lit (.int .i64 a8))), (27, .cv (.lit (.int .i64 a9))), (33, .cv (.lit (.bool a10))), (36, .cv (.lit (.bool a11)))] 43 [12] [] (cs := [PCall V P 10 [.cv (.lit (.int .i64 p0))] (.cv (.lit (.int .i64 a2))), True, PCall V P 12 [.cv (.lit (.int .i64 p0))] (.cv (.lit (.int .i64 a3))), True, (decide (a2 = a3)) = true, PCall V P 13 [.cv (.lit (.int .i64 p1)), .cv (.lit (.int .i64 p0))] (.cv (.lit (.bool a4))), True, PCall V P 14 [.cv (.lit (.int .i64 p1)), .cv (.lit (.int .i64 p0))] (.cv (.lit (.bool a5))), True, (a4 == a5) = true, PCall V P 8 [.cv (.ro Tag.t_int p2)] (.cv (.lit (.int .i64 a6))), True, PCall V P 15 [.cv (.ro Tag.t_int p2)] (.cv (.lit (.int .i64 a7))), True, (decide (a6 = a7)) = true, PCall V P 11 [.agg [.lit (.int .i64 p3.Epoch), .lit (.int .i64 p3.Vote), .lit (.int .i64 p3.Commit), .ro Tag.t_api_Entry p3.Log], .cv (.ro Tag.t_int p2)] (.cv (.lit (.int .i64 a8))), True, PCall V P 16 [.agg [.lit (.int .i64 p3.Epoch), .lit (.int .i64 p3.Vote), .lit (.int .i64 p3.Commit), .ro Tag.t_api_Entry p3.Log], .cv (.ro Tag.t_int p2)] (.cv (.lit (.int .i64 a9))), True, (decide (a8 = a9)) = true, PCall V P 17 [.cv (.lit (.int .i64 p4)), .cv (.lit (.int .i64 p5))] (.cv (.lit (.bool a10))), True, PCall V P 18 [.cv (.lit (.int .i64 p4)), .cv (.lit (.int .i64 p5))] (.cv (.lit (.bool a11))), True, (a10 == a11) = false]) (S' := ⟨[(12, .cv (.lit (.bool false)))], []⟩) (by kernel_rfl) (And.intro (quorum_Majority.ok h2) (And.intro trivial (And.intro (workflowref53_Majority.ok h3) (And.intro trivial (And.intro (decide_eq_true c3) (And.intro (quorum_Won.ok h4) (And.intro trivial (And.intro (workflowref53_Won.ok h5) (And.intro trivial (And.intro c4 (And.intro (quorum_Index.ok h6) (And.intro trivial (And.intro (workflowref53_Index.ok h7) (And.intro trivial (And.intro (decide_eq_true c5) (And.intro (quorum_Commit.ok h8) (And.intro trivial (And.intro (workflowref53_Commit.ok h9) (And.intro trivial (And.intro (decide_eq_true c6) (And.intro (quorum_Overlap.ok h10) (And.intro trivial (And.intro (workflowref53_Overlap.ok h11) (And.intro trivial (eq_false_of_ne_true c7))))))))))))))))))))))))) ?_
                refine awp_ret ?_
                have hr := Option.some.inj h
                subst hr
                exact ⟨.inr rfl, .cv (.lit (.bool false)), by kernel_rfl, by kernel_rfl, trivial, by kernel_rfl⟩
            · refine awp_draw L mixed 16 [(5, true), (14, true), (21, true), (30, false)] [(1, .cv (.lit (.int .i64 a2))), (3, .cv (.lit (.int .i64 a3))), (8, .cv (.lit (.bool a4))), (11, .cv (.lit (.bool a5))), (16, .cv (.lit (.int .i64 a6))), (18, .cv (.lit (.int .i64 a7))), (24, .cv (.lit (.int .i64 a8))), (27, .cv (.lit (.int .i64 a9)))] 43 [12] [] (cs := [PCall V P 10 [.cv (.lit (.int .i64 p0))] (.cv (.lit (.int .i64 a2))), True, PCall V P 12 [.cv (.lit (.int .i64 p0))] (.cv (.lit (.int .i64 a3))), True, (decide (a2 = a3)) = true, PCall V P 13 [.cv (.lit (.int .i64 p1)), .cv (.lit (.int .i64 p0))] (.cv (.lit (.bool a4))), True, PCall V P 14 [.cv (.lit (.int .i64 p1)), .cv (.lit (.int .i64 p0))] (.cv (.lit (.bool a5))), True, (a4 == a5) = true, PCall V P 8 [.cv (.ro Tag.t_int p2)] (.cv (.lit (.int .i64 a6))), True, PCall V P 15 [.cv (.ro Tag.t_int p2)] (.cv (.lit (.int .i64 a7))), True, (decide (a6 = a7)) = true, PCall V P 11 [.agg [.lit (.int .i64 p3.Epoch), .lit (.int .i64 p3.Vote), .lit (.int .i64 p3.Commit), .ro Tag.t_api_Entry p3.Log], .cv (.ro Tag.t_int p2)] (.cv (.lit (.int .i64 a8))), True, PCall V P 16 [.agg [.lit (.int .i64 p3.Epoch), .lit (.int .i64 p3.Vote), .lit (.int .i64 p3.Commit), .ro Tag.t_api_Entry p3.Log], .cv (.ro Tag.t_int p2)] (.cv (.lit (.int .i64 a9))), True, (decide (a8 = a9)) = false]) (S' := ⟨[(12, .cv (.lit (.bool false)))], []⟩) (by kernel_rfl) (And.intro (quorum_Majority.ok h2) (And.intro trivial (And.intro (workflowref53_Majority.ok h3) (And.intro trivial (And.intro (decide_eq_true c3) (And.intro (quorum_Won.ok h4) (And.intro trivial (And.intro (workflowref53_Won.ok h5) (And.intro trivial (And.intro c4 (And.intro (quorum_Index.ok h6) (And.intro trivial (And.intro (workflowref53_Index.ok h7) (And.intro trivial (And.intro (decide_eq_true c5) (And.intro (quorum_Commit.ok h8) (And.intro trivial (And.intro (workflowref53_Commit.ok h9) (And.intro trivial (decide_eq_false c6)))))))))))))))))))) ?_
              refine awp_ret ?_
              have hr := Option.some.inj h
              subst hr
              exact ⟨.inr rfl, .cv (.lit (.bool false)), by kernel_rfl, by kernel_rfl, trivial, by kernel_rfl⟩
          · refine awp_draw L mixed 16 [(5, true), (14, true), (21, false)] [(1, .cv (.lit (.int .i64 a2))), (3, .cv (.lit (.int .i64 a3))), (8, .cv (.lit (.bool a4))), (11, .cv (.lit (.bool a5))), (16, .cv (.lit (.int .i64 a6))), (18, .cv (.lit (.int .i64 a7)))] 43 [12] [] (cs := [PCall V P 10 [.cv (.lit (.int .i64 p0))] (.cv (.lit (.int .i64 a2))), True, PCall V P 12 [.cv (.lit (.int .i64 p0))] (.cv (.lit (.int .i64 a3))), True, (decide (a2 = a3)) = true, PCall V P 13 [.cv (.lit (.int .i64 p1)), .cv (.lit (.int .i64 p0))] (.cv (.lit (.bool a4))), True, PCall V P 14 [.cv (.lit (.int .i64 p1)), .cv (.lit (.int .i64 p0))] (.cv (.lit (.bool a5))), True, (a4 == a5) = true, PCall V P 8 [.cv (.ro Tag.t_int p2)] (.cv (.lit (.int .i64 a6))), True, PCall V P 15 [.cv (.ro Tag.t_int p2)] (.cv (.lit (.int .i64 a7))), True, (decide (a6 = a7)) = false]) (S' := ⟨[(12, .cv (.lit (.bool false)))], []⟩) (by kernel_rfl) (And.intro (quorum_Majority.ok h2) (And.intro trivial (And.intro (workflowref53_Majority.ok h3) (And.intro trivial (And.intro (decide_eq_true c3) (And.intro (quorum_Won.ok h4) (And.intro trivial (And.intro (workflowref53_Won.ok h5) (And.intro trivial (And.intro c4 (And.intro (quorum_Index.ok h6) (And.intro trivial (And.intro (workflowref53_Index.ok h7) (And.intro trivial (decide_eq_false c5))))))))))))))) ?_
            refine awp_ret ?_
            have hr := Option.some.inj h
            subst hr
            exact ⟨.inr rfl, .cv (.lit (.bool false)), by kernel_rfl, by kernel_rfl, trivial, by kernel_rfl⟩
        · refine awp_draw L mixed 16 [(5, true), (14, false)] [(1, .cv (.lit (.int .i64 a2))), (3, .cv (.lit (.int .i64 a3))), (8, .cv (.lit (.bool a4))), (11, .cv (.lit (.bool a5)))] 43 [12] [] (cs := [PCall V P 10 [.cv (.lit (.int .i64 p0))] (.cv (.lit (.int .i64 a2))), True, PCall V P 12 [.cv (.lit (.int .i64 p0))] (.cv (.lit (.int .i64 a3))), True, (decide (a2 = a3)) = true, PCall V P 13 [.cv (.lit (.int .i64 p1)), .cv (.lit (.int .i64 p0))] (.cv (.lit (.bool a4))), True, PCall V P 14 [.cv (.lit (.int .i64 p1)), .cv (.lit (.int .i64 p0))] (.cv (.lit (.bool a5))), True, (a4 == a5) = false]) (S' := ⟨[(12, .cv (.lit (.bool false)))], []⟩) (by kernel_rfl) (And.intro (quorum_Majority.ok h2) (And.intro trivial (And.intro (workflowref53_Majority.ok h3) (And.intro trivial (And.intro (decide_eq_true c3) (And.intro (quorum_Won.ok h4) (And.intro trivial (And.intro (workflowref53_Won.ok h5) (And.intro trivial (eq_false_of_ne_true c4)))))))))) ?_
          refine awp_ret ?_
          have hr := Option.some.inj h
          subst hr
          exact ⟨.inr rfl, .cv (.lit (.bool false)), by kernel_rfl, by kernel_rfl, trivial, by kernel_rfl⟩
      · refine awp_draw L mixed 16 [(5, false)] [(1, .cv (.lit (.int .i64 a2))), (3, .cv (.lit (.int .i64 a3)))] 43 [12] [] (cs := [PCall V P 10 [.cv (.lit (.int .i64 p0))] (.cv (.lit (.int .i64 a2))), True, PCall V P 12 [.cv (.lit (.int .i64 p0))] (.cv (.lit (.int .i64 a3))), True, (decide (a2 = a3)) = false]) (S' := ⟨[(12, .cv (.lit (.bool false)))], []⟩) (by kernel_rfl) (And.intro (quorum_Majority.ok h2) (And.intro trivial (And.intro (workflowref53_Majority.ok h3) (And.intro trivial (decide_eq_false c3))))) ?_
        refine awp_ret ?_
        have hr := Option.some.inj h
        subst hr
        exact ⟨.inr rfl, .cv (.lit (.bool false)), by kernel_rfl, by kernel_rfl, trivial, by kernel_rfl⟩

theorem workflowlaw53_QuorumAnswers.ok {K : Nat} {p0 : Int} {p1 : Int} {p2 : List Int} {p3 : api_Replica} {p4 : Int} {p5 : Int} {r : Bool} (h : workflowlaw53_QuorumAnswers K p0 p1 p2 p3 p4 p5 = some r) : PCall V P 5 [.cv (.lit (.int .i64 p0)), .cv (.lit (.int .i64 p1)), .cv (.ro Tag.t_int p2), .agg [.lit (.int .i64 p3.Epoch), .lit (.int .i64 p3.Vote), .lit (.int .i64 p3.Commit), .ro Tag.t_api_Entry p3.Log], .cv (.lit (.int .i64 p4)), .cv (.lit (.int .i64 p5))] (.cv (.lit (.bool r))) :=
  pcall_of (fn := Try.f5) (n := 65) (by kernel_rfl) (by kernel_rfl) (by kernel_rfl) rfl (by kernel_rfl) (by kernel_rfl) fun Γ => workflowlaw53_QuorumAnswers.body h

def workflowlaw53_members.l9 (K : Nat) (p0 : Int) (p1 : Int) : Nat → Int → Int → Option Int
  | 0, _, _ => none
  | k + 1, xt5_9h, xt6_9h => (if xt6_9h < p1 then (if (0 : Int) ≤ xt6_9h then workflowlaw53_members.l9 K p0 p1 k ((IntKind.i64.wrap (xt5_9h + (IntKind.i64.wrap ((BitVec.ofInt 64 ((Int.fdiv p0 (2 ^ (min (Int.toNat xt6_9h) 64)))) &&& BitVec.ofInt 64 1).toNat : Int))))) ((IntKind.i64.wrap (xt6_9h + 1))) else none) else some xt5_9h)

def workflowlaw53_members (K : Nat) (p0 : Int) (p1 : Int) : Option Int := (Option.bind (workflowlaw53_members.l9 K p0 p1 K 0 0 : Option Int) (fun xt5_9 => some xt5_9))

theorem workflowlaw53_members.body {Γ : Ent} {K : Nat} {p0 : Int} {p1 : Int} {r : Int} (h : workflowlaw53_members K p0 p1 = some r) : AWp V P 19 0 Γ (Try.f19.body.getD .skip) (Eng.Ends P V Try.f19 (.cv (.lit (.int .i64 r)))) ⟨args0 0 [.cv (.lit (.int .i64 p0)), .cv (.lit (.int .i64 p1))], []⟩ := by
  unfold workflowlaw53_members at h
  refine awp_seq ?_
  refine awp_region L 0 [] [] [0, 1] [] (cs := []) (S' := ⟨[(0, .cv (.lit (.int .i64 p0))), (1, .cv (.lit (.int .i64 p1)))], []⟩) (by kernel_rfl) trivial ?_
  refine awp_seq ?_
  refine awp_region L 2 [] [] [0, 1, 5] [] (cs := []) (S' := ⟨[(0, .cv (.lit (.int .i64 p0))), (1, .cv (.lit (.int .i64 p1))), (5, .cv (.lit (.int .i64 0)))], []⟩) (by kernel_rfl) trivial ?_
  refine awp_seq ?_
  refine awp_seq ?_
  refine awp_region L 4 [] [] [0, 1, 5, 6] [] (cs := []) (S' := ⟨[(0, .cv (.lit (.int .i64 p0))), (1, .cv (.lit (.int .i64 p1))), (5, .cv (.lit (.int .i64 0))), (6, .cv (.lit (.int .i64 0)))], []⟩) (by kernel_rfl) trivial ?_
  refine awp_block ?_
  refine awp_keep (ts := [0, 1, 5, 6]) (ids := []) (S' := ⟨[(0, .cv (.lit (.int .i64 p0))), (1, .cv (.lit (.int .i64 p1))), (5, .cv (.lit (.int .i64 0))), (6, .cv (.lit (.int .i64 0)))], []⟩) (by kernel_rfl) ?_
  obtain ⟨o1, hp1, h⟩ := bind_some h
  refine awp_mono (Q' := fun e S => (e = .exit 0 ∧ ∃ xt5_9 : Int, S = ⟨[(5, .cv (.lit (.int .i64 xt5_9)))], []⟩ ∧ xt5_9 = o1)) (awp_loop (fun k S => ∃ xt5_9h : Int, ∃ xt6_9h : Int, S = ⟨[(0, .cv (.lit (.int .i64 p0))), (1, .cv (.lit (.int .i64 p1))), (5, .cv (.lit (.int .i64 xt5_9h))), (6, .cv (.lit (.int .i64 xt6_9h)))], []⟩ ∧ workflowlaw53_members.l9 K p0 p1 k xt5_9h xt6_9h = some o1) ?_ ⟨_, _, rfl, hp1⟩) ?_
  · clear h hp1
    intro k S hS
    obtain ⟨xt5_9h, xt6_9h, rfl, h⟩ := hS
    cases k with
    | zero => cases h
    | succ k =>
    unfold workflowlaw53_members.l9 at h
    refine awp_seq ?_
    refine awp_seq ?_
    refine awp_region L 6 [] [] [0, 1, 5, 6, 9] [] (cs := []) (S' := ⟨[(0, .cv (.lit (.int .i64 p0))), (1, .cv (.lit (.int .i64 p1))), (5, .cv (.lit (.int .i64 xt5_9h))), (6, .cv (.lit (.int .i64 xt6_9h))), (9, .cv (.lit (.bool ((decide (xt6_9h < p1))))))], []⟩) (by kernel_rfl) trivial ?_
    rcases ite_some h with ⟨c1, h⟩ | ⟨c1, h⟩
    · refine awp_true (b := (decide (xt6_9h < p1))) (by kernel_rfl) (decide_eq_true c1) ?_
      refine awp_skip [0, 1, 5, 6] [] (S' := ⟨[(0, .cv (.lit (.int .i64 p0))), (1, .cv (.lit (.int .i64 p1))), (5, .cv (.lit (.int .i64 xt5_9h))), (6, .cv (.lit (.int .i64 xt6_9h)))], []⟩) (by kernel_rfl) ?_
      refine awp_seq ?_
      refine awp_block ?_
      obtain ⟨g1, h⟩ := guard_some h
      refine awp_region L 10 [] [] [0, 1, 5, 6] [] (cs := [(0 : Int) ≤ xt6_9h]) (S' := ⟨[(0, .cv (.lit (.int .i64 p0))), (1, .cv (.lit (.int .i64 p1))), (5, .cv (.lit (.int .i64 ((IntKind.i64.wrap (xt5_9h + (IntKind.i64.wrap ((BitVec.ofInt 64 ((Int.fdiv p0 (2 ^ (min (Int.toNat xt6_9h) 64)))) &&& BitVec.ofInt 64 1).toNat : Int)))))))), (6, .cv (.lit (.int .i64 xt6_9h)))], []⟩) (by kernel_rfl) g1 ?_
      refine awp_region L 18 [] [] [0, 1, 5, 6] [] (cs := []) (S' := ⟨[(0, .cv (.lit (.int .i64 p0))), (1, .cv (.lit (.int .i64 p1))), (5, .cv (.lit (.int .i64 ((IntKind.i64.wrap (xt5_9h + (IntKind.i64.wrap ((BitVec.ofInt 64 ((Int.fdiv p0 (2 ^ (min (Int.toNat xt6_9h) 64)))) &&& BitVec.ofInt 64 1).toNat : Int)))))))), (6, .cv (.lit (.int .i64 ((IntKind.i64.wrap (xt6_9h + 1))))))], []⟩) (by kernel_rfl) trivial ?_
      exact ⟨k, Nat.lt_succ_self k, _, _, rfl, h⟩
    · refine awp_false (b := (decide (xt6_9h < p1))) (by kernel_rfl) (decide_eq_false c1) ?_
      refine awp_exit [5] [] (S' := ⟨[(5, .cv (.lit (.int .i64 xt5_9h)))], []⟩) (by kernel_rfl) ?_
      have hr := Option.some.inj h
      subst hr
      exact ⟨rfl, _, rfl, rfl⟩
  · rintro e S ⟨rfl, xt5_9, rfl, rfl⟩
    refine awp_seq ?_
    refine awp_region L 22 [] [] [4] [] (cs := []) (S' := ⟨[(4, .cv (.lit (.int .i64 xt5_9)))], []⟩) (by kernel_rfl) trivial ?_
    refine awp_ret ?_
    have hr := Option.some.inj h
    subst hr
    exact ⟨.inr rfl, .cv (.lit (.int .i64 xt5_9)), by kernel_rfl, by kernel_rfl, trivial, by kernel_rfl⟩

theorem workflowlaw53_members.ok {K : Nat} {p0 : Int} {p1 : Int} {r : Int} (h : workflowlaw53_members K p0 p1 = some r) : PCall V P 19 [.cv (.lit (.int .i64 p0)), .cv (.lit (.int .i64 p1))] (.cv (.lit (.int .i64 r))) :=
  pcall_of (fn := Try.f19) (n := 19) (by kernel_rfl) (by kernel_rfl) (by kernel_rfl) rfl (by kernel_rfl) (by kernel_rfl) fun Γ => workflowlaw53_members.body h

def workflowlaw53_QuorumOverlap (K : Nat) (p0 : Int) (p1 : Int) (p2 : Int) : Option Bool := (Option.bind (((if p0 < 1 then some true else (if p0 > 60 then some true else (if p1 < 0 then some true else some ((decide (p2 < 0))))))) : Option Bool) (fun xt21_4 => (if xt21_4 = true then (Option.bind (workflowlaw53_lives K) (fun a1 => some a1)) else (if (0 : Int) ≤ p0 then (Option.bind (((Option.bind (workflowlaw53_members K ((IntKind.i64.wrap ((BitVec.ofInt 64 p1 &&& BitVec.ofInt 64 ((IntKind.i64.wrap ((IntKind.i64.wrap (1 * 2 ^ (min (Int.toNat p0) 64))) - 1)))).toNat : Int))) p0) (fun a2 => (Option.bind (quorum_Won K a2 p0) (fun a3 => (if a3 = true then (Option.bind (workflowlaw53_members K ((IntKind.i64.wrap ((BitVec.ofInt 64 p2 &&& BitVec.ofInt 64 ((IntKind.i64.wrap ((IntKind.i64.wrap (1 * 2 ^ (min (Int.toNat p0) 64))) - 1)))).toNat : Int))) p0) (fun a4 => (Option.bind (quorum_Won K a4 p0) (fun a5 => some a5)))) else some false)))))) : Option Bool) (fun xt7_15 => (if xt7_15 = true then (Option.bind (quorum_Overlap K ((IntKind.i64.wrap ((BitVec.ofInt 64 p1 &&& BitVec.ofInt 64 ((IntKind.i64.wrap ((IntKind.i64.wrap (1 * 2 ^ (min (Int.toNat p0) 64))) - 1)))).toNat : Int))) ((IntKind.i64.wrap ((BitVec.ofInt 64 p2 &&& BitVec.ofInt 64 ((IntKind.i64.wrap ((IntKind.i64.wrap (1 * 2 ^ (min (Int.toNat p0) 64))) - 1)))).toNat : Int)))) (fun a6 => (if a6 = true then (Option.bind (workflowlaw53_members K ((IntKind.i64.wrap ((BitVec.ofInt 64 p1 &&& BitVec.ofInt 64 ((IntKind.i64.wrap ((IntKind.i64.wrap (1 * 2 ^ (min (Int.toNat p0) 64))) - 1)))).toNat : Int))) p0) (fun a7 => (Option.bind (quorum_Won K a7 p0) (fun a8 => (Option.bind (workflowlaw53_members K ((IntKind.i64.wrap ((BitVec.ofInt 64 p1 &&& BitVec.ofInt 64 ((IntKind.i64.wrap ((IntKind.i64.wrap (1 * 2 ^ (min (Int.toNat p0) 64))) - 1)))).toNat : Int))) p0) (fun a9 => (Option.bind (quorum_Won K ((IntKind.i64.wrap (p0 - a9))) p0) (fun a10 => (if (Int.tmod p0 2) = 1 then (if (((!(a8 == a10)) == true)) = true then (Option.bind (workflowlaw53_lives K) (fun a11 => some a11)) else some false) else (Option.bind (workflowlaw53_members K ((IntKind.i64.wrap ((BitVec.ofInt 64 p1 &&& BitVec.ofInt 64 ((IntKind.i64.wrap ((IntKind.i64.wrap (1 * 2 ^ (min (Int.toNat p0) 64))) - 1)))).toNat : Int))) p0) (fun a12 => (if (((!(a8 == a10)) == (decide ((IntKind.i64.wrap (2 * a12)) ≠ p0)))) = true then (Option.bind (workflowlaw53_lives K) (fun a13 => some a13)) else some false)))))))))))) else some false))) else (Option.bind (workflowlaw53_members K ((IntKind.i64.wrap ((BitVec.ofInt 64 p1 &&& BitVec.ofInt 64 ((IntKind.i64.wrap ((IntKind.i64.wrap (1 * 2 ^ (min (Int.toNat p0) 64))) - 1)))).toNat : Int))) p0) (fun a14 => (Option.bind (quorum_Won K a14 p0) (fun a15 => (Option.bind (workflowlaw53_members K ((IntKind.i64.wrap ((BitVec.ofInt 64 p1 &&& BitVec.ofInt 64 ((IntKind.i64.wrap ((IntKind.i64.wrap (1 * 2 ^ (min (Int.toNat p0) 64))) - 1)))).toNat : Int))) p0) (fun a16 => (Option.bind (quorum_Won K ((IntKind.i64.wrap (p0 - a16))) p0) (fun a17 => (if (Int.tmod p0 2) = 1 then (if (((!(a15 == a17)) == true)) = true then (Option.bind (workflowlaw53_lives K) (fun a18 => some a18)) else some false) else (Option.bind (workflowlaw53_members K ((IntKind.i64.wrap ((BitVec.ofInt 64 p1 &&& BitVec.ofInt 64 ((IntKind.i64.wrap ((IntKind.i64.wrap (1 * 2 ^ (min (Int.toNat p0) 64))) - 1)))).toNat : Int))) p0) (fun a19 => (if (((!(a15 == a17)) == (decide ((IntKind.i64.wrap (2 * a19)) ≠ p0)))) = true then (Option.bind (workflowlaw53_lives K) (fun a20 => some a20)) else some false))))))))))))))) else none))))

theorem workflowlaw53_QuorumOverlap.body {Γ : Ent} {K : Nat} {p0 : Int} {p1 : Int} {p2 : Int} {r : Bool} (h : workflowlaw53_QuorumOverlap K p0 p1 p2 = some r) : AWp V P 82 0 Γ (Try.f6.body.getD .skip) (Eng.Ends P V Try.f6 (.cv (.lit (.bool r)))) ⟨args0 0 [.cv (.lit (.int .i64 p0)), .cv (.lit (.int .i64 p1)), .cv (.lit (.int .i64 p2))], []⟩ := by
  unfold workflowlaw53_QuorumOverlap at h
  refine awp_seq ?_
  refine awp_region L 0 [] [] [0, 1, 2] [] (cs := []) (S' := ⟨[(0, .cv (.lit (.int .i64 p0))), (1, .cv (.lit (.int .i64 p1))), (2, .cv (.lit (.int .i64 p2)))], []⟩) (by kernel_rfl) trivial ?_
  refine awp_seq ?_
  obtain ⟨o1, hp1, h⟩ := bind_some h
  refine awp_seq (awp_mono (Q' := fun e S => (e = .normal ∧ ∃ xt21_4 : Bool, S = ⟨[(0, .cv (.lit (.int .i64 p0))), (1, .cv (.lit (.int .i64 p1))), (2, .cv (.lit (.int .i64 p2))), (21, .cv (.lit (.bool xt21_4)))], []⟩ ∧ xt21_4 = o1)) ?_ ?_)
  · clear h
    replace h := hp1
    rcases ite_some h with ⟨c1, h⟩ | ⟨c1, h⟩
    · refine awp_region L 2 [(2, true)] [] [0, 1, 2, 21] [] (cs := [(decide (p0 < 1)) = true]) (S' := ⟨[(0, .cv (.lit (.int .i64 p0))), (1, .cv (.lit (.int .i64 p1))), (2, .cv (.lit (.int .i64 p2))), (21, .cv (.lit (.bool true)))], []⟩) (by kernel_rfl) (decide_eq_true c1) ?_
      have hr := Option.some.inj h
      subst hr
      exact ⟨rfl, _, rfl, rfl⟩
    · rcases ite_some h with ⟨c2, h⟩ | ⟨c2, h⟩
      · refine awp_region L 2 [(2, false), (6, true)] [] [0, 1, 2, 21] [] (cs := [(decide (p0 < 1)) = false, (decide (p0 > 60)) = true]) (S' := ⟨[(0, .cv (.lit (.int .i64 p0))), (1, .cv (.lit (.int .i64 p1))), (2, .cv (.lit (.int .i64 p2))), (21, .cv (.lit (.bool true)))], []⟩) (by kernel_rfl) (And.intro (decide_eq_false c1) (decide_eq_true c2)) ?_
        have hr := Option.some.inj h
        subst hr
        exact ⟨rfl, _, rfl, rfl⟩
      · rcases ite_some h with ⟨c3, h⟩ | ⟨c3, h⟩
        · refine awp_region L 2 [(2, false), (6, false), (10, true)] [] [0, 1, 2, 21] [] (cs := [(decide (p0 < 1)) = false, (decide (p0 > 60)) = false, (decide (p1 < 0)) = true]) (S' := ⟨[(0, .cv (.lit (.int .i64 p0))), (1, .cv (.lit (.int .i64 p1))), (2, .cv (.lit (.int .i64 p2))), (21, .cv (.lit (.bool true)))], []⟩) (by kernel_rfl) (And.intro (decide_eq_false c1) (And.intro (decide_eq_false c2) (decide_eq_true c3))) ?_
          have hr := Option.some.inj h
          subst hr
          exact ⟨rfl, _, rfl, rfl⟩
        · refine awp_region L 2 [(2, false), (6, false), (10, false)] [] [0, 1, 2, 21] [] (cs := [(decide (p0 < 1)) = false, (decide (p0 > 60)) = false, (decide (p1 < 0)) = false]) (S' := ⟨[(0, .cv (.lit (.int .i64 p0))), (1, .cv (.lit (.int .i64 p1))), (2, .cv (.lit (.int .i64 p2))), (21, .cv (.lit (.bool ((decide (p2 < 0))))))], []⟩) (by kernel_rfl) (And.intro (decide_eq_false c1) (And.intro (decide_eq_false c2) (decide_eq_false c3))) ?_
          have hr := Option.some.inj h
          subst hr
          exact ⟨rfl, _, rfl, rfl⟩
  · rintro e S ⟨rfl, xt21_4, rfl, rfl⟩
    rcases ite_some h with ⟨c4, h⟩ | ⟨c4, h⟩
    · refine awp_true (b := xt21_4) (by kernel_rfl) (c4) ?_
      refine awp_seq ?_
      obtain ⟨a1, h1, h⟩ := bind_some h
      refine awp_region L 17 [] [(0, .cv (.lit (.bool a1)))] [6] [] (cs := [PCall V P 7 [] (.cv (.lit (.bool a1))), True]) (S' := ⟨[(6, .cv (.lit (.bool a1)))], []⟩) (by kernel_rfl) (And.intro (workflowlaw53_lives.ok h1) trivial) ?_
      refine awp_ret ?_
      have hr := Option.some.inj h
      subst hr
      exact ⟨.inr rfl, .cv (.lit (.bool a1)), by kernel_rfl, by kernel_rfl, trivial, by kernel_rfl⟩
    · refine awp_false (b := xt21_4) (by kernel_rfl) (eq_false_of_ne_true c4) ?_
      refine awp_skip [0, 1, 2] [] (S' := ⟨[(0, .cv (.lit (.int .i64 p0))), (1, .cv (.lit (.int .i64 p1))), (2, .cv (.lit (.int .i64 p2)))], []⟩) (by kernel_rfl) ?_
      refine awp_seq ?_
      obtain ⟨g1, h⟩ := guard_some h
      refine awp_region L 20 [] [] [0, 1, 2] [] (cs := [(0 : Int) ≤ p0]) (S' := ⟨[(0, .cv (.lit (.int .i64 p0))), (1, .cv (.lit (.int .i64 ((IntKind.i64.wrap ((BitVec.ofInt 64 p1 &&& BitVec.ofInt 64 ((IntKind.i64.wrap ((IntKind.i64.wrap (1 * 2 ^ (min (Int.toNat p0) 64))) - 1)))).toNat : Int)))))), (2, .cv (.lit (.int .i64 p2)))], []⟩) (by kernel_rfl) g1 ?_
      refine awp_seq ?_
      refine awp_region L 27 [] [] [0, 1, 2] [] (cs := [(0 : Int) ≤ p0]) (S' := ⟨[(0, .cv (.lit (.int .i64 p0))), (1, .cv (.lit (.int .i64 ((IntKind.i64.wrap ((BitVec.ofInt 64 p1 &&& BitVec.ofInt 64 ((IntKind.i64.wrap ((IntKind.i64.wrap (1 * 2 ^ (min (Int.toNat p0) 64))) - 1)))).toNat : Int)))))), (2, .cv (.lit (.int .i64 ((IntKind.i64.wrap ((BitVec.ofInt 64 p2 &&& BitVec.ofInt 64 ((IntKind.i64.wrap ((IntKind.i64.wrap (1 * 2 ^ (min (Int.toNat p0) 64))) - 1)))).toNat : Int))))))], []⟩) (by kernel_rfl) g1 ?_
      obtain ⟨o2, hp2, h⟩ := bind_some h
      refine awp_seq (awp_mono (Q' := fun e S => (e = .normal ∧ ∃ xt7_15 : Bool, S = ⟨[(0, .cv (.lit (.int .i64 p0))), (1, .cv (.lit (.int .i64 ((IntKind.i64.wrap ((BitVec.ofInt 64 p1 &&& BitVec.ofInt 64 ((IntKind.i64.wrap ((IntKind.i64.wrap (1 * 2 ^ (min (Int.toNat p0) 64))) - 1)))).toNat : Int)))))), (2, .cv (.lit (.int .i64 ((IntKind.i64.wrap ((BitVec.ofInt 64 p2 &&& BitVec.ofInt 64 ((IntKind.i64.wrap ((IntKind.i64.wrap (1 * 2 ^ (min (Int.toNat p0) 64))) - 1)))).toNat : Int)))))), (7, .cv (.lit (.bool xt7_15)))], []⟩ ∧ xt7_15 = o2)) ?_ ?_)
      · clear h
        replace h := hp2
        obtain ⟨a2, h2, h⟩ := bind_some h
        obtain ⟨a3, h3, h⟩ := bind_some h
        rcases ite_some h with ⟨c5, h⟩ | ⟨c5, h⟩
        · obtain ⟨a4, h4, h⟩ := bind_some h
          obtain ⟨a5, h5, h⟩ := bind_some h
          refine awp_region L 34 [(5, true)] [(2, .cv (.lit (.int .i64 a2))), (4, .cv (.lit (.bool a3))), (8, .cv (.lit (.int .i64 a4))), (10, .cv (.lit (.bool a5)))] [0, 1, 2, 7] [] (cs := [PCall V P 19 [.cv (.lit (.int .i64 ((IntKind.i64.wrap ((BitVec.ofInt 64 p1 &&& BitVec.ofInt 64 ((IntKind.i64.wrap ((IntKind.i64.wrap (1 * 2 ^ (min (Int.toNat p0) 64))) - 1)))).toNat : Int))))), .cv (.lit (.int .i64 p0))] (.cv (.lit (.int .i64 a2))), True, PCall V P 13 [.cv (.lit (.int .i64 a2)), .cv (.lit (.int .i64 p0))] (.cv (.lit (.bool a3))), True, a3 = true, PCall V P 19 [.cv (.lit (.int .i64 ((IntKind.i64.wrap ((BitVec.ofInt 64 p2 &&& BitVec.ofInt 64 ((IntKind.i64.wrap ((IntKind.i64.wrap (1 * 2 ^ (min (Int.toNat p0) 64))) - 1)))).toNat : Int))))), .cv (.lit (.int .i64 p0))] (.cv (.lit (.int .i64 a4))), True, PCall V P 13 [.cv (.lit (.int .i64 a4)), .cv (.lit (.int .i64 p0))] (.cv (.lit (.bool a5))), True]) (S' := ⟨[(0, .cv (.lit (.int .i64 p0))), (1, .cv (.lit (.int .i64 ((IntKind.i64.wrap ((BitVec.ofInt 64 p1 &&& BitVec.ofInt 64 ((IntKind.i64.wrap ((IntKind.i64.wrap (1 * 2 ^ (min (Int.toNat p0) 64))) - 1)))).toNat : Int)))))), (2, .cv (.lit (.int .i64 ((IntKind.i64.wrap ((BitVec.ofInt 64 p2 &&& BitVec.ofInt 64 ((IntKind.i64.wrap ((IntKind.i64.wrap (1 * 2 ^ (min (Int.toNat p0) 64))) - 1)))).toNat : Int)))))), (7, .cv (.lit (.bool a5)))], []⟩) (by kernel_rfl) (And.intro (workflowlaw53_members.ok h2) (And.intro trivial (And.intro (quorum_Won.ok h3) (And.intro trivial (And.intro c5 (And.intro (workflowlaw53_members.ok h4) (And.intro trivial (And.intro (quorum_Won.ok h5) trivial)))))))) ?_
          have hr := Option.some.inj h
          subst hr
          exact ⟨rfl, _, rfl, rfl⟩
        · refine awp_region L 34 [(5, false)] [(2, .cv (.lit (.int .i64 a2))), (4, .cv (.lit (.bool a3)))] [0, 1, 2, 7] [] (cs := [PCall V P 19 [.cv (.lit (.int .i64 ((IntKind.i64.wrap ((BitVec.ofInt 64 p1 &&& BitVec.ofInt 64 ((IntKind.i64.wrap ((IntKind.i64.wrap (1 * 2 ^ (min (Int.toNat p0) 64))) - 1)))).toNat : Int))))), .cv (.lit (.int .i64 p0))] (.cv (.lit (.int .i64 a2))), True, PCall V P 13 [.cv (.lit (.int .i64 a2)), .cv (.lit (.int .i64 p0))] (.cv (.lit (.bool a3))), True, a3 = false]) (S' := ⟨[(0, .cv (.lit (.int .i64 p0))), (1, .cv (.lit (.int .i64 ((IntKind.i64.wrap ((BitVec.ofInt 64 p1 &&& BitVec.ofInt 64 ((IntKind.i64.wrap ((IntKind.i64.wrap (1 * 2 ^ (min (Int.toNat p0) 64))) - 1)))).toNat : Int)))))), (2, .cv (.lit (.int .i64 ((IntKind.i64.wrap ((BitVec.ofInt 64 p2 &&& BitVec.ofInt 64 ((IntKind.i64.wrap ((IntKind.i64.wrap (1 * 2 ^ (min (Int.toNat p0) 64))) - 1)))).toNat : Int)))))), (7, .cv (.lit (.bool false)))], []⟩) (by kernel_rfl) (And.intro (workflowlaw53_members.ok h2) (And.intro trivial (And.intro (quorum_Won.ok h3) (And.intro trivial (eq_false_of_ne_true c5))))) ?_
          have hr := Option.some.inj h
          subst hr
          exact ⟨rfl, _, rfl, rfl⟩
      · rintro e S ⟨rfl, xt7_15, rfl, rfl⟩
        refine awp_seq ?_
        rcases ite_some h with ⟨c6, h⟩ | ⟨c6, h⟩
        · obtain ⟨a6, h6, h⟩ := bind_some h
          rcases ite_some h with ⟨c7, h⟩ | ⟨c7, h⟩
          · obtain ⟨a7, h7, h⟩ := bind_some h
            obtain ⟨a8, h8, h⟩ := bind_some h
            obtain ⟨a9, h9, h⟩ := bind_some h
            obtain ⟨a10, h10, h⟩ := bind_some h
            rcases ite_some h with ⟨c8, h⟩ | ⟨c8, h⟩
            · rcases ite_some h with ⟨c9, h⟩ | ⟨c9, h⟩
              · obtain ⟨a11, h11, h⟩ := bind_some h
                refine awp_region L 48 [(2, false), (7, true), (24, true), (34, true)] [(5, .cv (.lit (.bool a6))), (10, .cv (.lit (.int .i64 a7))), (12, .cv (.lit (.bool a8))), (16, .cv (.lit (.int .i64 a9))), (19, .cv (.lit (.bool a10))), (35, .cv (.lit (.bool a11)))] [6] [] (cs := [(!xt7_15) = false, PCall V P 17 [.cv (.lit (.int .i64 ((IntKind.i64.wrap ((BitVec.ofInt 64 p1 &&& BitVec.ofInt 64 ((IntKind.i64.wrap ((IntKind.i64.wrap (1 * 2 ^ (min (Int.toNat p0) 64))) - 1)))).toNat : Int))))), .cv (.lit (.int .i64 ((IntKind.i64.wrap ((BitVec.ofInt 64 p2 &&& BitVec.ofInt 64 ((IntKind.i64.wrap ((IntKind.i64.wrap (1 * 2 ^ (min (Int.toNat p0) 64))) - 1)))).toNat : Int)))))] (.cv (.lit (.bool a6))), True, a6 = true, PCall V P 19 [.cv (.lit (.int .i64 ((IntKind.i64.wrap ((BitVec.ofInt 64 p1 &&& BitVec.ofInt 64 ((IntKind.i64.wrap ((IntKind.i64.wrap (1 * 2 ^ (min (Int.toNat p0) 64))) - 1)))).toNat : Int))))), .cv (.lit (.int .i64 p0))] (.cv (.lit (.int .i64 a7))), True, PCall V P 13 [.cv (.lit (.int .i64 a7)), .cv (.lit (.int .i64 p0))] (.cv (.lit (.bool a8))), True, PCall V P 19 [.cv (.lit (.int .i64 ((IntKind.i64.wrap ((BitVec.ofInt 64 p1 &&& BitVec.ofInt 64 ((IntKind.i64.wrap ((IntKind.i64.wrap (1 * 2 ^ (min (Int.toNat p0) 64))) - 1)))).toNat : Int))))), .cv (.lit (.int .i64 p0))] (.cv (.lit (.int .i64 a9))), True, PCall V P 13 [.cv (.lit (.int .i64 ((IntKind.i64.wrap (p0 - a9))))), .cv (.lit (.int .i64 p0))] (.cv (.lit (.bool a10))), True, 2 ≠ (0 : Int), (decide ((Int.tmod p0 2) = 1)) = true, ((!(a8 == a10)) == true) = true, PCall V P 7 [] (.cv (.lit (.bool a11))), True]) (S' := ⟨[(6, .cv (.lit (.bool a11)))], []⟩) (by kernel_rfl) (And.intro (congrArg Bool.not (c6)) (And.intro (quorum_Overlap.ok h6) (And.intro trivial (And.intro c7 (And.intro (workflowlaw53_members.ok h7) (And.intro trivial (And.intro (quorum_Won.ok h8) (And.intro trivial (And.intro (workflowlaw53_members.ok h9) (And.intro trivial (And.intro (quorum_Won.ok h10) (And.intro trivial (And.intro (show 2 ≠ (0 : Int) from by decide) (And.intro (decide_eq_true c8) (And.intro c9 (And.intro (workflowlaw53_lives.ok h11) trivial)))))))))))))))) ?_
                refine awp_ret ?_
                have hr := Option.some.inj h
                subst hr
                exact ⟨.inr rfl, .cv (.lit (.bool a11)), by kernel_rfl, by kernel_rfl, trivial, by kernel_rfl⟩
              · refine awp_region L 48 [(2, false), (7, true), (24, true), (34, false)] [(5, .cv (.lit (.bool a6))), (10, .cv (.lit (.int .i64 a7))), (12, .cv (.lit (.bool a8))), (16, .cv (.lit (.int .i64 a9))), (19, .cv (.lit (.bool a10)))] [6] [] (cs := [(!xt7_15) = false, PCall V P 17 [.cv (.lit (.int .i64 ((IntKind.i64.wrap ((BitVec.ofInt 64 p1 &&& BitVec.ofInt 64 ((IntKind.i64.wrap ((IntKind.i64.wrap (1 * 2 ^ (min (Int.toNat p0) 64))) - 1)))).toNat : Int))))), .cv (.lit (.int .i64 ((IntKind.i64.wrap ((BitVec.ofInt 64 p2 &&& BitVec.ofInt 64 ((IntKind.i64.wrap ((IntKind.i64.wrap (1 * 2 ^ (min (Int.toNat p0) 64))) - 1)))).toNat : Int)))))] (.cv (.lit (.bool a6))), True, a6 = true, PCall V P 19 [.cv (.lit (.int .i64 ((IntKind.i64.wrap ((BitVec.ofInt 64 p1 &&& BitVec.ofInt 64 ((IntKind.i64.wrap ((IntKind.i64.wrap (1 * 2 ^ (min (Int.toNat p0) 64))) - 1)))).toNat : Int))))), .cv (.lit (.int .i64 p0))] (.cv (.lit (.int .i64 a7))), True, PCall V P 13 [.cv (.lit (.int .i64 a7)), .cv (.lit (.int .i64 p0))] (.cv (.lit (.bool a8))), True, PCall V P 19 [.cv (.lit (.int .i64 ((IntKind.i64.wrap ((BitVec.ofInt 64 p1 &&& BitVec.ofInt 64 ((IntKind.i64.wrap ((IntKind.i64.wrap (1 * 2 ^ (min (Int.toNat p0) 64))) - 1)))).toNat : Int))))), .cv (.lit (.int .i64 p0))] (.cv (.lit (.int .i64 a9))), True, PCall V P 13 [.cv (.lit (.int .i64 ((IntKind.i64.wrap (p0 - a9))))), .cv (.lit (.int .i64 p0))] (.cv (.lit (.bool a10))), True, 2 ≠ (0 : Int), (decide ((Int.tmod p0 2) = 1)) = true, ((!(a8 == a10)) == true) = false]) (S' := ⟨[(6, .cv (.lit (.bool false)))], []⟩) (by kernel_rfl) (And.intro (congrArg Bool.not (c6)) (And.intro (quorum_Overlap.ok h6) (And.intro trivial (And.intro c7 (And.intro (workflowlaw53_members.ok h7) (And.intro trivial (And.intro (quorum_Won.ok h8) (And.intro trivial (And.intro (workflowlaw53_members.ok h9) (And.intro trivial (And.intro (quorum_Won.ok h10) (And.intro trivial (And.intro (show 2 ≠ (0 : Int) from by decide) (And.intro (decide_eq_true c8) (eq_false_of_ne_true c9))))))))))))))) ?_
                refine awp_ret ?_
                have hr := Option.some.inj h
                subst hr
                exact ⟨.inr rfl, .cv (.lit (.bool false)), by kernel_rfl, by kernel_rfl, trivial, by kernel_rfl⟩
            · obtain ⟨a12, h12, h⟩ := bind_some h
              rcases ite_some h with ⟨c10, h⟩ | ⟨c10, h⟩
              · obtain ⟨a13, h13, h⟩ := bind_some h
                refine awp_region L 48 [(2, false), (7, true), (24, false), (34, true)] [(5, .cv (.lit (.bool a6))), (10, .cv (.lit (.int .i64 a7))), (12, .cv (.lit (.bool a8))), (16, .cv (.lit (.int .i64 a9))), (19, .cv (.lit (.bool a10))), (27, .cv (.lit (.int .i64 a12))), (35, .cv (.lit (.bool a13)))] [6] [] (cs := [(!xt7_15) = false, PCall V P 17 [.cv (.lit (.int .i64 ((IntKind.i64.wrap ((BitVec.ofInt 64 p1 &&& BitVec.ofInt 64 ((IntKind.i64.wrap ((IntKind.i64.wrap (1 * 2 ^ (min (Int.toNat p0) 64))) - 1)))).toNat : Int))))), .cv (.lit (.int .i64 ((IntKind.i64.wrap ((BitVec.ofInt 64 p2 &&& BitVec.ofInt 64 ((IntKind.i64.wrap ((IntKind.i64.wrap (1 * 2 ^ (min (Int.toNat p0) 64))) - 1)))).toNat : Int)))))] (.cv (.lit (.bool a6))), True, a6 = true, PCall V P 19 [.cv (.lit (.int .i64 ((IntKind.i64.wrap ((BitVec.ofInt 64 p1 &&& BitVec.ofInt 64 ((IntKind.i64.wrap ((IntKind.i64.wrap (1 * 2 ^ (min (Int.toNat p0) 64))) - 1)))).toNat : Int))))), .cv (.lit (.int .i64 p0))] (.cv (.lit (.int .i64 a7))), True, PCall V P 13 [.cv (.lit (.int .i64 a7)), .cv (.lit (.int .i64 p0))] (.cv (.lit (.bool a8))), True, PCall V P 19 [.cv (.lit (.int .i64 ((IntKind.i64.wrap ((BitVec.ofInt 64 p1 &&& BitVec.ofInt 64 ((IntKind.i64.wrap ((IntKind.i64.wrap (1 * 2 ^ (min (Int.toNat p0) 64))) - 1)))).toNat : Int))))), .cv (.lit (.int .i64 p0))] (.cv (.lit (.int .i64 a9))), True, PCall V P 13 [.cv (.lit (.int .i64 ((IntKind.i64.wrap (p0 - a9))))), .cv (.lit (.int .i64 p0))] (.cv (.lit (.bool a10))), True, 2 ≠ (0 : Int), (decide ((Int.tmod p0 2) = 1)) = false, PCall V P 19 [.cv (.lit (.int .i64 ((IntKind.i64.wrap ((BitVec.ofInt 64 p1 &&& BitVec.ofInt 64 ((IntKind.i64.wrap ((IntKind.i64.wrap (1 * 2 ^ (min (Int.toNat p0) 64))) - 1)))).toNat : Int))))), .cv (.lit (.int .i64 p0))] (.cv (.lit (.int .i64 a12))), True, ((!(a8 == a10)) == (decide ((IntKind.i64.wrap (2 * a12)) ≠ p0))) = true, PCall V P 7 [] (.cv (.lit (.bool a13))), True]) (S' := ⟨[(6, .cv (.lit (.bool a13)))], []⟩) (by kernel_rfl) (And.intro (congrArg Bool.not (c6)) (And.intro (quorum_Overlap.ok h6) (And.intro trivial (And.intro c7 (And.intro (workflowlaw53_members.ok h7) (And.intro trivial (And.intro (quorum_Won.ok h8) (And.intro trivial (And.intro (workflowlaw53_members.ok h9) (And.intro trivial (And.intro (quorum_Won.ok h10) (And.intro trivial (And.intro (show 2 ≠ (0 : Int) from by decide) (And.intro (decide_eq_false c8) (And.intro (workflowlaw53_members.ok h12) (And.intro trivial (And.intro c10 (And.intro (workflowlaw53_lives.ok h13) trivial)))))))))))))))))) ?_
                refine awp_ret ?_
                have hr := Option.some.inj h
                subst hr
                exact ⟨.inr rfl, .cv (.lit (.bool a13)), by kernel_rfl, by kernel_rfl, trivial, by kernel_rfl⟩
              · refine awp_region L 48 [(2, false), (7, true), (24, false), (34, false)] [(5, .cv (.lit (.bool a6))), (10, .cv (.lit (.int .i64 a7))), (12, .cv (.lit (.bool a8))), (16, .cv (.lit (.int .i64 a9))), (19, .cv (.lit (.bool a10))), (27, .cv (.lit (.int .i64 a12)))] [6] [] (cs := [(!xt7_15) = false, PCall V P 17 [.cv (.lit (.int .i64 ((IntKind.i64.wrap ((BitVec.ofInt 64 p1 &&& BitVec.ofInt 64 ((IntKind.i64.wrap ((IntKind.i64.wrap (1 * 2 ^ (min (Int.toNat p0) 64))) - 1)))).toNat : Int))))), .cv (.lit (.int .i64 ((IntKind.i64.wrap ((BitVec.ofInt 64 p2 &&& BitVec.ofInt 64 ((IntKind.i64.wrap ((IntKind.i64.wrap (1 * 2 ^ (min (Int.toNat p0) 64))) - 1)))).toNat : Int)))))] (.cv (.lit (.bool a6))), True, a6 = true, PCall V P 19 [.cv (.lit (.int .i64 ((IntKind.i64.wrap ((BitVec.ofInt 64 p1 &&& BitVec.ofInt 64 ((IntKind.i64.wrap ((IntKind.i64.wrap (1 * 2 ^ (min (Int.toNat p0) 64))) - 1)))).toNat : Int))))), .cv (.lit (.int .i64 p0))] (.cv (.lit (.int .i64 a7))), True, PCall V P 13 [.cv (.lit (.int .i64 a7)), .cv (.lit (.int .i64 p0))] (.cv (.lit (.bool a8))), True, PCall V P 19 [.cv (.lit (.int .i64 ((IntKind.i64.wrap ((BitVec.ofInt 64 p1 &&& BitVec.ofInt 64 ((IntKind.i64.wrap ((IntKind.i64.wrap (1 * 2 ^ (min (Int.toNat p0) 64))) - 1)))).toNat : Int))))), .cv (.lit (.int .i64 p0))] (.cv (.lit (.int .i64 a9))), True, PCall V P 13 [.cv (.lit (.int .i64 ((IntKind.i64.wrap (p0 - a9))))), .cv (.lit (.int .i64 p0))] (.cv (.lit (.bool a10))), True, 2 ≠ (0 : Int), (decide ((Int.tmod p0 2) = 1)) = false, PCall V P 19 [.cv (.lit (.int .i64 ((IntKind.i64.wrap ((BitVec.ofInt 64 p1 &&& BitVec.ofInt 64 ((IntKind.i64.wrap ((IntKind.i64.wrap (1 * 2 ^ (min (Int.toNat p0) 64))) - 1)))).toNat : Int))))), .cv (.lit (.int .i64 p0))] (.cv (.lit (.int .i64 a12))), True, ((!(a8 == a10)) == (decide ((IntKind.i64.wrap (2 * a12)) ≠ p0))) = false]) (S' := ⟨[(6, .cv (.lit (.bool false)))], []⟩) (by kernel_rfl) (And.intro (congrArg Bool.not (c6)) (And.intro (quorum_Overlap.ok h6) (And.intro trivial (And.intro c7 (And.intro (workflowlaw53_members.ok h7) (And.intro trivial (And.intro (quorum_Won.ok h8) (And.intro trivial (And.intro (workflowlaw53_members.ok h9) (And.intro trivial (And.intro (quorum_Won.ok h10) (And.intro trivial (And.intro (show 2 ≠ (0 : Int) from by decide) (And.intro (decide_eq_false c8) (And.intro (workflowlaw53_members.ok h12) (And.intro trivial (eq_false_of_ne_true c10))))))))))))))))) ?_
                refine awp_ret ?_
                have hr := Option.some.inj h
                subst hr
                exact ⟨.inr rfl, .cv (.lit (.bool false)), by kernel_rfl, by kernel_rfl, trivial, by kernel_rfl⟩
          · refine awp_region L 48 [(2, false), (7, false)] [(5, .cv (.lit (.bool a6)))] [6] [] (cs := [(!xt7_15) = false, PCall V P 17 [.cv (.lit (.int .i64 ((IntKind.i64.wrap ((BitVec.ofInt 64 p1 &&& BitVec.ofInt 64 ((IntKind.i64.wrap ((IntKind.i64.wrap (1 * 2 ^ (min (Int.toNat p0) 64))) - 1)))).toNat : Int))))), .cv (.lit (.int .i64 ((IntKind.i64.wrap ((BitVec.ofInt 64 p2 &&& BitVec.ofInt 64 ((IntKind.i64.wrap ((IntKind.i64.wrap (1 * 2 ^ (min (Int.toNat p0) 64))) - 1)))).toNat : Int)))))] (.cv (.lit (.bool a6))), True, a6 = false]) (S' := ⟨[(6, .cv (.lit (.bool false)))], []⟩) (by kernel_rfl) (And.intro (congrArg Bool.not (c6)) (And.intro (quorum_Overlap.ok h6) (And.intro trivial (eq_false_of_ne_true c7)))) ?_
            refine awp_ret ?_
            have hr := Option.some.inj h
            subst hr
            exact ⟨.inr rfl, .cv (.lit (.bool false)), by kernel_rfl, by kernel_rfl, trivial, by kernel_rfl⟩
        · obtain ⟨a14, h14, h⟩ := bind_some h
          obtain ⟨a15, h15, h⟩ := bind_some h
          obtain ⟨a16, h16, h⟩ := bind_some h
          obtain ⟨a17, h17, h⟩ := bind_some h
          rcases ite_some h with ⟨c11, h⟩ | ⟨c11, h⟩
          · rcases ite_some h with ⟨c12, h⟩ | ⟨c12, h⟩
            · obtain ⟨a18, h18, h⟩ := bind_some h
              refine awp_region L 48 [(2, true), (24, true), (34, true)] [(10, .cv (.lit (.int .i64 a14))), (12, .cv (.lit (.bool a15))), (16, .cv (.lit (.int .i64 a16))), (19, .cv (.lit (.bool a17))), (35, .cv (.lit (.bool a18)))] [6] [] (cs := [(!xt7_15) = true, PCall V P 19 [.cv (.lit (.int .i64 ((IntKind.i64.wrap ((BitVec.ofInt 64 p1 &&& BitVec.ofInt 64 ((IntKind.i64.wrap ((IntKind.i64.wrap (1 * 2 ^ (min (Int.toNat p0) 64))) - 1)))).toNat : Int))))), .cv (.lit (.int .i64 p0))] (.cv (.lit (.int .i64 a14))), True, PCall V P 13 [.cv (.lit (.int .i64 a14)), .cv (.lit (.int .i64 p0))] (.cv (.lit (.bool a15))), True, PCall V P 19 [.cv (.lit (.int .i64 ((IntKind.i64.wrap ((BitVec.ofInt 64 p1 &&& BitVec.ofInt 64 ((IntKind.i64.wrap ((IntKind.i64.wrap (1 * 2 ^ (min (Int.toNat p0) 64))) - 1)))).toNat : Int))))), .cv (.lit (.int .i64 p0))] (.cv (.lit (.int .i64 a16))), True, PCall V P 13 [.cv (.lit (.int .i64 ((IntKind.i64.wrap (p0 - a16))))), .cv (.lit (.int .i64 p0))] (.cv (.lit (.bool a17))), True, 2 ≠ (0 : Int), (decide ((Int.tmod p0 2) = 1)) = true, ((!(a15 == a17)) == true) = true, PCall V P 7 [] (.cv (.lit (.bool a18))), True]) (S' := ⟨[(6, .cv (.lit (.bool a18)))], []⟩) (by kernel_rfl) (And.intro (congrArg Bool.not (eq_false_of_ne_true c6)) (And.intro (workflowlaw53_members.ok h14) (And.intro trivial (And.intro (quorum_Won.ok h15) (And.intro trivial (And.intro (workflowlaw53_members.ok h16) (And.intro trivial (And.intro (quorum_Won.ok h17) (And.intro trivial (And.intro (show 2 ≠ (0 : Int) from by decide) (And.intro (decide_eq_true c11) (And.intro c12 (And.intro (workflowlaw53_lives.ok h18) trivial))))))))))))) ?_
              refine awp_ret ?_
              have hr := Option.some.inj h
              subst hr
              exact ⟨.inr rfl, .cv (.lit (.bool a18)), by kernel_rfl, by kernel_rfl, trivial, by kernel_rfl⟩
            · refine awp_region L 48 [(2, true), (24, true), (34, false)] [(10, .cv (.lit (.int .i64 a14))), (12, .cv (.lit (.bool a15))), (16, .cv (.lit (.int .i64 a16))), (19, .cv (.lit (.bool a17)))] [6] [] (cs := [(!xt7_15) = true, PCall V P 19 [.cv (.lit (.int .i64 ((IntKind.i64.wrap ((BitVec.ofInt 64 p1 &&& BitVec.ofInt 64 ((IntKind.i64.wrap ((IntKind.i64.wrap (1 * 2 ^ (min (Int.toNat p0) 64))) - 1)))).toNat : Int))))), .cv (.lit (.int .i64 p0))] (.cv (.lit (.int .i64 a14))), True, PCall V P 13 [.cv (.lit (.int .i64 a14)), .cv (.lit (.int .i64 p0))] (.cv (.lit (.bool a15))), True, PCall V P 19 [.cv (.lit (.int .i64 ((IntKind.i64.wrap ((BitVec.ofInt 64 p1 &&& BitVec.ofInt 64 ((IntKind.i64.wrap ((IntKind.i64.wrap (1 * 2 ^ (min (Int.toNat p0) 64))) - 1)))).toNat : Int))))), .cv (.lit (.int .i64 p0))] (.cv (.lit (.int .i64 a16))), True, PCall V P 13 [.cv (.lit (.int .i64 ((IntKind.i64.wrap (p0 - a16))))), .cv (.lit (.int .i64 p0))] (.cv (.lit (.bool a17))), True, 2 ≠ (0 : Int), (decide ((Int.tmod p0 2) = 1)) = true, ((!(a15 == a17)) == true) = false]) (S' := ⟨[(6, .cv (.lit (.bool false)))], []⟩) (by kernel_rfl) (And.intro (congrArg Bool.not (eq_false_of_ne_true c6)) (And.intro (workflowlaw53_members.ok h14) (And.intro trivial (And.intro (quorum_Won.ok h15) (And.intro trivial (And.intro (workflowlaw53_members.ok h16) (And.intro trivial (And.intro (quorum_Won.ok h17) (And.intro trivial (And.intro (show 2 ≠ (0 : Int) from by decide) (And.intro (decide_eq_true c11) (eq_false_of_ne_true c12)))))))))))) ?_
              refine awp_ret ?_
              have hr := Option.some.inj h
              subst hr
              exact ⟨.inr rfl, .cv (.lit (.bool false)), by kernel_rfl, by kernel_rfl, trivial, by kernel_rfl⟩
          · obtain ⟨a19, h19, h⟩ := bind_some h
            rcases ite_some h with ⟨c13, h⟩ | ⟨c13, h⟩
            · obtain ⟨a20, h20, h⟩ := bind_some h
              refine awp_region L 48 [(2, true), (24, false), (34, true)] [(10, .cv (.lit (.int .i64 a14))), (12, .cv (.lit (.bool a15))), (16, .cv (.lit (.int .i64 a16))), (19, .cv (.lit (.bool a17))), (27, .cv (.lit (.int .i64 a19))), (35, .cv (.lit (.bool a20)))] [6] [] (cs := [(!xt7_15) = true, PCall V P 19 [.cv (.lit (.int .i64 ((IntKind.i64.wrap ((BitVec.ofInt 64 p1 &&& BitVec.ofInt 64 ((IntKind.i64.wrap ((IntKind.i64.wrap (1 * 2 ^ (min (Int.toNat p0) 64))) - 1)))).toNat : Int))))), .cv (.lit (.int .i64 p0))] (.cv (.lit (.int .i64 a14))), True, PCall V P 13 [.cv (.lit (.int .i64 a14)), .cv (.lit (.int .i64 p0))] (.cv (.lit (.bool a15))), True, PCall V P 19 [.cv (.lit (.int .i64 ((IntKind.i64.wrap ((BitVec.ofInt 64 p1 &&& BitVec.ofInt 64 ((IntKind.i64.wrap ((IntKind.i64.wrap (1 * 2 ^ (min (Int.toNat p0) 64))) - 1)))).toNat : Int))))), .cv (.lit (.int .i64 p0))] (.cv (.lit (.int .i64 a16))), True, PCall V P 13 [.cv (.lit (.int .i64 ((IntKind.i64.wrap (p0 - a16))))), .cv (.lit (.int .i64 p0))] (.cv (.lit (.bool a17))), True, 2 ≠ (0 : Int), (decide ((Int.tmod p0 2) = 1)) = false, PCall V P 19 [.cv (.lit (.int .i64 ((IntKind.i64.wrap ((BitVec.ofInt 64 p1 &&& BitVec.ofInt 64 ((IntKind.i64.wrap ((IntKind.i64.wrap (1 * 2 ^ (min (Int.toNat p0) 64))) - 1)))).toNat : Int))))), .cv (.lit (.int .i64 p0))] (.cv (.lit (.int .i64 a19))), True, ((!(a15 == a17)) == (decide ((IntKind.i64.wrap (2 * a19)) ≠ p0))) = true, PCall V P 7 [] (.cv (.lit (.bool a20))), True]) (S' := ⟨[(6, .cv (.lit (.bool a20)))], []⟩) (by kernel_rfl) (And.intro (congrArg Bool.not (eq_false_of_ne_true c6)) (And.intro (workflowlaw53_members.ok h14) (And.intro trivial (And.intro (quorum_Won.ok h15) (And.intro trivial (And.intro (workflowlaw53_members.ok h16) (And.intro trivial (And.intro (quorum_Won.ok h17) (And.intro trivial (And.intro (show 2 ≠ (0 : Int) from by decide) (And.intro (decide_eq_false c11) (And.intro (workflowlaw53_members.ok h19) (And.intro trivial (And.intro c13 (And.intro (workflowlaw53_lives.ok h20) trivial))))))))))))))) ?_
              refine awp_ret ?_
              have hr := Option.some.inj h
              subst hr
              exact ⟨.inr rfl, .cv (.lit (.bool a20)), by kernel_rfl, by kernel_rfl, trivial, by kernel_rfl⟩
            · refine awp_region L 48 [(2, true), (24, false), (34, false)] [(10, .cv (.lit (.int .i64 a14))), (12, .cv (.lit (.bool a15))), (16, .cv (.lit (.int .i64 a16))), (19, .cv (.lit (.bool a17))), (27, .cv (.lit (.int .i64 a19)))] [6] [] (cs := [(!xt7_15) = true, PCall V P 19 [.cv (.lit (.int .i64 ((IntKind.i64.wrap ((BitVec.ofInt 64 p1 &&& BitVec.ofInt 64 ((IntKind.i64.wrap ((IntKind.i64.wrap (1 * 2 ^ (min (Int.toNat p0) 64))) - 1)))).toNat : Int))))), .cv (.lit (.int .i64 p0))] (.cv (.lit (.int .i64 a14))), True, PCall V P 13 [.cv (.lit (.int .i64 a14)), .cv (.lit (.int .i64 p0))] (.cv (.lit (.bool a15))), True, PCall V P 19 [.cv (.lit (.int .i64 ((IntKind.i64.wrap ((BitVec.ofInt 64 p1 &&& BitVec.ofInt 64 ((IntKind.i64.wrap ((IntKind.i64.wrap (1 * 2 ^ (min (Int.toNat p0) 64))) - 1)))).toNat : Int))))), .cv (.lit (.int .i64 p0))] (.cv (.lit (.int .i64 a16))), True, PCall V P 13 [.cv (.lit (.int .i64 ((IntKind.i64.wrap (p0 - a16))))), .cv (.lit (.int .i64 p0))] (.cv (.lit (.bool a17))), True, 2 ≠ (0 : Int), (decide ((Int.tmod p0 2) = 1)) = false, PCall V P 19 [.cv (.lit (.int .i64 ((IntKind.i64.wrap ((BitVec.ofInt 64 p1 &&& BitVec.ofInt 64 ((IntKind.i64.wrap ((IntKind.i64.wrap (1 * 2 ^ (min (Int.toNat p0) 64))) - 1)))).toNat : Int))))), .cv (.lit (.int .i64 p0))] (.cv (.lit (.int .i64 a19))), True, ((!(a15 == a17)) == (decide ((IntKind.i64.wrap (2 * a19)) ≠ p0))) = false]) (S' := ⟨[(6, .cv (.lit (.bool false)))], []⟩) (by kernel_rfl) (And.intro (congrArg Bool.not (eq_false_of_ne_true c6)) (And.intro (workflowlaw53_members.ok h14) (And.intro trivial (And.intro (quorum_Won.ok h15) (And.intro trivial (And.intro (workflowlaw53_members.ok h16) (And.intro trivial (And.intro (quorum_Won.ok h17) (And.intro trivial (And.intro (show 2 ≠ (0 : Int) from by decide) (And.intro (decide_eq_false c11) (And.intro (workflowlaw53_members.ok h19) (And.intro trivial (eq_false_of_ne_true c13)))))))))))))) ?_
              refine awp_ret ?_
              have hr := Option.some.inj h
              subst hr
              exact ⟨.inr rfl, .cv (.lit (.bool false)), by kernel_rfl, by kernel_rfl, trivial, by kernel_rfl⟩

theorem workflowlaw53_QuorumOverlap.ok {K : Nat} {p0 : Int} {p1 : Int} {p2 : Int} {r : Bool} (h : workflowlaw53_QuorumOverlap K p0 p1 p2 = some r) : PCall V P 6 [.cv (.lit (.int .i64 p0)), .cv (.lit (.int .i64 p1)), .cv (.lit (.int .i64 p2))] (.cv (.lit (.bool r))) :=
  pcall_of (fn := Try.f6) (n := 82) (by kernel_rfl) (by kernel_rfl) (by kernel_rfl) rfl (by kernel_rfl) (by kernel_rfl) fun Γ => workflowlaw53_QuorumOverlap.body h

end Go.Proofs.Ytjkfadlomchpjaa
