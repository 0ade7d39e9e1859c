/- What functions of the program compute, as Lean functions, and that they compute it. -/
import Derived.Test.YtegkigdobekgjaaFn3
set_option linter.unusedVariables false
set_option maxHeartbeats 0
namespace Go.Proofs.Ytegkigdobekgjaa
open Eng
def workflowlaw50_DiskKeeps.l17 (K : Nat) (p0 : List workflowlaw50_Step) : Nat → Int → Option Unit
 | 0, _ => none
 | k + 1, xt15_17h => (if xt15_17h < (p0.length : Int) then (if (0 : Int) ≤ xt15_17h ∧ (xt15_17h : Int) < (p0.length : Int) then (Option.bind (workflowlaw50_does K (p0.getD (Int.toNat xt15_17h) z_workflowlaw50_Step)) (fun a5 => workflowlaw50_DiskKeeps.l17 K p0 k (IntKind.i64.wrap (xt15_17h + 1)))) else none) else some ())
def workflowlaw50_DiskKeeps.l17_2 (K : Nat) (p0 : List workflowlaw50_Step) : Nat → Int → Bool → Bool → Int → (List (List UInt8 × disk_file)) → Option (Bool × Bool × Int × (List (List UInt8 × disk_file)))
 | 0, _, _, _, _, _ => none
 | k + 1, xt15_17h, x23500_3, x23500_4, x23500_5, x23501 => (if xt15_17h < (p0.length : Int) then (if (0 : Int) ≤ xt15_17h ∧ (xt15_17h : Int) < (p0.length : Int) then (Option.bind (workflowlaw50_does_v3 K (p0.getD (Int.toNat xt15_17h) z_workflowlaw50_Step) 100000 x23500_3 x23500_4 x23500_5 x23501) (fun a9 => match a9 with | (Sum.inl (a9_0, a9_1, a9_2, a9_3, a9_4, a9_5)) => workflowlaw50_DiskKeeps.l17_2 K p0 k (IntKind.i64.wrap (xt15_17h + 1)) a9_2 a9_3 a9_4 a9_5 | (Sum.inr (a9_0, a9_1)) => workflowlaw50_DiskKeeps.l17_2 K p0 k (IntKind.i64.wrap (xt15_17h + 1)) x23500_3 x23500_4 x23500_5 a9_1)) else none) else some (x23500_3, x23500_4, x23500_5, x23501))
def workflowlaw50_DiskKeeps (K : Nat) (p0 : List workflowlaw50_Step) (p1 : List workflowlaw50_Step) (p2 : List UInt8) (p3 : List UInt8) (p4 : List UInt8) (p5 : Int) : Option Bool := (Option.bind (((Option.bind (workflowlaw50_small K p0) (fun a1 => (if a1 = true then (Option.bind (workflowlaw50_small K p1) (fun a2 => (if a2 = true then (if (p3.length : Int) > 3000 then some true else (if (p4.length : Int) > 3000 then some true else (if p5 < 0 then some true else (if (p2.length : Int) < 1 then some true else some (decide ((p2.length : Int) > 64)))))) else some true))) else some true)))) : Option Bool) (fun xt55_4 => (if xt55_4 = true then (Option.bind (workflowlaw50_lives K) (fun a3 => some a3)) else (Option.bind (disk_New K 100000) (fun a4 => match a4 with | (Sum.inl ()) => (Option.bind (workflowlaw50_DiskKeeps.l17 K p0 K 0 : Option Unit) (fun _ => (Option.bind (disk_Disk_Crash_v3 K 0) (fun _ => (Option.bind (disk_Disk_Remove K p2) (fun _ => (Option.bind (disk_Disk_Append_v3 K p2 p3) (fun _ => some false)))))))) | (Sum.inr ()) => (Option.bind (workflowlaw50_DiskKeeps.l17_2 K p0 K 0 false false 0 ([] : List (List UInt8 × disk_file)) : Option (Bool × Bool × Int × (List (List UInt8 × disk_file)))) (fun (x23400_3, x23400_4, x23400_5, x23401) => (Option.bind (disk_Disk_Crash_v2 K 0 100000 x23400_3 x23400_4 x23400_5 x23401) (fun (a10_0, a10_1, a10_2, a10_3, a10_4) => (Option.bind (disk_Disk_Remove_v3 K p2 100000 a10_1 a10_2 a10_3 a10_4) (fun (a11_0, a11_1, a11_2, a11_3) => (Option.bind (disk_Disk_Append_v2 K p2 p3 100000 a11_1 a10_2 a11_2 a11_3) (fun (a12_0, a12_1, a12_2, a12_3) => (if a12_0 ≠ 0 then some false else (Option.bind (disk_Disk_Sync_v2 K p2 100000 a12_1 a10_2 a12_2 a12_3) (fun (a13_0, a13_1, a13_2, a13_3) => (if a13_0 ≠ 0 then some false else (Option.bind (disk_Disk_Append_v2 K p2 p4 100000 a13_1 a10_2 a13_2 a13_3) (fun (a14_0, a14_1, a14_2, a14_3) => (if a14_0 ≠ 0 then some false else (Option.bind (disk_Disk_Crash_v2 K p5 100000 a14_1 a10_2 a14_2 a14_3) (fun (a15_0, a15_1, a15_2, a15_3, a15_4) => (Option.bind (disk_Disk_Read_v2 K p2 100000 a15_1 a15_2 a15_3 a15_4) (fun (a16_0, a16_1, a16_2) => (if (p3.map (fun b => b)).length + (p4.map (fun b => b)).length ≤ 9223372036854775807 then (Option.bind (((if p5 < (p4.length : Int) then (if (0 : Int) ≤ p5 ∧ p5 ≤ (p4.length : Int) then (if (p3.map (fun b => b)).length + ((slc p4 0 p5).map (fun b => b)).length ≤ 9223372036854775807 then some ((p3.map (fun b => b)) ++ ((slc p4 0 p5).map (fun b => b))) else none) else none) else some ((p3.map (fun b => b)) ++ (p4.map (fun b => b))))) : Option (List UInt8)) (fun xt21_48 => (Option.bind (disk_Disk_Crash_v2 K 0 100000 a15_1 a15_2 a15_3 a16_2) (fun (a17_0, a17_1, a17_2, a17_3, a17_4) => (Option.bind (disk_Disk_Read_v2 K p2 100000 a17_1 a17_2 a17_3 a17_4) (fun (a18_0, a18_1, a18_2) => (if a16_1 = 0 then (if a18_1 = 0 then (if (a16_0.map (fun b => b)) = xt21_48 then (Option.bind (workflowlaw50_equal K a16_0 a18_0) (fun a19 => (if a19 = true then (Option.bind (disk_Disk_Dead K 100000 a18_2 a17_1 a17_2 a17_3) (fun _ => (if a17_1 = true then some false else (Option.bind (workflowlaw50_lives K) (fun a21 => some a21))))) else some false))) else some false) else some false) else some false))))))) else none)))))))))))))))))))))))))
theorem workflowlaw50_DiskKeeps.body {Γ : Ent} {K : Nat} {p0 : List workflowlaw50_Step} {p1 : List workflowlaw50_Step} {p2 : List UInt8} {p3 : List UInt8} {p4 : List UInt8} {p5 : Int} {r : Bool} (h : workflowlaw50_DiskKeeps K p0 p1 p2 p3 p4 p5 = some r) : AWp V P 159 100 Γ (Try.f5.body.getD .skip) (EndsE P V Try.f5 (.B r) []) ⟨args0 0 [.cv (.ro .t_workflowlaw50_Step p0), .cv (.ro .t_workflowlaw50_Step p1), .cv (.str p2), .cv (.ro .t_uint8 p3), .cv (.ro .t_uint8 p4), .I p5], []⟩ := by
 unfold workflowlaw50_DiskKeeps at h
 refine sr0 L 200 [] [] [] (S' := ⟨[(0, .cv (.ro .t_workflowlaw50_Step p0)), (1, .cv (.ro .t_workflowlaw50_Step p1)), (2, .cv (.str p2)), (3, .cv (.ro .t_uint8 p3)), (4, .cv (.ro .t_uint8 p4)), (5, .I p5)], []⟩) ?_
 refine awp_seq ?_
 obtain ⟨o1, hp1, h⟩ := bind_some h
 refine awp_seq (awp_mono (Q' := fun e S => (e = .normal ∧ ∃ xt55_4 : Bool, S = ⟨[(0, .cv (.ro .t_workflowlaw50_Step p0)), (2, .cv (.str p2)), (3, .cv (.ro .t_uint8 p3)), (4, .cv (.ro .t_uint8 p4)), (5, .I p5), (55, .B xt55_4)], []⟩ ∧ xt55_4 = o1)) ?_ ?_)
 ·clear h
  replace h := hp1
  obtain ⟨a1, h1, h⟩ := bind_some h
  rcases ite_some h with ⟨c1, h⟩ | ⟨c1, h⟩
  ·obtain ⟨a2, h2, h⟩ := bind_some h
   rcases ite_some h with ⟨c2, h⟩ | ⟨c2, h⟩
   ·rcases ite_some h with ⟨c3, h⟩ | ⟨c3, h⟩
    ·refine ar L 202 [(3, false), (8, false), (13, true)] [(1, .B a1), (5, .B a2)] [] (cs := [PCall V P 17 [.cv (.ro .t_workflowlaw50_Step p0)] (.B a1), True, (!a1) = false, PCall V P 17 [.cv (.ro .t_workflowlaw50_Step p1)] (.B a2), True, (!a2) = false, (decide ((p3.length : Int) > 3000)) = true]) (S' := ⟨[(0, .cv (.ro .t_workflowlaw50_Step p0)), (2, .cv (.str p2)), (3, .cv (.ro .t_uint8 p3)), (4, .cv (.ro .t_uint8 p4)), (5, .I p5), (55, .B true)], []⟩) (And.intro (workflowlaw50_small.ok h1) (And.intro trivial (And.intro (congrArg Bool.not (c1)) (And.intro (workflowlaw50_small.ok h2) (And.intro trivial (And.intro (congrArg Bool.not (c2)) (decide_eq_true c3))))))) ?_
     obtain rfl := Option.some.inj h
     exact ⟨rfl, _, rfl, rfl⟩
    rcases ite_some h with ⟨c4, h⟩ | ⟨c4, h⟩
    ·refine ar L 202 [(3, false), (8, false), (13, false), (18, true)] [(1, .B a1), (5, .B a2)] [] (cs := [PCall V P 17 [.cv (.ro .t_workflowlaw50_Step p0)] (.B a1), True, (!a1) = false, PCall V P 17 [.cv (.ro .t_workflowlaw50_Step p1)] (.B a2), True, (!a2) = false, (decide ((p3.length : Int) > 3000)) = false, (decide ((p4.length : Int) > 3000)) = true]) (S' := ⟨[(0, .cv (.ro .t_workflowlaw50_Step p0)), (2, .cv (.str p2)), (3, .cv (.ro .t_uint8 p3)), (4, .cv (.ro .t_uint8 p4)), (5, .I p5), (55, .B true)], []⟩) (And.intro (workflowlaw50_small.ok h1) (And.intro trivial (And.intro (congrArg Bool.not (c1)) (And.intro (workflowlaw50_small.ok h2) (And.intro trivial (And.intro (congrArg Bool.not (c2)) (And.intro (decide_eq_false c3) (decide_eq_true c4)))))))) ?_
     obtain rfl := Option.some.inj h
     exact ⟨rfl, _, rfl, rfl⟩
    rcases ite_some h with ⟨c5, h⟩ | ⟨c5, h⟩
    ·refine ar L 202 [(3, false), (8, false), (13, false), (18, false), (22, true)] [(1, .B a1), (5, .B a2)] [] (cs := [PCall V P 17 [.cv (.ro .t_workflowlaw50_Step p0)] (.B a1), True, (!a1) = false, PCall V P 17 [.cv (.ro .t_workflowlaw50_Step p1)] (.B a2), True, (!a2) = false, (decide ((p3.length : Int) > 3000)) = false, (decide ((p4.length : Int) > 3000)) = false, (decide (p5 < 0)) = true]) (S' := ⟨[(0, .cv (.ro .t_workflowlaw50_Step p0)), (2, .cv (.str p2)), (3, .cv (.ro .t_uint8 p3)), (4, .cv (.ro .t_uint8 p4)), (5, .I p5), (55, .B true)], []⟩) (And.intro (workflowlaw50_small.ok h1) (And.intro trivial (And.intro (congrArg Bool.not (c1)) (And.intro (workflowlaw50_small.ok h2) (And.intro trivial (And.intro (congrArg Bool.not (c2)) (And.intro (decide_eq_false c3) (And.intro (decide_eq_false c4) (decide_eq_true c5))))))))) ?_
     obtain rfl := Option.some.inj h
     exact ⟨rfl, _, rfl, rfl⟩
    rcases ite_some h with ⟨c6, h⟩ | ⟨c6, h⟩
    ·refine ar L 202 [(3, false), (8, false), (13, false), (18, false), (22, false), (27, true)] [(1, .B a1), (5, .B a2)] [] (cs := [PCall V P 17 [.cv (.ro .t_workflowlaw50_Step p0)] (.B a1), True, (!a1) = false, PCall V P 17 [.cv (.ro .t_workflowlaw50_Step p1)] (.B a2), True, (!a2) = false, (decide ((p3.length : Int) > 3000)) = false, (decide ((p4.length : Int) > 3000)) = false, (decide (p5 < 0)) = false, (decide ((p2.length : Int) < 1)) = true]) (S' := ⟨[(0, .cv (.ro .t_workflowlaw50_Step p0)), (2, .cv (.str p2)), (3, .cv (.ro .t_uint8 p3)), (4, .cv (.ro .t_uint8 p4)), (5, .I p5), (55, .B true)], []⟩) (And.intro (workflowlaw50_small.ok h1) (And.intro trivial (And.intro (congrArg Bool.not (c1)) (And.intro (workflowlaw50_small.ok h2) (And.intro trivial (And.intro (congrArg Bool.not (c2)) (And.intro (decide_eq_false c3) (And.intro (decide_eq_false c4) (And.intro (decide_eq_false c5) (decide_eq_true c6)))))))))) ?_
     obtain rfl := Option.some.inj h
     exact ⟨rfl, _, rfl, rfl⟩
    refine ar L 202 [(3, false), (8, false), (13, false), (18, false), (22, false), (27, false)] [(1, .B a1), (5, .B a2)] [] (cs := [PCall V P 17 [.cv (.ro .t_workflowlaw50_Step p0)] (.B a1), True, (!a1) = false, PCall V P 17 [.cv (.ro .t_workflowlaw50_Step p1)] (.B a2), True, (!a2) = false, (decide ((p3.length : Int) > 3000)) = false, (decide ((p4.length : Int) > 3000)) = false, (decide (p5 < 0)) = false, (decide ((p2.length : Int) < 1)) = false]) (S' := ⟨[(0, .cv (.ro .t_workflowlaw50_Step p0)), (2, .cv (.str p2)), (3, .cv (.ro .t_uint8 p3)), (4, .cv (.ro .t_uint8 p4)), (5, .I p5), (55, .B (decide ((p2.length : Int) > 64)))], []⟩) (And.intro (workflowlaw50_small.ok h1) (And.intro trivial (And.intro (congrArg Bool.not (c1)) (And.intro (workflowlaw50_small.ok h2) (And.intro trivial (And.intro (congrArg Bool.not (c2)) (And.intro (decide_eq_false c3) (And.intro (decide_eq_false c4) (And.intro (decide_eq_false c5) (decide_eq_false c6)))))))))) ?_
    obtain rfl := Option.some.inj h
    exact ⟨rfl, _, rfl, rfl⟩
   refine ar L 202 [(3, false), (8, true)] [(1, .B a1), (5, .B a2)] [] (cs := [PCall V P 17 [.cv (.ro .t_workflowlaw50_Step p0)] (.B a1), True, (!a1) = false, PCall V P 17 [.cv (.ro .t_workflowlaw50_Step p1)] (.B a2), True, (!a2) = true]) (S' := ⟨[(0, .cv (.ro .t_workflowlaw50_Step p0)), (2, .cv (.str p2)), (3, .cv (.ro .t_uint8 p3)), (4, .cv (.ro .t_uint8 p4)), (5, .I p5), (55, .B true)], []⟩) (And.intro (workflowlaw50_small.ok h1) (And.intro trivial (And.intro (congrArg Bool.not (c1)) (And.intro (workflowlaw50_small.ok h2) (And.intro trivial (congrArg Bool.not (eq_false_of_ne_true c2))))))) ?_
   obtain rfl := Option.some.inj h
   exact ⟨rfl, _, rfl, rfl⟩
  refine ar L 202 [(3, true)] [(1, .B a1)] [] (cs := [PCall V P 17 [.cv (.ro .t_workflowlaw50_Step p0)] (.B a1), True, (!a1) = true]) (S' := ⟨[(0, .cv (.ro .t_workflowlaw50_Step p0)), (2, .cv (.str p2)), (3, .cv (.ro .t_uint8 p3)), (4, .cv (.ro .t_uint8 p4)), (5, .I p5), (55, .B true)], []⟩) (And.intro (workflowlaw50_small.ok h1) (And.intro trivial (congrArg Bool.not (eq_false_of_ne_true c1)))) ?_
  obtain rfl := Option.some.inj h
  exact ⟨rfl, _, rfl, rfl⟩
 ·rintro e S ⟨rfl, xt55_4, rfl, rfl⟩
  rcases ite_some h with ⟨c7, h⟩ | ⟨c7, h⟩
  ·refine tt (b := xt55_4) (c7) ?_
   refine awp_seq ?_
   obtain ⟨a3, h3, h⟩ := bind_some h
   refine ar L 235 [] [(0, .B a3)] [] (cs := [PCall V P 7 [] (.B a3), True]) (S' := ⟨[(12, .B a3)], []⟩) (And.intro (workflowlaw50_lives.ok h3) trivial) ?_
   refine awp_ret ?_
   obtain rfl := Option.some.inj h
   exact er (.B a3)
  refine ff (b := xt55_4) (eq_false_of_ne_true c7) ?_
  refine awp_skip' ?_
  refine awp_seq ?_
  obtain ⟨a4, h4, h⟩ := bind_some h
  rcases a4 with ⟨⟩ | a4
  ·dsimp only at h
   refine ar L 238 [] [] [(0, { hids := [], fx := [], r := .tup [.cv (.lit (.pointer none)), .I 2], H' := [], σ := [] })] (cs := [ECall V P 8 [.I 100000] [] [] (.tup [.cv (.lit (.pointer none)), .I 2]) []]) (S' := ⟨[(0, .cv (.ro .t_workflowlaw50_Step p0)), (2, .cv (.str p2)), (3, .cv (.ro .t_uint8 p3)), (4, .cv (.ro .t_uint8 p4)), (5, .I p5), (13, .cv (.lit (.pointer none)))], []⟩) (disk_New.okE h4) ?_
   refine awp_seq ?_
   refine sr0 L 245 [] [] [] (S' := ⟨[(0, .cv (.ro .t_workflowlaw50_Step p0)), (2, .cv (.str p2)), (3, .cv (.ro .t_uint8 p3)), (4, .cv (.ro .t_uint8 p4)), (5, .I p5), (13, .cv (.lit (.pointer none))), (15, .I 0)], []⟩) ?_
   refine awp_block ?_
   refine kp (S' := ⟨[(0, .cv (.ro .t_workflowlaw50_Step p0)), (2, .cv (.str p2)), (3, .cv (.ro .t_uint8 p3)), (4, .cv (.ro .t_uint8 p4)), (5, .I p5), (13, .cv (.lit (.pointer none))), (15, .I 0)], []⟩) ?_
   obtain ⟨o2, hp2, h⟩ := bind_some h
   refine awp_conseq (Q' := fun e S => (e = .exit 0 ∧ S = ⟨[(2, .cv (.str p2)), (3, .cv (.ro .t_uint8 p3)), (4, .cv (.ro .t_uint8 p4)), (5, .I p5), (13, .cv (.lit (.pointer none)))], []⟩ ∧ () = o2)) (awp_loop (fun k S => ∃ xt15_17h : Int, S = ⟨[(0, .cv (.ro .t_workflowlaw50_Step p0)), (2, .cv (.str p2)), (3, .cv (.ro .t_uint8 p3)), (4, .cv (.ro .t_uint8 p4)), (5, .I p5), (13, .cv (.lit (.pointer none))), (15, .I xt15_17h)], []⟩ ∧ workflowlaw50_DiskKeeps.l17 K p0 k xt15_17h = some o2) ?_ ⟨_, rfl, hp2⟩) ?_
   ·clear h hp2
    intro k S hS
    obtain ⟨xt15_17h, rfl, h⟩ := hS
    cases k with
    | zero => cases h
    | succ k =>
    unfold workflowlaw50_DiskKeeps.l17 at h
    refine awp_seq ?_
    refine sr0 L 247 [] [] [] (S' := ⟨[(0, .cv (.ro .t_workflowlaw50_Step p0)), (2, .cv (.str p2)), (3, .cv (.ro .t_uint8 p3)), (4, .cv (.ro .t_uint8 p4)), (5, .I p5), (13, .cv (.lit (.pointer none))), (15, .I xt15_17h), (64, .B (decide (xt15_17h < (p0.length : Int))))], []⟩) ?_
    rcases ite_some h with ⟨c8, h⟩ | ⟨c8, h⟩
    ·refine tt (b := (decide (xt15_17h < (p0.length : Int)))) (decide_eq_true c8) ?_
     refine awp_skip' ?_
     refine awp_seq ?_
     refine awp_block ?_
     refine awp_seq ?_
     obtain ⟨g1, h⟩ := guard_some h
     obtain ⟨a5, h5, h⟩ := bind_some h
     refine ar L 252 [] [(5, .tup [.cv (.lit (.pointer none)), .I a5, .cv (.ro .t_uint8 ([] : List UInt8))])] [] (cs := [(0 : Int) ≤ xt15_17h, (xt15_17h : Int) < (p0.length : Int), PCall V P 19 [.cv (.lit (.pointer none)), .agg (d_workflowlaw50_Step (p0.getD (Int.toNat xt15_17h) z_workflowlaw50_Step))] (.tup [.cv (.lit (.pointer none)), .I a5, .cv (.ro .t_uint8 ([] : List UInt8))]), True]) (S' := ⟨[(0, .cv (.ro .t_workflowlaw50_Step p0)), (2, .cv (.str p2)), (3, .cv (.ro .t_uint8 p3)), (4, .cv (.ro .t_uint8 p4)), (5, .I p5), (15, .I xt15_17h), (16, .cv (.lit (.pointer none)))], []⟩) (And.intro g1.1 (And.intro g1.2 (And.intro (workflowlaw50_does.ok h5) trivial))) ?_
     refine ar0 L 266 [] [] [] (S' := ⟨[(0, .cv (.ro .t_workflowlaw50_Step p0)), (2, .cv (.str p2)), (3, .cv (.ro .t_uint8 p3)), (4, .cv (.ro .t_uint8 p4)), (5, .I p5), (13, .cv (.lit (.pointer none))), (15, .I xt15_17h)], []⟩) ?_
     refine ar0 L 269 [] [] [] (S' := ⟨[(0, .cv (.ro .t_workflowlaw50_Step p0)), (2, .cv (.str p2)), (3, .cv (.ro .t_uint8 p3)), (4, .cv (.ro .t_uint8 p4)), (5, .I p5), (13, .cv (.lit (.pointer none))), (15, .I (IntKind.i64.wrap (xt15_17h + 1)))], []⟩) ?_
     exact ⟨k, Nat.lt_succ_self k, _, rfl, h⟩
    refine ff (b := (decide (xt15_17h < (p0.length : Int)))) (decide_eq_false c8) ?_
    refine ex (S' := ⟨[(2, .cv (.str p2)), (3, .cv (.ro .t_uint8 p3)), (4, .cv (.ro .t_uint8 p4)), (5, .I p5), (13, .cv (.lit (.pointer none)))], []⟩) ?_
    obtain rfl := Option.some.inj h
    exact ⟨rfl, rfl, rfl⟩
   ·rintro e S ⟨rfl, rfl, rfl⟩
    refine ⟨_, Turns.refl, ?_⟩
    refine awp_seq ?_
    obtain ⟨⟨⟩, h6, h⟩ := bind_some h
    refine ar L 273 [] [(1, .I 1)] [] (cs := [PCall V P 16 [.cv (.lit (.pointer none)), .I 0] (.I 1), True]) (S' := ⟨[(2, .cv (.str p2)), (3, .cv (.ro .t_uint8 p3)), (4, .cv (.ro .t_uint8 p4)), (5, .I p5), (13, .cv (.lit (.pointer none)))], []⟩) (And.intro (disk_Disk_Crash_v3.ok h6) trivial) ?_
    refine awp_seq ?_
    obtain ⟨⟨⟩, h7, h⟩ := bind_some h
    refine ar L 276 [] [(2, .I 1)] [] (cs := [PCall V P 23 [.cv (.lit (.pointer none)), .cv (.str p2)] (.I 1), True]) (S' := ⟨[(2, .cv (.str p2)), (3, .cv (.ro .t_uint8 p3)), (4, .cv (.ro .t_uint8 p4)), (5, .I p5), (13, .cv (.lit (.pointer none)))], []⟩) (And.intro (disk_Disk_Remove.ok h7) trivial) ?_
    refine awp_seq ?_
    refine awp_seq ?_
    obtain ⟨⟨⟩, h8, h⟩ := bind_some h
    refine ar L 280 [] [(3, .I 1)] [] (cs := [PCall V P 11 [.cv (.lit (.pointer none)), .cv (.str p2), .cv (.ro .t_uint8 p3)] (.I 1), True]) (S' := ⟨[(2, .cv (.str p2)), (3, .cv (.ro .t_uint8 p3)), (4, .cv (.ro .t_uint8 p4)), (5, .I p5), (13, .cv (.lit (.pointer none))), (100, .B true)], []⟩) (And.intro (disk_Disk_Append_v3.ok h8) trivial) ?_
    refine tt (b := true) (rfl) ?_
    refine sr0 L 299 [] [] [] (S' := ⟨[(12, .B false)], []⟩) ?_
    refine awp_ret ?_
    obtain rfl := Option.some.inj h
    exact er (.B false)
  ·obtain ⟨⟩ := a4
   dsimp only at h
   refine ar L 238 [] [] [(0, { hids := [], fx := [], r := .tup [.P 100, .I 0], H' := [(100, .raw [.B true, .I 100000, .mp 101, .B false, .B false, .I 0]), (101, .mpb .t_disk_file ([] : List (List UInt8 × disk_file)))], σ := [(100, 5304), (101, 5305)] })] (cs := [ECall V P 8 [.I 100000] [] [] (.tup [.P 100, .I 0]) [(100, .raw [.B true, .I 100000, .mp 101, .B false, .B false, .I 0]), (101, .mpb .t_disk_file ([] : List (List UInt8 × disk_file)))]]) (S' := ⟨[(0, .cv (.ro .t_workflowlaw50_Step p0)), (2, .cv (.str p2)), (3, .cv (.ro .t_uint8 p3)), (4, .cv (.ro .t_uint8 p4)), (5, .I p5), (13, .P 5304)], [(5304, .raw [.B true, .I 100000, .mp 5305, .B false, .B false, .I 0]), (5305, .mpb .t_disk_file ([] : List (List UInt8 × disk_file)))]⟩) (disk_New.okE h4) ?_
   refine awp_seq ?_
   refine sr0 L 245 [] [] [] (S' := ⟨[(0, .cv (.ro .t_workflowlaw50_Step p0)), (2, .cv (.str p2)), (3, .cv (.ro .t_uint8 p3)), (4, .cv (.ro .t_uint8 p4)), (5, .I p5), (13, .P 5304), (15, .I 0)], [(5304, .raw [.B true, .I 100000, .mp 5305, .B false, .B false, .I 0]), (5305, .mpb .t_disk_file ([] : List (List UInt8 × disk_file)))]⟩) ?_
   refine awp_block ?_
   refine awp_turn (Turns.trans (Turns.kp (S' := ⟨[(0, .cv (.ro .t_workflowlaw50_Step p0)), (2, .cv (.str p2)), (3, .cv (.ro .t_uint8 p3)), (4, .cv (.ro .t_uint8 p4)), (5, .I p5), (13, .P 5304), (15, .I 0)], [(5304, .raw [.B true, .I 100000, .mp 5305, .B false, .B false, .I 0]), (5305, .mpb .t_disk_file ([] : List (List UInt8 × disk_file)))]⟩)) (Turns.rn [(5304, 23500), (5305, 23501)] (S' := ⟨[(0, .cv (.ro .t_workflowlaw50_Step p0)), (2, .cv (.str p2)), (3, .cv (.ro .t_uint8 p3)), (4, .cv (.ro .t_uint8 p4)), (5, .I p5), (13, .P 23500), (15, .I 0)], [(23500, .raw [.B true, .I 100000, .mp 23501, .B false, .B false, .I 0]), (23501, .mpb .t_disk_file ([] : List (List UInt8 × disk_file)))]⟩))) ?_
   refine kp (S' := ⟨[(0, .cv (.ro .t_workflowlaw50_Step p0)), (2, .cv (.str p2)), (3, .cv (.ro .t_uint8 p3)), (4, .cv (.ro .t_uint8 p4)), (5, .I p5), (13, .P 23500), (15, .I 0)], [(23500, .raw [.B true, .I 100000, .mp 23501, .B false, .B false, .I 0]), (23501, .mpb .t_disk_file ([] : List (List UInt8 × disk_file)))]⟩) ?_
   obtain ⟨o3, hp3, h⟩ := bind_some h
   refine awp_conseq (Q' := fun e S => (e = .exit 0 ∧ ∃ x23400_3 : Bool, ∃ x23400_4 : Bool, ∃ x23400_5 : Int, ∃ x23401 : List (List UInt8 × disk_file), S = ⟨[(2, .cv (.str p2)), (3, .cv (.ro .t_uint8 p3)), (4, .cv (.ro .t_uint8 p4)), (5, .I p5), (13, .P 23400)], [(23400, .raw [.B true, .I 100000, .mp 23401, .B x23400_3, .B x23400_4, .I x23400_5]), (23401, .mpb .t_disk_file x23401)]⟩ ∧ (x23400_3, x23400_4, x23400_5, x23401) = o3)) (awp_loop (fun k S => ∃ xt15_17h : Int, ∃ x23500_3 : Bool, ∃ x23500_4 : Bool, ∃ x23500_5 : Int, ∃ x23501 : List (List UInt8 × disk_file), S = ⟨[(0, .cv (.ro .t_workflowlaw50_Step p0)), (2, .cv (.str p2)), (3, .cv (.ro .t_uint8 p3)), (4, .cv (.ro .t_uint8 p4)), (5, .I p5), (13, .P 23500), (15, .I xt15_17h)], [(23500, .raw [.B true, .I 100000, .mp 23501, .B x23500_3, .B x23500_4, .I x23500_5]), (23501, .mpb .t_disk_file x23501)]⟩ ∧ workflowlaw50_DiskKeeps.l17_2 K p0 k xt15_17h x23500_3 x23500_4 x23500_5 x23501 = some o3) ?_ ⟨_, _, _, _, _, rfl, hp3⟩) ?_
   ·clear h hp3
    intro k S hS
    obtain ⟨xt15_17h, x23500_3, x23500_4, x23500_5, x23501, rfl, h⟩ := hS
    cases k with
    | zero => cases h
    | succ k =>
    unfold workflowlaw50_DiskKeeps.l17_2 at h
    refine awp_seq ?_
    refine sr0 L 247 [] [] [] (S' := ⟨[(0, .cv (.ro .t_workflowlaw50_Step p0)), (2, .cv (.str p2)), (3, .cv (.ro .t_uint8 p3)), (4, .cv (.ro .t_uint8 p4)), (5, .I p5), (13, .P 23500), (15, .I xt15_17h), (64, .B (decide (xt15_17h < (p0.length : Int))))], [(23500, .raw [.B true, .I 100000, .mp 23501, .B x23500_3, .B x23500_4, .I x23500_5]), (23501, .mpb .t_disk_file x23501)]⟩) ?_
    rcases ite_some h with ⟨c9, h⟩ | ⟨c9, h⟩
    ·refine tt (b := (decide (xt15_17h < (p0.length : Int)))) (decide_eq_true c9) ?_
     refine awp_skip' ?_
     refine awp_seq ?_
     refine awp_block ?_
     refine awp_seq ?_
     obtain ⟨g2, h⟩ := guard_some h
     obtain ⟨a9, h9, h⟩ := bind_some h
     rcases a9 with ⟨a9_0, a9_1, a9_2, a9_3, a9_4, a9_5⟩ | a9
     ·dsimp only at h
      refine ar L 252 [] [] [(5, { hids := [0, 1], fx := [0, 1], r := .tup [.P 0, .I a9_0, .cv (.ro .t_uint8 a9_1)], H' := [(0, .raw [.B true, .I 100000, .mp 1, .B a9_2, .B a9_3, .I a9_4]), (1, .mpb .t_disk_file a9_5)], σ := [(0, 23500), (1, 23501)] })] (cs := [(0 : Int) ≤ xt15_17h, (xt15_17h : Int) < (p0.length : Int), ECall V P 19 [.P 0, .agg (d_workflowlaw50_Step (p0.getD (Int.toNat xt15_17h) z_workflowlaw50_Step))] [(0, .raw [.B true, .I 100000, .mp 1, .B x23500_3, .B x23500_4, .I x23500_5]), (1, .mpb .t_disk_file x23501)] [0, 1] (.tup [.P 0, .I a9_0, .cv (.ro .t_uint8 a9_1)]) [(0, .raw [.B true, .I 100000, .mp 1, .B a9_2, .B a9_3, .I a9_4]), (1, .mpb .t_disk_file a9_5)]]) (S' := ⟨[(0, .cv (.ro .t_workflowlaw50_Step p0)), (2, .cv (.str p2)), (3, .cv (.ro .t_uint8 p3)), (4, .cv (.ro .t_uint8 p4)), (5, .I p5), (15, .I xt15_17h), (16, .P 23500)], [(23500, .raw [.B true, .I 100000, .mp 23501, .B a9_2, .B a9_3, .I a9_4]), (23501, .mpb .t_disk_file a9_5)]⟩) (And.intro g2.1 (And.intro g2.2 (workflowlaw50_does_v3.okE h9))) ?_
      refine ar0 L 266 [] [] [] (S' := ⟨[(0, .cv (.ro .t_workflowlaw50_Step p0)), (2, .cv (.str p2)), (3, .cv (.ro .t_uint8 p3)), (4, .cv (.ro .t_uint8 p4)), (5, .I p5), (13, .P 23500), (15, .I xt15_17h)], [(23500, .raw [.B true, .I 100000, .mp 23501, .B a9_2, .B a9_3, .I a9_4]), (23501, .mpb .t_disk_file a9_5)]⟩) ?_
      refine ar0 L 269 [] [] [] (S' := ⟨[(0, .cv (.ro .t_workflowlaw50_Step p0)), (2, .cv (.str p2)), (3, .cv (.ro .t_uint8 p3)), (4, .cv (.ro .t_uint8 p4)), (5, .I p5), (13, .P 23500), (15, .I (IntKind.i64.wrap (xt15_17h + 1)))], [(23500, .raw [.B true, .I 100000, .mp 23501, .B a9_2, .B a9_3, .I a9_4]), (23501, .mpb .t_disk_file a9_5)]⟩) ?_
      exact ⟨k, Nat.lt_succ_self k, _, _, _, _, _, rfl, h⟩
     ·obtain ⟨a9_0, a9_1⟩ := a9
      dsimp only at h
      refine ar L 252 [] [] [(5, { hids := [0, 1], fx := [0, 1], r := .tup [.P 100, .I 0, .cv (.ro .t_uint8 ([] : List UInt8))], H' := [(0, .raw [.B true, .I 100000, .mp 1, .B x23500_3, .B x23500_4, .I x23500_5]), (1, .mpb .t_disk_file a9_0), (100, .raw [.B true, .I 100000, .mp 101, .B x23500_3, .B x23500_4, .I x23500_5]), (101, .mpb .t_disk_file a9_1)], σ := [(0, 23500), (1, 23501), (100, 5456), (101, 5457)] })] (cs := [(0 : Int) ≤ xt15_17h, (xt15_17h : Int) < (p0.length : Int), ECall V P 19 [.P 0, .agg (d_workflowlaw50_Step (p0.getD (Int.toNat xt15_17h) z_workflowlaw50_Step))] [(0, .raw [.B true, .I 100000, .mp 1, .B x23500_3, .B x23500_4, .I x23500_5]), (1, .mpb .t_disk_file x23501)] [0, 1] (.tup [.P 100, .I 0, .cv (.ro .t_uint8 ([] : List UInt8))]) [(0, .raw [.B true, .I 100000, .mp 1, .B x23500_3, .B x23500_4, .I x23500_5]), (1, .mpb .t_disk_file a9_0), (100, .raw [.B true, .I 100000, .mp 101, .B x23500_3, .B x23500_4, .I x23500_5]), (101, .mpb .t_disk_file a9_1)]]) (S' := ⟨[(0, .cv (.ro .t_workflowlaw50_Step p0)), (2, .cv (.str p2)), (3, .cv (.ro .t_uint8 p3)), (4, .cv (.ro .t_uint8 p4)), (5, .I p5), (15, .I xt15_17h), (16, .P 5456)], [(5456, .raw [.B true, .I 100000, .mp 5457, .B x23500_3, .B x23500_4, .I x23500_5]), (5457, .mpb .t_disk_file a9_1)]⟩) (And.intro g2.1 (And.intro g2.2 (workflowlaw50_does_v3.okE h9))) ?_
      refine ar0 L 266 [] [] [] (S' := ⟨[(0, .cv (.ro .t_workflowlaw50_Step p0)), (2, .cv (.str p2)), (3, .cv (.ro .t_uint8 p3)), (4, .cv (.ro .t_uint8 p4)), (5, .I p5), (13, .P 5456), (15, .I xt15_17h)], [(5456, .raw [.B true, .I 100000, .mp 5457, .B x23500_3, .B x23500_4, .I x23500_5]), (5457, .mpb .t_disk_file a9_1)]⟩) ?_
      refine awp_post (ar0 L 269 [] [] [] (S' := ⟨[(0, .cv (.ro .t_workflowlaw50_Step p0)), (2, .cv (.str p2)), (3, .cv (.ro .t_uint8 p3)), (4, .cv (.ro .t_uint8 p4)), (5, .I p5), (13, .P 5456), (15, .I (IntKind.i64.wrap (xt15_17h + 1)))], [(5456, .raw [.B true, .I 100000, .mp 5457, .B x23500_3, .B x23500_4, .I x23500_5]), (5457, .mpb .t_disk_file a9_1)]⟩) ⟨rfl, rfl⟩) (Turns.trans (Turns.kp (S' := ⟨[(0, .cv (.ro .t_workflowlaw50_Step p0)), (2, .cv (.str p2)), (3, .cv (.ro .t_uint8 p3)), (4, .cv (.ro .t_uint8 p4)), (5, .I p5), (13, .P 5456), (15, .I (IntKind.i64.wrap (xt15_17h + 1)))], [(5456, .raw [.B true, .I 100000, .mp 5457, .B x23500_3, .B x23500_4, .I x23500_5]), (5457, .mpb .t_disk_file a9_1)]⟩)) (Turns.trans (Turns.rn [(5456, 23500), (5457, 23501)] (S' := ⟨[(0, .cv (.ro .t_workflowlaw50_Step p0)), (2, .cv (.str p2)), (3, .cv (.ro .t_uint8 p3)), (4, .cv (.ro .t_uint8 p4)), (5, .I p5), (13, .P 23500), (15, .I (IntKind.i64.wrap (xt15_17h + 1)))], [(23500, .raw [.B true, .I 100000, .mp 23501, .B x23500_3, .B x23500_4, .I x23500_5]), (23501, .mpb .t_disk_file a9_1)]⟩)) (Turns.kp (S' := ⟨[(0, .cv (.ro .t_workflowlaw50_Step p0)), (2, .cv (.str p2)), (3, .cv (.ro .t_uint8 p3)), (4, .cv (.ro .t_uint8 p4)), (5, .I p5), (13, .P 23500), (15, .I (IntKind.i64.wrap (xt15_17h + 1)))], [(23500, .raw [.B true, .I 100000, .mp 23501, .B x23500_3, .B x23500_4, .I x23500_5]), (23501, .mpb .t_disk_file a9_1)]⟩)))) ?_
      exact ⟨k, Nat.lt_succ_self k, _, _, _, _, _, rfl, h⟩
    refine ff (b := (decide (xt15_17h < (p0.length : Int)))) (decide_eq_false c9) ?_
    refine awp_turn (Turns.trans (Turns.kp (S' := ⟨[(2, .cv (.str p2)), (3, .cv (.ro .t_uint8 p3)), (4, .cv (.ro .t_uint8 p4)), (5, .I p5), (13, .P 23500)], [(23500, .raw [.B true, .I 100000, .mp 23501, .B x23500_3, .B x23500_4, .I x23500_5]), (23501, .mpb .t_disk_file x23501)]⟩)) (Turns.rn [(23500, 23400), (23501, 23401)] (S' := ⟨[(2, .cv (.str p2)), (3, .cv (.ro .t_uint8 p3)), (4, .cv (.ro .t_uint8 p4)), (5, .I p5), (13, .P 23400)], [(23400, .raw [.B true, .I 100000, .mp 23401, .B x23500_3, .B x23500_4, .I x23500_5]), (23401, .mpb .t_disk_file x23501)]⟩))) ?_
    refine ex (S' := ⟨[(2, .cv (.str p2)), (3, .cv (.ro .t_uint8 p3)), (4, .cv (.ro .t_uint8 p4)), (5, .I p5), (13, .P 23400)], [(23400, .raw [.B true, .I 100000, .mp 23401, .B x23500_3, .B x23500_4, .I x23500_5]), (23401, .mpb .t_disk_file x23501)]⟩) ?_
    obtain rfl := Option.some.inj h
    exact ⟨rfl, _, _, _, _, rfl, rfl⟩
   ·rintro e S ⟨rfl, x23400_3, x23400_4, x23400_5, x23401, rfl, rfl⟩
    dsimp only at h
    refine ⟨_, Turns.refl, ?_⟩
    refine awp_seq ?_
    obtain ⟨⟨a10_0, a10_1, a10_2, a10_3, a10_4⟩, h10, h⟩ := bind_some h
    dsimp only at h
    refine ar L 273 [] [] [(1, { hids := [0, 1], fx := [0, 1], r := .I a10_0, H' := [(0, .raw [.B true, .I 100000, .mp 1, .B a10_1, .B a10_2, .I a10_3]), (1, .mpb .t_disk_file a10_4)], σ := [(0, 23400), (1, 23401)] })] (cs := [ECall V P 16 [.P 0, .I 0] [(0, .raw [.B true, .I 100000, .mp 1, .B x23400_3, .B x23400_4, .I x23400_5]), (1, .mpb .t_disk_file x23401)] [0, 1] (.I a10_0) [(0, .raw [.B true, .I 100000, .mp 1, .B a10_1, .B a10_2, .I a10_3]), (1, .mpb .t_disk_file a10_4)]]) (S' := ⟨[(2, .cv (.str p2)), (3, .cv (.ro .t_uint8 p3)), (4, .cv (.ro .t_uint8 p4)), (5, .I p5), (13, .P 23400)], [(23400, .raw [.B true, .I 100000, .mp 23401, .B a10_1, .B a10_2, .I a10_3]), (23401, .mpb .t_disk_file a10_4)]⟩) (disk_Disk_Crash_v2.okE h10) ?_
    refine awp_seq ?_
    obtain ⟨⟨a11_0, a11_1, a11_2, a11_3⟩, h11, h⟩ := bind_some h
    dsimp only at h
    refine ar L 276 [] [] [(2, { hids := [0, 1], fx := [0, 1], r := .I a11_0, H' := [(0, .raw [.B true, .I 100000, .mp 1, .B a11_1, .B a10_2, .I a11_2]), (1, .mpb .t_disk_file a11_3)], σ := [(0, 23400), (1, 23401)] })] (cs := [ECall V P 23 [.P 0, .cv (.str p2)] [(0, .raw [.B true, .I 100000, .mp 1, .B a10_1, .B a10_2, .I a10_3]), (1, .mpb .t_disk_file a10_4)] [0, 1] (.I a11_0) [(0, .raw [.B true, .I 100000, .mp 1, .B a11_1, .B a10_2, .I a11_2]), (1, .mpb .t_disk_file a11_3)]]) (S' := ⟨[(2, .cv (.str p2)), (3, .cv (.ro .t_uint8 p3)), (4, .cv (.ro .t_uint8 p4)), (5, .I p5), (13, .P 23400)], [(23400, .raw [.B true, .I 100000, .mp 23401, .B a11_1, .B a10_2, .I a11_2]), (23401, .mpb .t_disk_file a11_3)]⟩) (disk_Disk_Remove_v3.okE h11) ?_
    refine awp_seq ?_
    refine awp_seq ?_
    obtain ⟨⟨a12_0, a12_1, a12_2, a12_3⟩, h12, h⟩ := bind_some h
    dsimp only at h
    rcases ite_some h with ⟨c10, h⟩ | ⟨c10, h⟩
    ·refine ar L 280 [(5, true)] [] [(3, { hids := [0, 1], fx := [0, 1], r := .I a12_0, H' := [(0, .raw [.B true, .I 100000, .mp 1, .B a12_1, .B a10_2, .I a12_2]), (1, .mpb .t_disk_file a12_3)], σ := [(0, 23400), (1, 23401)] })] (cs := [ECall V P 11 [.P 0, .cv (.str p2), .cv (.ro .t_uint8 p3)] [(0, .raw [.B true, .I 100000, .mp 1, .B a11_1, .B a10_2, .I a11_2]), (1, .mpb .t_disk_file a11_3)] [0, 1] (.I a12_0) [(0, .raw [.B true, .I 100000, .mp 1, .B a12_1, .B a10_2, .I a12_2]), (1, .mpb .t_disk_file a12_3)], (decide (a12_0 ≠ 0)) = true]) (S' := ⟨[(2, .cv (.str p2)), (3, .cv (.ro .t_uint8 p3)), (4, .cv (.ro .t_uint8 p4)), (5, .I p5), (13, .P 23400), (100, .B true)], [(23400, .raw [.B true, .I 100000, .mp 23401, .B a12_1, .B a10_2, .I a12_2]), (23401, .mpb .t_disk_file a12_3)]⟩) (And.intro (disk_Disk_Append_v2.okE h12) (decide_eq_true c10)) ?_
     refine tt (b := true) (rfl) ?_
     refine sr0 L 299 [] [] [] (S' := ⟨[(12, .B false)], []⟩) ?_
     refine awp_ret ?_
     obtain rfl := Option.some.inj h
     exact er (.B false)
    obtain ⟨⟨a13_0, a13_1, a13_2, a13_3⟩, h13, h⟩ := bind_some h
    dsimp only at h
    rcases ite_some h with ⟨c11, h⟩ | ⟨c11, h⟩
    ·refine ar L 280 [(5, false), (11, true)] [] [(3, { hids := [0, 1], fx := [0, 1], r := .I a12_0, H' := [(0, .raw [.B true, .I 100000, .mp 1, .B a12_1, .B a10_2, .I a12_2]), (1, .mpb .t_disk_file a12_3)], σ := [(0, 23400), (1, 23401)] }), (8, { hids := [0, 1], fx := [0, 1], r := .I a13_0, H' := [(0, .raw [.B true, .I 100000, .mp 1, .B a13_1, .B a10_2, .I a13_2]), (1, .mpb .t_disk_file a13_3)], σ := [(0, 23400), (1, 23401)] })] (cs := [ECall V P 11 [.P 0, .cv (.str p2), .cv (.ro .t_uint8 p3)] [(0, .raw [.B true, .I 100000, .mp 1, .B a11_1, .B a10_2, .I a11_2]), (1, .mpb .t_disk_file a11_3)] [0, 1] (.I a12_0) [(0, .raw [.B true, .I 100000, .mp 1, .B a12_1, .B a10_2, .I a12_2]), (1, .mpb .t_disk_file a12_3)], (decide (a12_0 ≠ 0)) = false, ECall V P 13 [.P 0, .cv (.str p2)] [(0, .raw [.B true, .I 100000, .mp 1, .B a12_1, .B a10_2, .I a12_2]), (1, .mpb .t_disk_file a12_3)] [0, 1] (.I a13_0) [(0, .raw [.B true, .I 100000, .mp 1, .B a13_1, .B a10_2, .I a13_2]), (1, .mpb .t_disk_file a13_3)], (decide (a13_0 ≠ 0)) = true]) (S' := ⟨[(2, .cv (.str p2)), (3, .cv (.ro .t_uint8 p3)), (4, .cv (.ro .t_uint8 p4)), (5, .I p5), (13, .P 23400), (100, .B true)], [(23400, .raw [.B true, .I 100000, .mp 23401, .B a13_1, .B a10_2, .I a13_2]), (23401, .mpb .t_disk_file a13_3)]⟩) (And.intro (disk_Disk_Append_v2.okE h12) (And.intro (decide_eq_false c10) (And.intro (disk_Disk_Sync_v2.okE h13) (decide_eq_true c11)))) ?_
     refine tt (b := true) (rfl) ?_
     refine sr0 L 299 [] [] [] (S' := ⟨[(12, .B false)], []⟩) ?_
     refine awp_ret ?_
     obtain rfl := Option.some.inj h
     exact er (.B false)
    obtain ⟨⟨a14_0, a14_1, a14_2, a14_3⟩, h14, h⟩ := bind_some h
    dsimp only at h
    refine ar L 280 [(5, false), (11, false)] [] [(3, { hids := [0, 1], fx := [0, 1], r := .I a12_0, H' := [(0, .raw [.B true, .I 100000, .mp 1, .B a12_1, .B a10_2, .I a12_2]), (1, .mpb .t_disk_file a12_3)], σ := [(0, 23400), (1, 23401)] }), (8, { hids := [0, 1], fx := [0, 1], r := .I a13_0, H' := [(0, .raw [.B true, .I 100000, .mp 1, .B a13_1, .B a10_2, .I a13_2]), (1, .mpb .t_disk_file a13_3)], σ := [(0, 23400), (1, 23401)] }), (15, { hids := [0, 1], fx := [0, 1], r := .I a14_0, H' := [(0, .raw [.B true, .I 100000, .mp 1, .B a14_1, .B a10_2, .I a14_2]), (1, .mpb .t_disk_file a14_3)], σ := [(0, 23400), (1, 23401)] })] (cs := [ECall V P 11 [.P 0, .cv (.str p2), .cv (.ro .t_uint8 p3)] [(0, .raw [.B true, .I 100000, .mp 1, .B a11_1, .B a10_2, .I a11_2]), (1, .mpb .t_disk_file a11_3)] [0, 1] (.I a12_0) [(0, .raw [.B true, .I 100000, .mp 1, .B a12_1, .B a10_2, .I a12_2]), (1, .mpb .t_disk_file a12_3)], (decide (a12_0 ≠ 0)) = false, ECall V P 13 [.P 0, .cv (.str p2)] [(0, .raw [.B true, .I 100000, .mp 1, .B a12_1, .B a10_2, .I a12_2]), (1, .mpb .t_disk_file a12_3)] [0, 1] (.I a13_0) [(0, .raw [.B true, .I 100000, .mp 1, .B a13_1, .B a10_2, .I a13_2]), (1, .mpb .t_disk_file a13_3)], (decide (a13_0 ≠ 0)) = false, ECall V P 11 [.P 0, .cv (.str p2), .cv (.ro .t_uint8 p4)] [(0, .raw [.B true, .I 100000, .mp 1, .B a13_1, .B a10_2, .I a13_2]), (1, .mpb .t_disk_file a13_3)] [0, 1] (.I a14_0) [(0, .raw [.B true, .I 100000, .mp 1, .B a14_1, .B a10_2, .I a14_2]), (1, .mpb .t_disk_file a14_3)]]) (S' := ⟨[(2, .cv (.str p2)), (3, .cv (.ro .t_uint8 p3)), (4, .cv (.ro .t_uint8 p4)), (5, .I p5), (13, .P 23400), (100, .B (decide (a14_0 ≠ 0)))], [(23400, .raw [.B true, .I 100000, .mp 23401, .B a14_1, .B a10_2, .I a14_2]), (23401, .mpb .t_disk_file a14_3)]⟩) (And.intro (disk_Disk_Append_v2.okE h12) (And.intro (decide_eq_false c10) (And.intro (disk_Disk_Sync_v2.okE h13) (And.intro (decide_eq_false c11) (disk_Disk_Append_v2.okE h14))))) ?_
    rcases ite_some h with ⟨c12, h⟩ | ⟨c12, h⟩
    ·refine tt (b := (decide (a14_0 ≠ 0))) (decide_eq_true c12) ?_
     refine sr0 L 299 [] [] [] (S' := ⟨[(12, .B false)], []⟩) ?_
     refine awp_ret ?_
     obtain rfl := Option.some.inj h
     exact er (.B false)
    refine ff (b := (decide (a14_0 ≠ 0))) (decide_eq_false c12) ?_
    refine awp_skip' ?_
    refine awp_seq ?_
    obtain ⟨⟨a15_0, a15_1, a15_2, a15_3, a15_4⟩, h15, h⟩ := bind_some h
    dsimp only at h
    refine ar L 301 [] [] [(2, { hids := [0, 1], fx := [0, 1], r := .I a15_0, H' := [(0, .raw [.B true, .I 100000, .mp 1, .B a15_1, .B a15_2, .I a15_3]), (1, .mpb .t_disk_file a15_4)], σ := [(0, 23400), (1, 23401)] })] (cs := [ECall V P 16 [.P 0, .I p5] [(0, .raw [.B true, .I 100000, .mp 1, .B a14_1, .B a10_2, .I a14_2]), (1, .mpb .t_disk_file a14_3)] [0, 1] (.I a15_0) [(0, .raw [.B true, .I 100000, .mp 1, .B a15_1, .B a15_2, .I a15_3]), (1, .mpb .t_disk_file a15_4)]]) (S' := ⟨[(2, .cv (.str p2)), (3, .cv (.ro .t_uint8 p3)), (4, .cv (.ro .t_uint8 p4)), (5, .I p5), (13, .P 23400)], [(23400, .raw [.B true, .I 100000, .mp 23401, .B a15_1, .B a15_2, .I a15_3]), (23401, .mpb .t_disk_file a15_4)]⟩) (disk_Disk_Crash_v2.okE h15) ?_
    refine awp_seq ?_
    obtain ⟨⟨a16_0, a16_1, a16_2⟩, h16, h⟩ := bind_some h
    dsimp only at h
    refine ar L 305 [] [] [(2, { hids := [0, 1], fx := [0, 1], r := .tup [.cv (.ro .t_uint8 a16_0), .I a16_1], H' := [(0, .raw [.B true, .I 100000, .mp 1, .B a15_1, .B a15_2, .I a15_3]), (1, .mpb .t_disk_file a16_2)], σ := [(0, 23400), (1, 23401)] })] (cs := [ECall V P 15 [.P 0, .cv (.str p2)] [(0, .raw [.B true, .I 100000, .mp 1, .B a15_1, .B a15_2, .I a15_3]), (1, .mpb .t_disk_file a15_4)] [0, 1] (.tup [.cv (.ro .t_uint8 a16_0), .I a16_1]) [(0, .raw [.B true, .I 100000, .mp 1, .B a15_1, .B a15_2, .I a15_3]), (1, .mpb .t_disk_file a16_2)]]) (S' := ⟨[(2, .cv (.str p2)), (3, .cv (.ro .t_uint8 p3)), (4, .cv (.ro .t_uint8 p4)), (5, .I p5), (13, .P 23400), (19, .cv (.ro .t_uint8 a16_0)), (20, .I a16_1)], [(23400, .raw [.B true, .I 100000, .mp 23401, .B a15_1, .B a15_2, .I a15_3]), (23401, .mpb .t_disk_file a16_2)]⟩) (disk_Disk_Read_v2.okE h16) ?_
    refine awp_seq ?_
    obtain ⟨g3, h⟩ := guard_some h
    refine ar L 314 [] [] [] (cs := [(p3.map (fun b => b)).length + (p4.map (fun b => b)).length ≤ 9223372036854775807]) (S' := ⟨[(2, .cv (.str p2)), (3, .cv (.ro .t_uint8 p3)), (4, .cv (.ro .t_uint8 p4)), (5, .I p5), (13, .P 23400), (19, .cv (.ro .t_uint8 a16_0)), (20, .I a16_1), (21, .cv (.str ((p3.map (fun b => b)) ++ (p4.map (fun b => b)))))], [(23400, .raw [.B true, .I 100000, .mp 23401, .B a15_1, .B a15_2, .I a15_3]), (23401, .mpb .t_disk_file a16_2)]⟩) g3 ?_
    obtain ⟨o4, hp4, h⟩ := bind_some h
    refine awp_seq (awp_mono (Q' := fun e S => (e = .normal ∧ ∃ xt21_48 : List UInt8, S = ⟨[(2, .cv (.str p2)), (13, .P 29600), (19, .cv (.ro .t_uint8 a16_0)), (20, .I a16_1), (21, .cv (.str xt21_48))], [(29600, .raw [.B true, .I 100000, .mp 29601, .B a15_1, .B a15_2, .I a15_3]), (29601, .mpb .t_disk_file a16_2)]⟩ ∧ xt21_48 = o4)) ?_ ?_)
    ·clear h
     replace h := hp4
     refine sr0 L 321 [] [] [] (S' := ⟨[(2, .cv (.str p2)), (3, .cv (.ro .t_uint8 p3)), (4, .cv (.ro .t_uint8 p4)), (5, .I p5), (13, .P 23400), (19, .cv (.ro .t_uint8 a16_0)), (20, .I a16_1), (21, .cv (.str ((p3.map (fun b => b)) ++ (p4.map (fun b => b))))), (118, .B (decide (p5 < (p4.length : Int))))], [(23400, .raw [.B true, .I 100000, .mp 23401, .B a15_1, .B a15_2, .I a15_3]), (23401, .mpb .t_disk_file a16_2)]⟩) ?_
     rcases ite_some h with ⟨c13, h⟩ | ⟨c13, h⟩
     ·refine tt (b := (decide (p5 < (p4.length : Int)))) (decide_eq_true c13) ?_
      obtain ⟨g4, h⟩ := guard_some h
      obtain ⟨g5, h⟩ := guard_some h
      refine awp_post (ad L mixed 326 [] [] [] [] 8 (cs := [(0 : Int) ≤ 0, (0 : Int) ≤ p5, p5 ≤ (p4.length : Int), (p3.map (fun b => b)).length + ((slc p4 0 p5).map (fun b => b)).length ≤ 9223372036854775807]) (S' := ⟨[(2, .cv (.str p2)), (13, .P 23400), (19, .cv (.ro .t_uint8 a16_0)), (20, .I a16_1), (21, .cv (.str ((p3.map (fun b => b)) ++ ((slc p4 0 p5).map (fun b => b)))))], [(23400, .raw [.B true, .I 100000, .mp 23401, .B a15_1, .B a15_2, .I a15_3]), (23401, .mpb .t_disk_file a16_2)]⟩) (And.intro (Int.le_refl _) (And.intro g4.1 (And.intro g4.2 g5))) ⟨rfl, rfl⟩) (Turns.trans (Turns.kp (S' := ⟨[(2, .cv (.str p2)), (13, .P 23400), (19, .cv (.ro .t_uint8 a16_0)), (20, .I a16_1), (21, .cv (.str ((p3.map (fun b => b)) ++ ((slc p4 0 p5).map (fun b => b)))))], [(23400, .raw [.B true, .I 100000, .mp 23401, .B a15_1, .B a15_2, .I a15_3]), (23401, .mpb .t_disk_file a16_2)]⟩)) (Turns.trans (Turns.rn [(23400, 29600), (23401, 29601)] (S' := ⟨[(2, .cv (.str p2)), (13, .P 29600), (19, .cv (.ro .t_uint8 a16_0)), (20, .I a16_1), (21, .cv (.str ((p3.map (fun b => b)) ++ ((slc p4 0 p5).map (fun b => b)))))], [(29600, .raw [.B true, .I 100000, .mp 29601, .B a15_1, .B a15_2, .I a15_3]), (29601, .mpb .t_disk_file a16_2)]⟩)) (Turns.kp (S' := ⟨[(2, .cv (.str p2)), (13, .P 29600), (19, .cv (.ro .t_uint8 a16_0)), (20, .I a16_1), (21, .cv (.str ((p3.map (fun b => b)) ++ ((slc p4 0 p5).map (fun b => b)))))], [(29600, .raw [.B true, .I 100000, .mp 29601, .B a15_1, .B a15_2, .I a15_3]), (29601, .mpb .t_disk_file a16_2)]⟩)))) ?_
      obtain rfl := Option.some.inj h
      exact ⟨rfl, _, rfl, rfl⟩
     refine ff (b := (decide (p5 < (p4.length : Int)))) (decide_eq_false c13) ?_
     refine awp_turn (Turns.trans (Turns.kp (S' := ⟨[(2, .cv (.str p2)), (13, .P 23400), (19, .cv (.ro .t_uint8 a16_0)), (20, .I a16_1), (21, .cv (.str ((p3.map (fun b => b)) ++ (p4.map (fun b => b)))))], [(23400, .raw [.B true, .I 100000, .mp 23401, .B a15_1, .B a15_2, .I a15_3]), (23401, .mpb .t_disk_file a16_2)]⟩)) (Turns.rn [(23400, 29600), (23401, 29601)] (S' := ⟨[(2, .cv (.str p2)), (13, .P 29600), (19, .cv (.ro .t_uint8 a16_0)), (20, .I a16_1), (21, .cv (.str ((p3.map (fun b => b)) ++ (p4.map (fun b => b)))))], [(29600, .raw [.B true, .I 100000, .mp 29601, .B a15_1, .B a15_2, .I a15_3]), (29601, .mpb .t_disk_file a16_2)]⟩))) ?_
     refine sk (S' := ⟨[(2, .cv (.str p2)), (13, .P 29600), (19, .cv (.ro .t_uint8 a16_0)), (20, .I a16_1), (21, .cv (.str ((p3.map (fun b => b)) ++ (p4.map (fun b => b)))))], [(29600, .raw [.B true, .I 100000, .mp 29601, .B a15_1, .B a15_2, .I a15_3]), (29601, .mpb .t_disk_file a16_2)]⟩) ?_
     obtain rfl := Option.some.inj h
     exact ⟨rfl, _, rfl, rfl⟩
    ·rintro e S ⟨rfl, xt21_48, rfl, rfl⟩
     refine awp_seq ?_
     obtain ⟨⟨a17_0, a17_1, a17_2, a17_3, a17_4⟩, h17, h⟩ := bind_some h
     dsimp only at h
     refine ar L 335 [] [] [(1, { hids := [0, 1], fx := [0, 1], r := .I a17_0, H' := [(0, .raw [.B true, .I 100000, .mp 1, .B a17_1, .B a17_2, .I a17_3]), (1, .mpb .t_disk_file a17_4)], σ := [(0, 29600), (1, 29601)] })] (cs := [ECall V P 16 [.P 0, .I 0] [(0, .raw [.B true, .I 100000, .mp 1, .B a15_1, .B a15_2, .I a15_3]), (1, .mpb .t_disk_file a16_2)] [0, 1] (.I a17_0) [(0, .raw [.B true, .I 100000, .mp 1, .B a17_1, .B a17_2, .I a17_3]), (1, .mpb .t_disk_file a17_4)]]) (S' := ⟨[(2, .cv (.str p2)), (13, .P 29600), (19, .cv (.ro .t_uint8 a16_0)), (20, .I a16_1), (21, .cv (.str xt21_48))], [(29600, .raw [.B true, .I 100000, .mp 29601, .B a17_1, .B a17_2, .I a17_3]), (29601, .mpb .t_disk_file a17_4)]⟩) (disk_Disk_Crash_v2.okE h17) ?_
     refine awp_seq ?_
     obtain ⟨⟨a18_0, a18_1, a18_2⟩, h18, h⟩ := bind_some h
     dsimp only at h
     refine ar L 338 [] [] [(2, { hids := [0, 1], fx := [0, 1], r := .tup [.cv (.ro .t_uint8 a18_0), .I a18_1], H' := [(0, .raw [.B true, .I 100000, .mp 1, .B a17_1, .B a17_2, .I a17_3]), (1, .mpb .t_disk_file a18_2)], σ := [(0, 29600), (1, 29601)] })] (cs := [ECall V P 15 [.P 0, .cv (.str p2)] [(0, .raw [.B true, .I 100000, .mp 1, .B a17_1, .B a17_2, .I a17_3]), (1, .mpb .t_disk_file a17_4)] [0, 1] (.tup [.cv (.ro .t_uint8 a18_0), .I a18_1]) [(0, .raw [.B true, .I 100000, .mp 1, .B a17_1, .B a17_2, .I a17_3]), (1, .mpb .t_disk_file a18_2)]]) (S' := ⟨[(13, .P 29600), (19, .cv (.ro .t_uint8 a16_0)), (20, .I a16_1), (21, .cv (.str xt21_48)), (22, .cv (.ro .t_uint8 a18_0)), (23, .I a18_1)], [(29600, .raw [.B true, .I 100000, .mp 29601, .B a17_1, .B a17_2, .I a17_3]), (29601, .mpb .t_disk_file a18_2)]⟩) (disk_Disk_Read_v2.okE h18) ?_
     refine awp_seq ?_
     rcases ite_some h with ⟨c14, h⟩ | ⟨c14, h⟩
     ·rcases ite_some h with ⟨c15, h⟩ | ⟨c15, h⟩
      ·rcases ite_some h with ⟨c16, h⟩ | ⟨c16, h⟩
       ·obtain ⟨a19, h19, h⟩ := bind_some h
        rcases ite_some h with ⟨c17, h⟩ | ⟨c17, h⟩
        ·obtain ⟨⟨⟩, h20, h⟩ := bind_some h
         rcases ite_some h with ⟨c18, h⟩ | ⟨c18, h⟩
         ·refine ar L 347 [(2, true), (6, true), (12, true), (17, true), (22, false)] [(15, .B a19), (19, .B a17_1)] [] (cs := [(decide (a16_1 = 0)) = true, (decide (a18_1 = 0)) = true, (decide ((a16_0.map (fun b => b)) = xt21_48)) = true, PCall V P 21 [.cv (.ro .t_uint8 a16_0), .cv (.ro .t_uint8 a18_0)] (.B a19), True, a19 = true, PCall V P 12 [.cv (.pcs [.B true, .I 100000, .rom .t_disk_file a18_2, .B a17_1, .B a17_2, .I a17_3] 0)] (.B a17_1), True, (!a17_1) = false]) (S' := ⟨[(12, .B false)], []⟩) (And.intro (decide_eq_true c14) (And.intro (decide_eq_true c15) (And.intro (decide_eq_true c16) (And.intro (workflowlaw50_equal.ok h19) (And.intro trivial (And.intro c17 (And.intro (disk_Disk_Dead.ok h20) (And.intro trivial (congrArg Bool.not (c18)))))))))) ?_
          refine awp_ret ?_
          obtain rfl := Option.some.inj h
          exact er (.B false)
         obtain ⟨a21, h21, h⟩ := bind_some h
         refine ar L 347 [(2, true), (6, true), (12, true), (17, true), (22, true)] [(15, .B a19), (19, .B a17_1), (23, .B a21)] [] (cs := [(decide (a16_1 = 0)) = true, (decide (a18_1 = 0)) = true, (decide ((a16_0.map (fun b => b)) = xt21_48)) = true, PCall V P 21 [.cv (.ro .t_uint8 a16_0), .cv (.ro .t_uint8 a18_0)] (.B a19), True, a19 = true, PCall V P 12 [.cv (.pcs [.B true, .I 100000, .rom .t_disk_file a18_2, .B a17_1, .B a17_2, .I a17_3] 0)] (.B a17_1), True, (!a17_1) = true, PCall V P 7 [] (.B a21), True]) (S' := ⟨[(12, .B a21)], []⟩) (And.intro (decide_eq_true c14) (And.intro (decide_eq_true c15) (And.intro (decide_eq_true c16) (And.intro (workflowlaw50_equal.ok h19) (And.intro trivial (And.intro c17 (And.intro (disk_Disk_Dead.ok h20) (And.intro trivial (And.intro (congrArg Bool.not (eq_false_of_ne_true c18)) (And.intro (workflowlaw50_lives.ok h21) trivial)))))))))) ?_
         refine awp_ret ?_
         obtain rfl := Option.some.inj h
         exact er (.B a21)
        refine ar L 347 [(2, true), (6, true), (12, true), (17, false)] [(15, .B a19)] [] (cs := [(decide (a16_1 = 0)) = true, (decide (a18_1 = 0)) = true, (decide ((a16_0.map (fun b => b)) = xt21_48)) = true, PCall V P 21 [.cv (.ro .t_uint8 a16_0), .cv (.ro .t_uint8 a18_0)] (.B a19), True, a19 = false]) (S' := ⟨[(12, .B false)], []⟩) (And.intro (decide_eq_true c14) (And.intro (decide_eq_true c15) (And.intro (decide_eq_true c16) (And.intro (workflowlaw50_equal.ok h19) (And.intro trivial (eq_false_of_ne_true c17)))))) ?_
        refine awp_ret ?_
        obtain rfl := Option.some.inj h
        exact er (.B false)
       refine ar L 347 [(2, true), (6, true), (12, false)] [] [] (cs := [(decide (a16_1 = 0)) = true, (decide (a18_1 = 0)) = true, (decide ((a16_0.map (fun b => b)) = xt21_48)) = false]) (S' := ⟨[(12, .B false)], []⟩) (And.intro (decide_eq_true c14) (And.intro (decide_eq_true c15) (decide_eq_false c16))) ?_
       refine awp_ret ?_
       obtain rfl := Option.some.inj h
       exact er (.B false)
      refine ar L 347 [(2, true), (6, false)] [] [] (cs := [(decide (a16_1 = 0)) = true, (decide (a18_1 = 0)) = false]) (S' := ⟨[(12, .B false)], []⟩) (And.intro (decide_eq_true c14) (decide_eq_false c15)) ?_
      refine awp_ret ?_
      obtain rfl := Option.some.inj h
      exact er (.B false)
     refine ar L 347 [(2, false)] [] [] (cs := [(decide (a16_1 = 0)) = false]) (S' := ⟨[(12, .B false)], []⟩) (decide_eq_false c14) ?_
     refine awp_ret ?_
     obtain rfl := Option.some.inj h
     exact er (.B false)
theorem workflowlaw50_DiskKeeps.ok {K : Nat} {p0 : List workflowlaw50_Step} {p1 : List workflowlaw50_Step} {p2 : List UInt8} {p3 : List UInt8} {p4 : List UInt8} {p5 : Int} {r : Bool} (h : workflowlaw50_DiskKeeps K p0 p1 p2 p3 p4 p5 = some r) : PCall V P 5 [.cv (.ro .t_workflowlaw50_Step p0), .cv (.ro .t_workflowlaw50_Step p1), .cv (.str p2), .cv (.ro .t_uint8 p3), .cv (.ro .t_uint8 p4), .I p5] (.B r) := ECall.pcall (eo (fn := Try.f5) (n := 159) (m := 100) fun Γ => workflowlaw50_DiskKeeps.body h) (by kernel_rfl)
def workflowlaw50_DiskFull.l25 (K : Nat) (p0 : Int) (p1 : List workflowlaw50_Step) : Nat → Int → Bool → Bool → Int → (List (List UInt8 × disk_file)) → Option (Out Bool Unit)
 | 0, _, _, _, _, _ => none
 | k + 1, xt7_25h, x25100_3, x25100_4, x25100_5, x25101 => (if xt7_25h < (p1.length : Int) then (Option.bind (disk_Disk_Used K p0 x25101 x25100_3 x25100_4 x25100_5) (fun a4 => (Option.bind ((if (0 : Int) ≤ xt7_25h ∧ (xt7_25h : Int) < (p1.length : Int) then (Option.bind (workflowlaw50_does_v3 K (p1.getD (Int.toNat xt7_25h) z_workflowlaw50_Step) p0 x25100_3 x25100_4 x25100_5 x25101) (fun a5 => match a5 with | (Sum.inl (a5_0, a5_1, a5_2, a5_3, a5_4, a5_5)) => some (a5_0, a5_2, a5_3, a5_4, a5_5) | (Sum.inr (a5_0, a5_1)) => some (0, x25100_3, x25100_4, x25100_5, a5_1))) else none) : Option (Int × Bool × Bool × Int × (List (List UInt8 × disk_file)))) (fun (xt10_36, x27200_3, x27200_4, x27200_5, x27201) => (Option.bind (disk_Disk_Used K p0 x27201 x27200_3 x27200_4 x27200_5) (fun a6 => (if a6 > p0 then some (Out.done false) else (if xt10_36 ≠ 0 then (Option.bind (disk_Disk_Used K p0 x27201 x27200_3 x27200_4 x27200_5) (fun a7 => (if a7 ≠ a4 then some (Out.done false) else (if (0 : Int) ≤ xt7_25h ∧ (xt7_25h : Int) < (p1.length : Int) then (if (p1.getD (Int.toNat xt7_25h) z_workflowlaw50_Step).Kind = 0 then (if xt10_36 = 0 then (Option.bind (disk_Disk_Used K p0 x27201 x27200_3 x27200_4 x27200_5) (fun a8 => (if a8 ≠ (IntKind.i64.wrap (a4 + (((p1.getD (Int.toNat xt7_25h) z_workflowlaw50_Step).Data).length : Int))) then some (Out.done false) else (if xt10_36 = 18 then (if (IntKind.i64.wrap (a4 + (((p1.getD (Int.toNat xt7_25h) z_workflowlaw50_Step).Data).length : Int))) ≤ p0 then some (Out.done false) else workflowlaw50_DiskFull.l25 K p0 p1 k (IntKind.i64.wrap (xt7_25h + 1)) x27200_3 x27200_4 x27200_5 x27201) else workflowlaw50_DiskFull.l25 K p0 p1 k (IntKind.i64.wrap (xt7_25h + 1)) x27200_3 x27200_4 x27200_5 x27201)))) else (if xt10_36 = 18 then (if (IntKind.i64.wrap (a4 + (((p1.getD (Int.toNat xt7_25h) z_workflowlaw50_Step).Data).length : Int))) ≤ p0 then some (Out.done false) else workflowlaw50_DiskFull.l25 K p0 p1 k (IntKind.i64.wrap (xt7_25h + 1)) x27200_3 x27200_4 x27200_5 x27201) else workflowlaw50_DiskFull.l25 K p0 p1 k (IntKind.i64.wrap (xt7_25h + 1)) x27200_3 x27200_4 x27200_5 x27201)) else (if xt10_36 = 18 then (if (IntKind.i64.wrap (a4 + (((p1.getD (Int.toNat xt7_25h) z_workflowlaw50_Step).Data).length : Int))) ≤ p0 then some (Out.done false) else workflowlaw50_DiskFull.l25 K p0 p1 k (IntKind.i64.wrap (xt7_25h + 1)) x27200_3 x27200_4 x27200_5 x27201) else workflowlaw50_DiskFull.l25 K p0 p1 k (IntKind.i64.wrap (xt7_25h + 1)) x27200_3 x27200_4 x27200_5 x27201)) else none)))) else (if (0 : Int) ≤ xt7_25h ∧ (xt7_25h : Int) < (p1.length : Int) then (if (p1.getD (Int.toNat xt7_25h) z_workflowlaw50_Step).Kind = 0 then (if xt10_36 = 0 then (Option.bind (disk_Disk_Used K p0 x27201 x27200_3 x27200_4 x27200_5) (fun a9 => (if a9 ≠ (IntKind.i64.wrap (a4 + (((p1.getD (Int.toNat xt7_25h) z_workflowlaw50_Step).Data).length : Int))) then some (Out.done false) else (if xt10_36 = 18 then (if (IntKind.i64.wrap (a4 + (((p1.getD (Int.toNat xt7_25h) z_workflowlaw50_Step).Data).length : Int))) ≤ p0 then some (Out.done false) else workflowlaw50_DiskFull.l25 K p0 p1 k (IntKind.i64.wrap (xt7_25h + 1)) x27200_3 x27200_4 x27200_5 x27201) else workflowlaw50_DiskFull.l25 K p0 p1 k (IntKind.i64.wrap (xt7_25h + 1)) x27200_3 x27200_4 x27200_5 x27201)))) else (if xt10_36 = 18 then (if (IntKind.i64.wrap (a4 + (((p1.getD (Int.toNat xt7_25h) z_workflowlaw50_Step).Data).length : Int))) ≤ p0 then some (Out.done false) else workflowlaw50_DiskFull.l25 K p0 p1 k (IntKind.i64.wrap (xt7_25h + 1)) x27200_3 x27200_4 x27200_5 x27201) else workflowlaw50_DiskFull.l25 K p0 p1 k (IntKind.i64.wrap (xt7_25h + 1)) x27200_3 x27200_4 x27200_5 x27201)) else (if xt10_36 = 18 then (if (IntKind.i64.wrap (a4 + (((p1.getD (Int.toNat xt7_25h) z_workflowlaw50_Step).Data).length : Int))) ≤ p0 then some (Out.done false) else workflowlaw50_DiskFull.l25 K p0 p1 k (IntKind.i64.wrap (xt7_25h + 1)) x27200_3 x27200_4 x27200_5 x27201) else workflowlaw50_DiskFull.l25 K p0 p1 k (IntKind.i64.wrap (xt7_25h + 1)) x27200_3 x27200_4 x27200_5 x27201)) else none))))))))) else some (Out.go ()))
def workflowlaw50_DiskFull (K : Nat) (p0 : Int) (p1 : List workflowlaw50_Step) : Option Bool := (Option.bind (((Option.bind (workflowlaw50_small K p1) (fun a1 => (if a1 = true then (if p0 < 0 then some true else some (decide (p0 > 4194304))) else some true)))) : Option Bool) (fun xt22_4 => (if xt22_4 = true then (Option.bind (workflowlaw50_lives K) (fun a2 => some a2)) else (Option.bind (disk_New K p0) (fun a3 => match a3 with | (Sum.inl ()) => some false | (Sum.inr ()) => (obind (workflowlaw50_DiskFull.l25 K p0 p1 K 0 false false 0 ([] : List (List UInt8 × disk_file)) : Option (Out Bool Unit)) (fun r => r) (fun _ => (Option.bind (workflowlaw50_lives K) (fun a10 => some a10)))))))))
theorem workflowlaw50_DiskFull.body {Γ : Ent} {K : Nat} {p0 : Int} {p1 : List workflowlaw50_Step} {r : Bool} (h : workflowlaw50_DiskFull K p0 p1 = some r) : AWp V P 106 100 Γ (Try.f6.body.getD .skip) (EndsE P V Try.f6 (.B r) []) ⟨args0 0 [.I p0, .cv (.ro .t_workflowlaw50_Step p1)], []⟩ := by
 unfold workflowlaw50_DiskFull at h
 refine sr0 L 200 [] [] [] (S' := ⟨[(0, .I p0), (1, .cv (.ro .t_workflowlaw50_Step p1))], []⟩) ?_
 refine awp_seq ?_
 obtain ⟨o1, hp1, h⟩ := bind_some h
 refine awp_seq (awp_mono (Q' := fun e S => (e = .normal ∧ ∃ xt22_4 : Bool, S = ⟨[(0, .I p0), (1, .cv (.ro .t_workflowlaw50_Step p1)), (22, .B xt22_4)], []⟩ ∧ xt22_4 = o1)) ?_ ?_)
 ·clear h
  replace h := hp1
  obtain ⟨a1, h1, h⟩ := bind_some h
  rcases ite_some h with ⟨c1, h⟩ | ⟨c1, h⟩
  ·rcases ite_some h with ⟨c2, h⟩ | ⟨c2, h⟩
   ·refine ar L 202 [(3, false), (7, true)] [(1, .B a1)] [] (cs := [PCall V P 17 [.cv (.ro .t_workflowlaw50_Step p1)] (.B a1), True, (!a1) = false, (decide (p0 < 0)) = true]) (S' := ⟨[(0, .I p0), (1, .cv (.ro .t_workflowlaw50_Step p1)), (22, .B true)], []⟩) (And.intro (workflowlaw50_small.ok h1) (And.intro trivial (And.intro (congrArg Bool.not (c1)) (decide_eq_true c2)))) ?_
    obtain rfl := Option.some.inj h
    exact ⟨rfl, _, rfl, rfl⟩
   refine ar L 202 [(3, false), (7, false)] [(1, .B a1)] [] (cs := [PCall V P 17 [.cv (.ro .t_workflowlaw50_Step p1)] (.B a1), True, (!a1) = false, (decide (p0 < 0)) = false]) (S' := ⟨[(0, .I p0), (1, .cv (.ro .t_workflowlaw50_Step p1)), (22, .B (decide (p0 > 4194304)))], []⟩) (And.intro (workflowlaw50_small.ok h1) (And.intro trivial (And.intro (congrArg Bool.not (c1)) (decide_eq_false c2)))) ?_
   obtain rfl := Option.some.inj h
   exact ⟨rfl, _, rfl, rfl⟩
  refine ar L 202 [(3, true)] [(1, .B a1)] [] (cs := [PCall V P 17 [.cv (.ro .t_workflowlaw50_Step p1)] (.B a1), True, (!a1) = true]) (S' := ⟨[(0, .I p0), (1, .cv (.ro .t_workflowlaw50_Step p1)), (22, .B true)], []⟩) (And.intro (workflowlaw50_small.ok h1) (And.intro trivial (congrArg Bool.not (eq_false_of_ne_true c1)))) ?_
  obtain rfl := Option.some.inj h
  exact ⟨rfl, _, rfl, rfl⟩
 ·rintro e S ⟨rfl, xt22_4, rfl, rfl⟩
  rcases ite_some h with ⟨c3, h⟩ | ⟨c3, h⟩
  ·refine tt (b := xt22_4) (c3) ?_
   refine awp_seq ?_
   obtain ⟨a2, h2, h⟩ := bind_some h
   refine ar L 214 [] [(0, .B a2)] [] (cs := [PCall V P 7 [] (.B a2), True]) (S' := ⟨[(4, .B a2)], []⟩) (And.intro (workflowlaw50_lives.ok h2) trivial) ?_
   refine awp_ret ?_
   obtain rfl := Option.some.inj h
   exact er (.B a2)
  refine ff (b := xt22_4) (eq_false_of_ne_true c3) ?_
  refine awp_skip' ?_
  refine awp_seq ?_
  obtain ⟨a3, h3, h⟩ := bind_some h
  rcases a3 with ⟨⟩ | a3
  ·dsimp only at h
   refine ar L 217 [] [] [(1, { hids := [], fx := [], r := .tup [.cv (.lit (.pointer none)), .I 2], H' := [], σ := [] })] (cs := [ECall V P 8 [.I p0] [] [] (.tup [.cv (.lit (.pointer none)), .I 2]) []]) (S' := ⟨[(0, .I p0), (1, .cv (.ro .t_workflowlaw50_Step p1)), (5, .cv (.lit (.pointer none))), (6, .I 2)], []⟩) (disk_New.okE h3) ?_
   refine awp_seq ?_
   refine sr0 L 225 [] [] [] (S' := ⟨[(0, .I p0), (1, .cv (.ro .t_workflowlaw50_Step p1)), (5, .cv (.lit (.pointer none))), (30, .B true)], []⟩) ?_
   refine tt (b := true) (rfl) ?_
   refine sr0 L 228 [] [] [] (S' := ⟨[(4, .B false)], []⟩) ?_
   refine awp_ret ?_
   obtain rfl := Option.some.inj h
   exact er (.B false)
  ·obtain ⟨⟩ := a3
   dsimp only at h
   refine ar L 217 [] [] [(1, { hids := [], fx := [], r := .tup [.P 100, .I 0], H' := [(100, .raw [.B true, .I p0, .mp 101, .B false, .B false, .I 0]), (101, .mpb .t_disk_file ([] : List (List UInt8 × disk_file)))], σ := [(100, 5144), (101, 5145)] })] (cs := [ECall V P 8 [.I p0] [] [] (.tup [.P 100, .I 0]) [(100, .raw [.B true, .I p0, .mp 101, .B false, .B false, .I 0]), (101, .mpb .t_disk_file ([] : List (List UInt8 × disk_file)))]]) (S' := ⟨[(0, .I p0), (1, .cv (.ro .t_workflowlaw50_Step p1)), (5, .P 5144), (6, .I 0)], [(5144, .raw [.B true, .I p0, .mp 5145, .B false, .B false, .I 0]), (5145, .mpb .t_disk_file ([] : List (List UInt8 × disk_file)))]⟩) (disk_New.okE h3) ?_
   refine awp_seq ?_
   refine sr0 L 225 [] [] [] (S' := ⟨[(0, .I p0), (1, .cv (.ro .t_workflowlaw50_Step p1)), (5, .P 5144), (30, .B false)], [(5144, .raw [.B true, .I p0, .mp 5145, .B false, .B false, .I 0]), (5145, .mpb .t_disk_file ([] : List (List UInt8 × disk_file)))]⟩) ?_
   refine ff (b := false) (rfl) ?_
   refine awp_skip' ?_
   refine awp_seq ?_
   refine sr0 L 230 [] [] [] (S' := ⟨[(0, .I p0), (1, .cv (.ro .t_workflowlaw50_Step p1)), (5, .P 5144), (7, .I 0)], [(5144, .raw [.B true, .I p0, .mp 5145, .B false, .B false, .I 0]), (5145, .mpb .t_disk_file ([] : List (List UInt8 × disk_file)))]⟩) ?_
   refine awp_block ?_
   refine awp_turn (Turns.trans (Turns.kp (S' := ⟨[(0, .I p0), (1, .cv (.ro .t_workflowlaw50_Step p1)), (5, .P 5144), (7, .I 0)], [(5144, .raw [.B true, .I p0, .mp 5145, .B false, .B false, .I 0]), (5145, .mpb .t_disk_file ([] : List (List UInt8 × disk_file)))]⟩)) (Turns.rn [(5144, 25100), (5145, 25101)] (S' := ⟨[(0, .I p0), (1, .cv (.ro .t_workflowlaw50_Step p1)), (5, .P 25100), (7, .I 0)], [(25100, .raw [.B true, .I p0, .mp 25101, .B false, .B false, .I 0]), (25101, .mpb .t_disk_file ([] : List (List UInt8 × disk_file)))]⟩))) ?_
   refine kp (S' := ⟨[(0, .I p0), (1, .cv (.ro .t_workflowlaw50_Step p1)), (5, .P 25100), (7, .I 0)], [(25100, .raw [.B true, .I p0, .mp 25101, .B false, .B false, .I 0]), (25101, .mpb .t_disk_file ([] : List (List UInt8 × disk_file)))]⟩) ?_
   obtain ⟨o3, hp3, h⟩ := obind_some h
   refine awp_conseq (Q' := fun e S => (e = .exit 0 ∧ S = ⟨[], []⟩ ∧ Out.go () = o3) ∨ (e = .ret ∧ ∃ a, Out.done a = o3 ∧ EndsE P V Try.f6 (.B a) [] .ret S)) (awp_loop (fun k S => ∃ xt7_25h : Int, ∃ x25100_3 : Bool, ∃ x25100_4 : Bool, ∃ x25100_5 : Int, ∃ x25101 : List (List UInt8 × disk_file), S = ⟨[(0, .I p0), (1, .cv (.ro .t_workflowlaw50_Step p1)), (5, .P 25100), (7, .I xt7_25h)], [(25100, .raw [.B true, .I p0, .mp 25101, .B x25100_3, .B x25100_4, .I x25100_5]), (25101, .mpb .t_disk_file x25101)]⟩ ∧ workflowlaw50_DiskFull.l25 K p0 p1 k xt7_25h x25100_3 x25100_4 x25100_5 x25101 = some o3) ?_ ⟨_, _, _, _, _, rfl, hp3⟩) ?_
   ·clear h hp3
    intro k S hS
    obtain ⟨xt7_25h, x25100_3, x25100_4, x25100_5, x25101, rfl, h⟩ := hS
    cases k with
    | zero => cases h
    | succ k =>
    unfold workflowlaw50_DiskFull.l25 at h
    refine awp_seq ?_
    refine sr0 L 232 [] [] [] (S' := ⟨[(0, .I p0), (1, .cv (.ro .t_workflowlaw50_Step p1)), (5, .P 25100), (7, .I xt7_25h), (34, .B (decide (xt7_25h < (p1.length : Int))))], [(25100, .raw [.B true, .I p0, .mp 25101, .B x25100_3, .B x25100_4, .I x25100_5]), (25101, .mpb .t_disk_file x25101)]⟩) ?_
    rcases ite_some h with ⟨c4, h⟩ | ⟨c4, h⟩
    ·refine tt (b := (decide (xt7_25h < (p1.length : Int)))) (decide_eq_true c4) ?_
     refine awp_skip' ?_
     refine awp_seq ?_
     refine awp_block ?_
     refine awp_seq ?_
     obtain ⟨a4, h4, h⟩ := bind_some h
     refine ar L 237 [] [(1, .I a4)] [] (cs := [PCall V P 14 [.cv (.pcs [.B true, .I p0, .rom .t_disk_file x25101, .B x25100_3, .B x25100_4, .I x25100_5] 0)] (.I a4), True]) (S' := ⟨[(0, .I p0), (1, .cv (.ro .t_workflowlaw50_Step p1)), (5, .P 25100), (7, .I xt7_25h), (8, .I a4)], [(25100, .raw [.B true, .I p0, .mp 25101, .B x25100_3, .B x25100_4, .I x25100_5]), (25101, .mpb .t_disk_file x25101)]⟩) (And.intro (disk_Disk_Used.ok h4) trivial) ?_
     obtain ⟨o2, hp2, h⟩ := bind_some h
     refine awp_seq (awp_mono (Q' := fun e S => (e = .normal ∧ ∃ xt10_36 : Int, ∃ x27200_3 : Bool, ∃ x27200_4 : Bool, ∃ x27200_5 : Int, ∃ x27201 : List (List UInt8 × disk_file), S = ⟨[(0, .I p0), (1, .cv (.ro .t_workflowlaw50_Step p1)), (7, .I xt7_25h), (8, .I a4), (9, .P 27200), (10, .I xt10_36)], [(27200, .raw [.B true, .I p0, .mp 27201, .B x27200_3, .B x27200_4, .I x27200_5]), (27201, .mpb .t_disk_file x27201)]⟩ ∧ (xt10_36, x27200_3, x27200_4, x27200_5, x27201) = o2)) ?_ ?_)
     ·clear h
      replace h := hp2
      obtain ⟨g1, h⟩ := guard_some h
      obtain ⟨a5, h5, h⟩ := bind_some h
      rcases a5 with ⟨a5_0, a5_1, a5_2, a5_3, a5_4, a5_5⟩ | a5
      ·dsimp only at h
       refine awp_post (ar L 241 [] [] [(5, { hids := [0, 1], fx := [0, 1], r := .tup [.P 0, .I a5_0, .cv (.ro .t_uint8 a5_1)], H' := [(0, .raw [.B true, .I p0, .mp 1, .B a5_2, .B a5_3, .I a5_4]), (1, .mpb .t_disk_file a5_5)], σ := [(0, 25100), (1, 25101)] })] (cs := [(0 : Int) ≤ xt7_25h, (xt7_25h : Int) < (p1.length : Int), ECall V P 19 [.P 0, .agg (d_workflowlaw50_Step (p1.getD (Int.toNat xt7_25h) z_workflowlaw50_Step))] [(0, .raw [.B true, .I p0, .mp 1, .B x25100_3, .B x25100_4, .I x25100_5]), (1, .mpb .t_disk_file x25101)] [0, 1] (.tup [.P 0, .I a5_0, .cv (.ro .t_uint8 a5_1)]) [(0, .raw [.B true, .I p0, .mp 1, .B a5_2, .B a5_3, .I a5_4]), (1, .mpb .t_disk_file a5_5)]]) (S' := ⟨[(0, .I p0), (1, .cv (.ro .t_workflowlaw50_Step p1)), (7, .I xt7_25h), (8, .I a4), (9, .P 25100), (10, .I a5_0)], [(25100, .raw [.B true, .I p0, .mp 25101, .B a5_2, .B a5_3, .I a5_4]), (25101, .mpb .t_disk_file a5_5)]⟩) (And.intro g1.1 (And.intro g1.2 (workflowlaw50_does_v3.okE h5))) ⟨rfl, rfl⟩) (Turns.trans (Turns.kp (S' := ⟨[(0, .I p0), (1, .cv (.ro .t_workflowlaw50_Step p1)), (7, .I xt7_25h), (8, .I a4), (9, .P 25100), (10, .I a5_0)], [(25100, .raw [.B true, .I p0, .mp 25101, .B a5_2, .B a5_3, .I a5_4]), (25101, .mpb .t_disk_file a5_5)]⟩)) (Turns.trans (Turns.rn [(25100, 27200), (25101, 27201)] (S' := ⟨[(0, .I p0), (1, .cv (.ro .t_workflowlaw50_Step p1)), (7, .I xt7_25h), (8, .I a4), (9, .P 27200), (10, .I a5_0)], [(27200, .raw [.B true, .I p0, .mp 27201, .B a5_2, .B a5_3, .I a5_4]), (27201, .mpb .t_disk_file a5_5)]⟩)) (Turns.kp (S' := ⟨[(0, .I p0), (1, .cv (.ro .t_workflowlaw50_Step p1)), (7, .I xt7_25h), (8, .I a4), (9, .P 27200), (10, .I a5_0)], [(27200, .raw [.B true, .I p0, .mp 27201, .B a5_2, .B a5_3, .I a5_4]), (27201, .mpb .t_disk_file a5_5)]⟩)))) ?_
       obtain rfl := Option.some.inj h
       exact ⟨rfl, _, _, _, _, _, rfl, rfl⟩
      ·obtain ⟨a5_0, a5_1⟩ := a5
       dsimp only at h
       refine awp_post (ar L 241 [] [] [(5, { hids := [0, 1], fx := [0, 1], r := .tup [.P 100, .I 0, .cv (.ro .t_uint8 ([] : List UInt8))], H' := [(0, .raw [.B true, .I p0, .mp 1, .B x25100_3, .B x25100_4, .I x25100_5]), (1, .mpb .t_disk_file a5_0), (100, .raw [.B true, .I p0, .mp 101, .B x25100_3, .B x25100_4, .I x25100_5]), (101, .mpb .t_disk_file a5_1)], σ := [(0, 25100), (1, 25101), (100, 5368), (101, 5369)] })] (cs := [(0 : Int) ≤ xt7_25h, (xt7_25h : Int) < (p1.length : Int), ECall V P 19 [.P 0, .agg (d_workflowlaw50_Step (p1.getD (Int.toNat xt7_25h) z_workflowlaw50_Step))] [(0, .raw [.B true, .I p0, .mp 1, .B x25100_3, .B x25100_4, .I x25100_5]), (1, .mpb .t_disk_file x25101)] [0, 1] (.tup [.P 100, .I 0, .cv (.ro .t_uint8 ([] : List UInt8))]) [(0, .raw [.B true, .I p0, .mp 1, .B x25100_3, .B x25100_4, .I x25100_5]), (1, .mpb .t_disk_file a5_0), (100, .raw [.B true, .I p0, .mp 101, .B x25100_3, .B x25100_4, .I x25100_5]), (101, .mpb .t_disk_file a5_1)]]) (S' := ⟨[(0, .I p0), (1, .cv (.ro .t_workflowlaw50_Step p1)), (7, .I xt7_25h), (8, .I a4), (9, .P 5368), (10, .I 0)], [(5368, .raw [.B true, .I p0, .mp 5369, .B x25100_3, .B x25100_4, .I x25100_5]), (5369, .mpb .t_disk_file a5_1)]⟩) (And.intro g1.1 (And.intro g1.2 (workflowlaw50_does_v3.okE h5))) ⟨rfl, rfl⟩) (Turns.trans (Turns.kp (S' := ⟨[(0, .I p0), (1, .cv (.ro .t_workflowlaw50_Step p1)), (7, .I xt7_25h), (8, .I a4), (9, .P 5368), (10, .I 0)], [(5368, .raw [.B true, .I p0, .mp 5369, .B x25100_3, .B x25100_4, .I x25100_5]), (5369, .mpb .t_disk_file a5_1)]⟩)) (Turns.trans (Turns.rn [(5368, 27200), (5369, 27201)] (S' := ⟨[(0, .I p0), (1, .cv (.ro .t_workflowlaw50_Step p1)), (7, .I xt7_25h), (8, .I a4), (9, .P 27200), (10, .I 0)], [(27200, .raw [.B true, .I p0, .mp 27201, .B x25100_3, .B x25100_4, .I x25100_5]), (27201, .mpb .t_disk_file a5_1)]⟩)) (Turns.kp (S' := ⟨[(0, .I p0), (1, .cv (.ro .t_workflowlaw50_Step p1)), (7, .I xt7_25h), (8, .I a4), (9, .P 27200), (10, .I 0)], [(27200, .raw [.B true, .I p0, .mp 27201, .B x25100_3, .B x25100_4, .I x25100_5]), (27201, .mpb .t_disk_file a5_1)]⟩)))) ?_
       obtain rfl := Option.some.inj h
       exact ⟨rfl, _, _, _, _, _, rfl, rfl⟩
     ·rintro e S ⟨rfl, xt10_36, x27200_3, x27200_4, x27200_5, x27201, rfl, rfl⟩
      dsimp only at h
      refine sr0 L 255 [] [] [] (S' := ⟨[(0, .I p0), (1, .cv (.ro .t_workflowlaw50_Step p1)), (5, .P 27200), (7, .I xt7_25h), (8, .I a4), (10, .I xt10_36)], [(27200, .raw [.B true, .I p0, .mp 27201, .B x27200_3, .B x27200_4, .I x27200_5]), (27201, .mpb .t_disk_file x27201)]⟩) ?_
      refine awp_seq ?_
      obtain ⟨a6, h6, h⟩ := bind_some h
      rcases ite_some h with ⟨c5, h⟩ | ⟨c5, h⟩
      ·refine ad L mixed 258 [(4, true)] [(1, .I a6)] [] [] 55 (cs := [PCall V P 14 [.cv (.pcs [.B true, .I p0, .rom .t_disk_file x27201, .B x27200_3, .B x27200_4, .I x27200_5] 0)] (.I a6), True, (decide (a6 > p0)) = true]) (S' := ⟨[(0, .I p0), (1, .cv (.ro .t_workflowlaw50_Step p1)), (5, .P 27200), (7, .I xt7_25h), (104, .B true)], [(27200, .raw [.B true, .I p0, .mp 27201, .B x27200_3, .B x27200_4, .I x27200_5]), (27201, .mpb .t_disk_file x27201)]⟩) (And.intro (disk_Disk_Used.ok h6) (And.intro trivial (decide_eq_true c5))) ?_
       refine tt (b := true) (rfl) ?_
       refine sr0 L 314 [] [] [] (S' := ⟨[(4, .B false)], []⟩) ?_
       refine awp_ret ?_
       obtain rfl := Option.some.inj h
       exact .inr ⟨rfl, _, rfl, er (.B false)⟩
      rcases ite_some h with ⟨c6, h⟩ | ⟨c6, h⟩
      ·obtain ⟨a7, h7, h⟩ := bind_some h
       rcases ite_some h with ⟨c7, h⟩ | ⟨c7, h⟩
       ·refine ad L mixed 258 [(4, false), (7, true), (14, true)] [(1, .I a6), (9, .I a7)] [] [] 55 (cs := [PCall V P 14 [.cv (.pcs [.B true, .I p0, .rom .t_disk_file x27201, .B x27200_3, .B x27200_4, .I x27200_5] 0)] (.I a6), True, (decide (a6 > p0)) = false, (decide (xt10_36 ≠ 0)) = true, PCall V P 14 [.cv (.pcs [.B true, .I p0, .rom .t_disk_file x27201, .B x27200_3, .B x27200_4, .I x27200_5] 0)] (.I a7), True, (decide (a7 ≠ a4)) = true]) (S' := ⟨[(0, .I p0), (1, .cv (.ro .t_workflowlaw50_Step p1)), (5, .P 27200), (7, .I xt7_25h), (104, .B true)], [(27200, .raw [.B true, .I p0, .mp 27201, .B x27200_3, .B x27200_4, .I x27200_5]), (27201, .mpb .t_disk_file x27201)]⟩) (And.intro (disk_Disk_Used.ok h6) (And.intro trivial (And.intro (decide_eq_false c5) (And.intro (decide_eq_true c6) (And.intro (disk_Disk_Used.ok h7) (And.intro trivial (decide_eq_true c7))))))) ?_
        refine tt (b := true) (rfl) ?_
        refine sr0 L 314 [] [] [] (S' := ⟨[(4, .B false)], []⟩) ?_
        refine awp_ret ?_
        obtain rfl := Option.some.inj h
        exact .inr ⟨rfl, _, rfl, er (.B false)⟩
       obtain ⟨g2, h⟩ := guard_some h
       rcases ite_some h with ⟨c8, h⟩ | ⟨c8, h⟩
       ·rcases ite_some h with ⟨c9, h⟩ | ⟨c9, h⟩
        ·obtain ⟨a8, h8, h⟩ := bind_some h
         rcases ite_some h with ⟨c10, h⟩ | ⟨c10, h⟩
         ·refine ad L mixed 258 [(4, false), (7, true), (14, false), (21, true), (25, true), (39, true)] [(1, .I a6), (9, .I a7), (27, .I a8)] [] [] 55 (cs := [PCall V P 14 [.cv (.pcs [.B true, .I p0, .rom .t_disk_file x27201, .B x27200_3, .B x27200_4, .I x27200_5] 0)] (.I a6), True, (decide (a6 > p0)) = false, (decide (xt10_36 ≠ 0)) = true, PCall V P 14 [.cv (.pcs [.B true, .I p0, .rom .t_disk_file x27201, .B x27200_3, .B x27200_4, .I x27200_5] 0)] (.I a7), True, (decide (a7 ≠ a4)) = false, (0 : Int) ≤ xt7_25h, (xt7_25h : Int) < (p1.length : Int), (decide ((p1.getD (Int.toNat xt7_25h) z_workflowlaw50_Step).Kind = 0)) = true, (decide (xt10_36 = 0)) = true, PCall V P 14 [.cv (.pcs [.B true, .I p0, .rom .t_disk_file x27201, .B x27200_3, .B x27200_4, .I x27200_5] 0)] (.I a8), True, (0 : Int) ≤ xt7_25h, (xt7_25h : Int) < (p1.length : Int), (decide (a8 ≠ (IntKind.i64.wrap (a4 + (((p1.getD (Int.toNat xt7_25h) z_workflowlaw50_Step).Data).length : Int))))) = true]) (S' := ⟨[(0, .I p0), (1, .cv (.ro .t_workflowlaw50_Step p1)), (5, .P 27200), (7, .I xt7_25h), (104, .B true)], [(27200, .raw [.B true, .I p0, .mp 27201, .B x27200_3, .B x27200_4, .I x27200_5]), (27201, .mpb .t_disk_file x27201)]⟩) (And.intro (disk_Disk_Used.ok h6) (And.intro trivial (And.intro (decide_eq_false c5) (And.intro (decide_eq_true c6) (And.intro (disk_Disk_Used.ok h7) (And.intro trivial (And.intro (decide_eq_false c7) (And.intro g2.1 (And.intro g2.2 (And.intro (decide_eq_true c8) (And.intro (decide_eq_true c9) (And.intro (disk_Disk_Used.ok h8) (And.intro trivial (And.intro g2.1 (And.intro g2.2 (decide_eq_true c10)))))))))))))))) ?_
          refine tt (b := true) (rfl) ?_
          refine sr0 L 314 [] [] [] (S' := ⟨[(4, .B false)], []⟩) ?_
          refine awp_ret ?_
          obtain rfl := Option.some.inj h
          exact .inr ⟨rfl, _, rfl, er (.B false)⟩
         rcases ite_some h with ⟨c11, h⟩ | ⟨c11, h⟩
         ·refine ad L mixed 258 [(4, false), (7, true), (14, false), (21, true), (25, true), (39, false), (42, true)] [(1, .I a6), (9, .I a7), (27, .I a8)] [] [] 55 (cs := [PCall V P 14 [.cv (.pcs [.B true, .I p0, .rom .t_disk_file x27201, .B x27200_3, .B x27200_4, .I x27200_5] 0)] (.I a6), True, (decide (a6 > p0)) = false, (decide (xt10_36 ≠ 0)) = true, PCall V P 14 [.cv (.pcs [.B true, .I p0, .rom .t_disk_file x27201, .B x27200_3, .B x27200_4, .I x27200_5] 0)] (.I a7), True, (decide (a7 ≠ a4)) = false, (0 : Int) ≤ xt7_25h, (xt7_25h : Int) < (p1.length : Int), (decide ((p1.getD (Int.toNat xt7_25h) z_workflowlaw50_Step).Kind = 0)) = true, (decide (xt10_36 = 0)) = true, PCall V P 14 [.cv (.pcs [.B true, .I p0, .rom .t_disk_file x27201, .B x27200_3, .B x27200_4, .I x27200_5] 0)] (.I a8), True, (0 : Int) ≤ xt7_25h, (xt7_25h : Int) < (p1.length : Int), (decide (a8 ≠ (IntKind.i64.wrap (a4 + (((p1.getD (Int.toNat xt7_25h) z_workflowlaw50_Step).Data).length : Int))))) = false, (decide (xt10_36 = 18)) = true, (0 : Int) ≤ xt7_25h, (xt7_25h : Int) < (p1.length : Int)]) (S' := ⟨[(0, .I p0), (1, .cv (.ro .t_workflowlaw50_Step p1)), (5, .P 27200), (7, .I xt7_25h), (104, .B ((decide ((IntKind.i64.wrap (a4 + (((p1.getD (Int.toNat xt7_25h) z_workflowlaw50_Step).Data).length : Int))) ≤ p0))))], [(27200, .raw [.B true, .I p0, .mp 27201, .B x27200_3, .B x27200_4, .I x27200_5]), (27201, .mpb .t_disk_file x27201)]⟩) (And.intro (disk_Disk_Used.ok h6) (And.intro trivial (And.intro (decide_eq_false c5) (And.intro (decide_eq_true c6) (And.intro (disk_Disk_Used.ok h7) (And.intro trivial (And.intro (decide_eq_false c7) (And.intro g2.1 (And.intro g2.2 (And.intro (decide_eq_true c8) (And.intro (decide_eq_true c9) (And.intro (disk_Disk_Used.ok h8) (And.intro trivial (And.intro g2.1 (And.intro g2.2 (And.intro (decide_eq_false c10) (And.intro (decide_eq_true c11) (And.intro g2.1 g2.2)))))))))))))))))) ?_
          rcases ite_some h with ⟨c12, h⟩ | ⟨c12, h⟩
          ·refine tt (b := (decide ((IntKind.i64.wrap (a4 + (((p1.getD (Int.toNat xt7_25h) z_workflowlaw50_Step).Data).length : Int))) ≤ p0))) (decide_eq_true c12) ?_
           refine sr0 L 314 [] [] [] (S' := ⟨[(4, .B false)], []⟩) ?_
           refine awp_ret ?_
           obtain rfl := Option.some.inj h
           exact .inr ⟨rfl, _, rfl, er (.B false)⟩
          refine ff (b := (decide ((IntKind.i64.wrap (a4 + (((p1.getD (Int.toNat xt7_25h) z_workflowlaw50_Step).Data).length : Int))) ≤ p0))) (decide_eq_false c12) ?_
          refine awp_skip' ?_
          refine awp_post (ar0 L 316 [] [] [] (S' := ⟨[(0, .I p0), (1, .cv (.ro .t_workflowlaw50_Step p1)), (5, .P 27200), (7, .I (IntKind.i64.wrap (xt7_25h + 1)))], [(27200, .raw [.B true, .I p0, .mp 27201, .B x27200_3, .B x27200_4, .I x27200_5]), (27201, .mpb .t_disk_file x27201)]⟩) ⟨rfl, rfl⟩) (Turns.trans (Turns.kp (S' := ⟨[(0, .I p0), (1, .cv (.ro .t_workflowlaw50_Step p1)), (5, .P 27200), (7, .I (IntKind.i64.wrap (xt7_25h + 1)))], [(27200, .raw [.B true, .I p0, .mp 27201, .B x27200_3, .B x27200_4, .I x27200_5]), (27201, .mpb .t_disk_file x27201)]⟩)) (Turns.trans (Turns.rn [(27200, 25100), (27201, 25101)] (S' := ⟨[(0, .I p0), (1, .cv (.ro .t_workflowlaw50_Step p1)), (5, .P 25100), (7, .I (IntKind.i64.wrap (xt7_25h + 1)))], [(25100, .raw [.B true, .I p0, .mp 25101, .B x27200_3, .B x27200_4, .I x27200_5]), (25101, .mpb .t_disk_file x27201)]⟩)) (Turns.kp (S' := ⟨[(0, .I p0), (1, .cv (.ro .t_workflowlaw50_Step p1)), (5, .P 25100), (7, .I (IntKind.i64.wrap (xt7_25h + 1)))], [(25100, .raw [.B true, .I p0, .mp 25101, .B x27200_3, .B x27200_4, .I x27200_5]), (25101, .mpb .t_disk_file x27201)]⟩)))) ?_
          exact ⟨k, Nat.lt_succ_self k, _, _, _, _, _, rfl, h⟩
         refine ad L mixed 258 [(4, false), (7, true), (14, false), (21, true), (25, true), (39, false), (42, false)] [(1, .I a6), (9, .I a7), (27, .I a8)] [] [] 55 (cs := [PCall V P 14 [.cv (.pcs [.B true, .I p0, .rom .t_disk_file x27201, .B x27200_3, .B x27200_4, .I x27200_5] 0)] (.I a6), True, (decide (a6 > p0)) = false, (decide (xt10_36 ≠ 0)) = true, PCall V P 14 [.cv (.pcs [.B true, .I p0, .rom .t_disk_file x27201, .B x27200_3, .B x27200_4, .I x27200_5] 0)] (.I a7), True, (decide (a7 ≠ a4)) = false, (0 : Int) ≤ xt7_25h, (xt7_25h : Int) < (p1.length : Int), (decide ((p1.getD (Int.toNat xt7_25h) z_workflowlaw50_Step).Kind = 0)) = true, (decide (xt10_36 = 0)) = true, PCall V P 14 [.cv (.pcs [.B true, .I p0, .rom .t_disk_file x27201, .B x27200_3, .B x27200_4, .I x27200_5] 0)] (.I a8), True, (0 : Int) ≤ xt7_25h, (xt7_25h : Int) < (p1.length : Int), (decide (a8 ≠ (IntKind.i64.wrap (a4 + (((p1.getD (Int.toNat xt7_25h) z_workflowlaw50_Step).Data).length : Int))))) = false, (decide (xt10_36 = 18)) = false]) (S' := ⟨[(0, .I p0), (1, .cv (.ro .t_workflowlaw50_Step p1)), (5, .P 27200), (7, .I xt7_25h), (104, .B false)], [(27200, .raw [.B true, .I p0, .mp 27201, .B x27200_3, .B x27200_4, .I x27200_5]), (27201, .mpb .t_disk_file x27201)]⟩) (And.intro (disk_Disk_Used.ok h6) (And.intro trivial (And.intro (decide_eq_false c5) (And.intro (decide_eq_true c6) (And.intro (disk_Disk_Used.ok h7) (And.intro trivial (And.intro (decide_eq_false c7) (And.intro g2.1 (And.intro g2.2 (And.intro (decide_eq_true c8) (And.intro (decide_eq_true c9) (And.intro (disk_Disk_Used.ok h8) (And.intro trivial (And.intro g2.1 (And.intro g2.2 (And.intro (decide_eq_false c10) (decide_eq_false c11))))))))))))))))) ?_
         refine ff (b := false) (rfl) ?_
         refine awp_skip' ?_
         refine awp_post (ar0 L 316 [] [] [] (S' := ⟨[(0, .I p0), (1, .cv (.ro .t_workflowlaw50_Step p1)), (5, .P 27200), (7, .I (IntKind.i64.wrap (xt7_25h + 1)))], [(27200, .raw [.B true, .I p0, .mp 27201, .B x27200_3, .B x27200_4, .I x27200_5]), (27201, .mpb .t_disk_file x27201)]⟩) ⟨rfl, rfl⟩) (Turns.trans (Turns.kp (S' := ⟨[(0, .I p0), (1, .cv (.ro .t_workflowlaw50_Step p1)), (5, .P 27200), (7, .I (IntKind.i64.wrap (xt7_25h + 1)))], [(27200, .raw [.B true, .I p0, .mp 27201, .B x27200_3, .B x27200_4, .I x27200_5]), (27201, .mpb .t_disk_file x27201)]⟩)) (Turns.trans (Turns.rn [(27200, 25100), (27201, 25101)] (S' := ⟨[(0, .I p0), (1, .cv (.ro .t_workflowlaw50_Step p1)), (5, .P 25100), (7, .I (IntKind.i64.wrap (xt7_25h + 1)))], [(25100, .raw [.B true, .I p0, .mp 25101, .B x27200_3, .B x27200_4, .I x27200_5]), (25101, .mpb .t_disk_file x27201)]⟩)) (Turns.kp (S' := ⟨[(0, .I p0), (1, .cv (.ro .t_workflowlaw50_Step p1)), (5, .P 25100), (7, .I (IntKind.i64.wrap (xt7_25h + 1)))], [(25100, .raw [.B true, .I p0, .mp 25101, .B x27200_3, .B x27200_4, .I x27200_5]), (25101, .mpb .t_disk_file x27201)]⟩)))) ?_
         exact ⟨k, Nat.lt_succ_self k, _, _, _, _, _, rfl, h⟩
        rcases ite_some h with ⟨c13, h⟩ | ⟨c13, h⟩
        ·refine ad L mixed 258 [(4, false), (7, true), (14, false), (21, true), (25, false), (42, true)] [(1, .I a6), (9, .I a7)] [] [] 55 (cs := [PCall V P 14 [.cv (.pcs [.B true, .I p0, .rom .t_disk_file x27201, .B x27200_3, .B x27200_4, .I x27200_5] 0)] (.I a6), True, (decide (a6 > p0)) = false, (decide (xt10_36 ≠ 0)) = true, PCall V P 14 [.cv (.pcs [.B true, .I p0, .rom .t_disk_file x27201, .B x27200_3, .B x27200_4, .I x27200_5] 0)] (.I a7), True, (decide (a7 ≠ a4)) = false, (0 : Int) ≤ xt7_25h, (xt7_25h : Int) < (p1.length : Int), (decide ((p1.getD (Int.toNat xt7_25h) z_workflowlaw50_Step).Kind = 0)) = true, (decide (xt10_36 = 0)) = false, (decide (xt10_36 = 18)) = true, (0 : Int) ≤ xt7_25h, (xt7_25h : Int) < (p1.length : Int)]) (S' := ⟨[(0, .I p0), (1, .cv (.ro .t_workflowlaw50_Step p1)), (5, .P 27200), (7, .I xt7_25h), (104, .B ((decide ((IntKind.i64.wrap (a4 + (((p1.getD (Int.toNat xt7_25h) z_workflowlaw50_Step).Data).length : Int))) ≤ p0))))], [(27200, .raw [.B true, .I p0, .mp 27201, .B x27200_3, .B x27200_4, .I x27200_5]), (27201, .mpb .t_disk_file x27201)]⟩) (And.intro (disk_Disk_Used.ok h6) (And.intro trivial (And.intro (decide_eq_false c5) (And.intro (decide_eq_true c6) (And.intro (disk_Disk_Used.ok h7) (And.intro trivial (And.intro (decide_eq_false c7) (And.intro g2.1 (And.intro g2.2 (And.intro (decide_eq_true c8) (And.intro (decide_eq_false c9) (And.intro (decide_eq_true c13) (And.intro g2.1 g2.2))))))))))))) ?_
         rcases ite_some h with ⟨c14, h⟩ | ⟨c14, h⟩
         ·refine tt (b := (decide ((IntKind.i64.wrap (a4 + (((p1.getD (Int.toNat xt7_25h) z_workflowlaw50_Step).Data).length : Int))) ≤ p0))) (decide_eq_true c14) ?_
          refine sr0 L 314 [] [] [] (S' := ⟨[(4, .B false)], []⟩) ?_
          refine awp_ret ?_
          obtain rfl := Option.some.inj h
          exact .inr ⟨rfl, _, rfl, er (.B false)⟩
         refine ff (b := (decide ((IntKind.i64.wrap (a4 + (((p1.getD (Int.toNat xt7_25h) z_workflowlaw50_Step).Data).length : Int))) ≤ p0))) (decide_eq_false c14) ?_
         refine awp_skip' ?_
         refine awp_post (ar0 L 316 [] [] [] (S' := ⟨[(0, .I p0), (1, .cv (.ro .t_workflowlaw50_Step p1)), (5, .P 27200), (7, .I (IntKind.i64.wrap (xt7_25h + 1)))], [(27200, .raw [.B true, .I p0, .mp 27201, .B x27200_3, .B x27200_4, .I x27200_5]), (27201, .mpb .t_disk_file x27201)]⟩) ⟨rfl, rfl⟩) (Turns.trans (Turns.kp (S' := ⟨[(0, .I p0), (1, .cv (.ro .t_workflowlaw50_Step p1)), (5, .P 27200), (7, .I (IntKind.i64.wrap (xt7_25h + 1)))], [(27200, .raw [.B true, .I p0, .mp 27201, .B x27200_3, .B x27200_4, .I x27200_5]), (27201, .mpb .t_disk_file x27201)]⟩)) (Turns.trans (Turns.rn [(27200, 25100), (27201, 25101)] (S' := ⟨[(0, .I p0), (1, .cv (.ro .t_workflowlaw50_Step p1)), (5, .P 25100), (7, .I (IntKind.i64.wrap (xt7_25h + 1)))], [(25100, .raw [.B true, .I p0, .mp 25101, .B x27200_3, .B x27200_4, .I x27200_5]), (25101, .mpb .t_disk_file x27201)]⟩)) (Turns.kp (S' := ⟨[(0, .I p0), (1, .cv (.ro .t_workflowlaw50_Step p1)), (5, .P 25100), (7, .I (IntKind.i64.wrap (xt7_25h + 1)))], [(25100, .raw [.B true, .I p0, .mp 25101, .B x27200_3, .B x27200_4, .I x27200_5]), (25101, .mpb .t_disk_file x27201)]⟩)))) ?_
         exact ⟨k, Nat.lt_succ_self k, _, _, _, _, _, rfl, h⟩
        refine ad L mixed 258 [(4, false), (7, true), (14, false), (21, true), (25, false), (42, false)] [(1, .I a6), (9, .I a7)] [] [] 55 (cs := [PCall V P 14 [.cv (.pcs [.B true, .I p0, .rom .t_disk_file x27201, .B x27200_3, .B x27200_4, .I x27200_5] 0)] (.I a6), True, (decide (a6 > p0)) = false, (decide (xt10_36 ≠ 0)) = true, PCall V P 14 [.cv (.pcs [.B true, .I p0, .rom .t_disk_file x27201, .B x27200_3, .B x27200_4, .I x27200_5] 0)] (.I a7), True, (decide (a7 ≠ a4)) = false, (0 : Int) ≤ xt7_25h, (xt7_25h : Int) < (p1.length : Int), (decide ((p1.getD (Int.toNat xt7_25h) z_workflowlaw50_Step).Kind = 0)) = true, (decide (xt10_36 = 0)) = false, (decide (xt10_36 = 18)) = false]) (S' := ⟨[(0, .I p0), (1, .cv (.ro .t_workflowlaw50_Step p1)), (5, .P 27200), (7, .I xt7_25h), (104, .B false)], [(27200, .raw [.B true, .I p0, .mp 27201, .B x27200_3, .B x27200_4, .I x27200_5]), (27201, .mpb .t_disk_file x27201)]⟩) (And.intro (disk_Disk_Used.ok h6) (And.intro trivial (And.intro (decide_eq_false c5) (And.intro (decide_eq_true c6) (And.intro (disk_Disk_Used.ok h7) (And.intro trivial (And.intro (decide_eq_false c7) (And.intro g2.1 (And.intro g2.2 (And.intro (decide_eq_true c8) (And.intro (decide_eq_false c9) (decide_eq_false c13)))))))))))) ?_
        refine ff (b := false) (rfl) ?_
        refine awp_skip' ?_
        refine awp_post (ar0 L 316 [] [] [] (S' := ⟨[(0, .I p0), (1, .cv (.ro .t_workflowlaw50_Step p1)), (5, .P 27200), (7, .I (IntKind.i64.wrap (xt7_25h + 1)))], [(27200, .raw [.B true, .I p0, .mp 27201, .B x27200_3, .B x27200_4, .I x27200_5]), (27201, .mpb .t_disk_file x27201)]⟩) ⟨rfl, rfl⟩) (Turns.trans (Turns.kp (S' := ⟨[(0, .I p0), (1, .cv (.ro .t_workflowlaw50_Step p1)), (5, .P 27200), (7, .I (IntKind.i64.wrap (xt7_25h + 1)))], [(27200, .raw [.B true, .I p0, .mp 27201, .B x27200_3, .B x27200_4, .I x27200_5]), (27201, .mpb .t_disk_file x27201)]⟩)) (Turns.trans (Turns.rn [(27200, 25100), (27201, 25101)] (S' := ⟨[(0, .I p0), (1, .cv (.ro .t_workflowlaw50_Step p1)), (5, .P 25100), (7, .I (IntKind.i64.wrap (xt7_25h + 1)))], [(25100, .raw [.B true, .I p0, .mp 25101, .B x27200_3, .B x27200_4, .I x27200_5]), (25101, .mpb .t_disk_file x27201)]⟩)) (Turns.kp (S' := ⟨[(0, .I p0), (1, .cv (.ro .t_workflowlaw50_Step p1)), (5, .P 25100), (7, .I (IntKind.i64.wrap (xt7_25h + 1)))], [(25100, .raw [.B true, .I p0, .mp 25101, .B x27200_3, .B x27200_4, .I x27200_5]), (25101, .mpb .t_disk_file x27201)]⟩)))) ?_
        exact ⟨k, Nat.lt_succ_self k, _, _, _, _, _, rfl, h⟩
       rcases ite_some h with ⟨c15, h⟩ | ⟨c15, h⟩
       ·refine ad L mixed 258 [(4, false), (7, true), (14, false), (21, false), (42, true)] [(1, .I a6), (9, .I a7)] [] [] 55 (cs := [PCall V P 14 [.cv (.pcs [.B true, .I p0, .rom .t_disk_file x27201, .B x27200_3, .B x27200_4, .I x27200_5] 0)] (.I a6), True, (decide (a6 > p0)) = false, (decide (xt10_36 ≠ 0)) = true, PCall V P 14 [.cv (.pcs [.B true, .I p0, .rom .t_disk_file x27201, .B x27200_3, .B x27200_4, .I x27200_5] 0)] (.I a7), True, (decide (a7 ≠ a4)) = false, (0 : Int) ≤ xt7_25h, (xt7_25h : Int) < (p1.length : Int), (decide ((p1.getD (Int.toNat xt7_25h) z_workflowlaw50_Step).Kind = 0)) = false, (decide (xt10_36 = 18)) = true, (0 : Int) ≤ xt7_25h, (xt7_25h : Int) < (p1.length : Int)]) (S' := ⟨[(0, .I p0), (1, .cv (.ro .t_workflowlaw50_Step p1)), (5, .P 27200), (7, .I xt7_25h), (104, .B ((decide ((IntKind.i64.wrap (a4 + (((p1.getD (Int.toNat xt7_25h) z_workflowlaw50_Step).Data).length : Int))) ≤ p0))))], [(27200, .raw [.B true, .I p0, .mp 27201, .B x27200_3, .B x27200_4, .I x27200_5]), (27201, .mpb .t_disk_file x27201)]⟩) (And.intro (disk_Disk_Used.ok h6) (And.intro trivial (And.intro (decide_eq_false c5) (And.intro (decide_eq_true c6) (And.intro (disk_Disk_Used.ok h7) (And.intro trivial (And.intro (decide_eq_false c7) (And.intro g2.1 (And.intro g2.2 (And.intro (decide_eq_false c8) (And.intro (decide_eq_true c15) (And.intro g2.1 g2.2)))))))))))) ?_
        rcases ite_some h with ⟨c16, h⟩ | ⟨c16, h⟩
        ·refine tt (b := (decide ((IntKind.i64.wrap (a4 + (((p1.getD (Int.toNat xt7_25h) z_workflowlaw50_Step).Data).length : Int))) ≤ p0))) (decide_eq_true c16) ?_
         refine sr0 L 314 [] [] [] (S' := ⟨[(4, .B false)], []⟩) ?_
         refine awp_ret ?_
         obtain rfl := Option.some.inj h
         exact .inr ⟨rfl, _, rfl, er (.B false)⟩
        refine ff (b := (decide ((IntKind.i64.wrap (a4 + (((p1.getD (Int.toNat xt7_25h) z_workflowlaw50_Step).Data).length : Int))) ≤ p0))) (decide_eq_false c16) ?_
        refine awp_skip' ?_
        refine awp_post (ar0 L 316 [] [] [] (S' := ⟨[(0, .I p0), (1, .cv (.ro .t_workflowlaw50_Step p1)), (5, .P 27200), (7, .I (IntKind.i64.wrap (xt7_25h + 1)))], [(27200, .raw [.B true, .I p0, .mp 27201, .B x27200_3, .B x27200_4, .I x27200_5]), (27201, .mpb .t_disk_file x27201)]⟩) ⟨rfl, rfl⟩) (Turns.trans (Turns.kp (S' := ⟨[(0, .I p0), (1, .cv (.ro .t_workflowlaw50_Step p1)), (5, .P 27200), (7, .I (IntKind.i64.wrap (xt7_25h + 1)))], [(27200, .raw [.B true, .I p0, .mp 27201, .B x27200_3, .B x27200_4, .I x27200_5]), (27201, .mpb .t_disk_file x27201)]⟩)) (Turns.trans (Turns.rn [(27200, 25100), (27201, 25101)] (S' := ⟨[(0, .I p0), (1, .cv (.ro .t_workflowlaw50_Step p1)), (5, .P 25100), (7, .I (IntKind.i64.wrap (xt7_25h + 1)))], [(25100, .raw [.B true, .I p0, .mp 25101, .B x27200_3, .B x27200_4, .I x27200_5]), (25101, .mpb .t_disk_file x27201)]⟩)) (Turns.kp (S' := ⟨[(0, .I p0), (1, .cv (.ro .t_workflowlaw50_Step p1)), (5, .P 25100), (7, .I (IntKind.i64.wrap (xt7_25h + 1)))], [(25100, .raw [.B true, .I p0, .mp 25101, .B x27200_3, .B x27200_4, .I x27200_5]), (25101, .mpb .t_disk_file x27201)]⟩)))) ?_
        exact ⟨k, Nat.lt_succ_self k, _, _, _, _, _, rfl, h⟩
       refine ad L mixed 258 [(4, false), (7, true), (14, false), (21, false), (42, false)] [(1, .I a6), (9, .I a7)] [] [] 55 (cs := [PCall V P 14 [.cv (.pcs [.B true, .I p0, .rom .t_disk_file x27201, .B x27200_3, .B x27200_4, .I x27200_5] 0)] (.I a6), True, (decide (a6 > p0)) = false, (decide (xt10_36 ≠ 0)) = true, PCall V P 14 [.cv (.pcs [.B true, .I p0, .rom .t_disk_file x27201, .B x27200_3, .B x27200_4, .I x27200_5] 0)] (.I a7), True, (decide (a7 ≠ a4)) = false, (0 : Int) ≤ xt7_25h, (xt7_25h : Int) < (p1.length : Int), (decide ((p1.getD (Int.toNat xt7_25h) z_workflowlaw50_Step).Kind = 0)) = false, (decide (xt10_36 = 18)) = false]) (S' := ⟨[(0, .I p0), (1, .cv (.ro .t_workflowlaw50_Step p1)), (5, .P 27200), (7, .I xt7_25h), (104, .B false)], [(27200, .raw [.B true, .I p0, .mp 27201, .B x27200_3, .B x27200_4, .I x27200_5]), (27201, .mpb .t_disk_file x27201)]⟩) (And.intro (disk_Disk_Used.ok h6) (And.intro trivial (And.intro (decide_eq_false c5) (And.intro (decide_eq_true c6) (And.intro (disk_Disk_Used.ok h7) (And.intro trivial (And.intro (decide_eq_false c7) (And.intro g2.1 (And.intro g2.2 (And.intro (decide_eq_false c8) (decide_eq_false c15))))))))))) ?_
       refine ff (b := false) (rfl) ?_
       refine awp_skip' ?_
       refine awp_post (ar0 L 316 [] [] [] (S' := ⟨[(0, .I p0), (1, .cv (.ro .t_workflowlaw50_Step p1)), (5, .P 27200), (7, .I (IntKind.i64.wrap (xt7_25h + 1)))], [(27200, .raw [.B true, .I p0, .mp 27201, .B x27200_3, .B x27200_4, .I x27200_5]), (27201, .mpb .t_disk_file x27201)]⟩) ⟨rfl, rfl⟩) (Turns.trans (Turns.kp (S' := ⟨[(0, .I p0), (1, .cv (.ro .t_workflowlaw50_Step p1)), (5, .P 27200), (7, .I (IntKind.i64.wrap (xt7_25h + 1)))], [(27200, .raw [.B true, .I p0, .mp 27201, .B x27200_3, .B x27200_4, .I x27200_5]), (27201, .mpb .t_disk_file x27201)]⟩)) (Turns.trans (Turns.rn [(27200, 25100), (27201, 25101)] (S' := ⟨[(0, .I p0), (1, .cv (.ro .t_workflowlaw50_Step p1)), (5, .P 25100), (7, .I (IntKind.i64.wrap (xt7_25h + 1)))], [(25100, .raw [.B true, .I p0, .mp 25101, .B x27200_3, .B x27200_4, .I x27200_5]), (25101, .mpb .t_disk_file x27201)]⟩)) (Turns.kp (S' := ⟨[(0, .I p0), (1, .cv (.ro .t_workflowlaw50_Step p1)), (5, .P 25100), (7, .I (IntKind.i64.wrap (xt7_25h + 1)))], [(25100, .raw [.B true, .I p0, .mp 25101, .B x27200_3, .B x27200_4, .I x27200_5]), (25101, .mpb .t_disk_file x27201)]⟩)))) ?_
       exact ⟨k, Nat.lt_succ_self k, _, _, _, _, _, rfl, h⟩
      obtain ⟨g3, h⟩ := guard_some h
      rcases ite_some h with ⟨c17, h⟩ | ⟨c17, h⟩
      ·rcases ite_some h with ⟨c18, h⟩ | ⟨c18, h⟩
       ·obtain ⟨a9, h9, h⟩ := bind_some h
        rcases ite_some h with ⟨c19, h⟩ | ⟨c19, h⟩
        ·refine ad L mixed 258 [(4, false), (7, false), (21, true), (25, true), (39, true)] [(1, .I a6), (27, .I a9)] [] [] 55 (cs := [PCall V P 14 [.cv (.pcs [.B true, .I p0, .rom .t_disk_file x27201, .B x27200_3, .B x27200_4, .I x27200_5] 0)] (.I a6), True, (decide (a6 > p0)) = false, (decide (xt10_36 ≠ 0)) = false, (0 : Int) ≤ xt7_25h, (xt7_25h : Int) < (p1.length : Int), (decide ((p1.getD (Int.toNat xt7_25h) z_workflowlaw50_Step).Kind = 0)) = true, (decide (xt10_36 = 0)) = true, PCall V P 14 [.cv (.pcs [.B true, .I p0, .rom .t_disk_file x27201, .B x27200_3, .B x27200_4, .I x27200_5] 0)] (.I a9), True, (0 : Int) ≤ xt7_25h, (xt7_25h : Int) < (p1.length : Int), (decide (a9 ≠ (IntKind.i64.wrap (a4 + (((p1.getD (Int.toNat xt7_25h) z_workflowlaw50_Step).Data).length : Int))))) = true]) (S' := ⟨[(0, .I p0), (1, .cv (.ro .t_workflowlaw50_Step p1)), (5, .P 27200), (7, .I xt7_25h), (104, .B true)], [(27200, .raw [.B true, .I p0, .mp 27201, .B x27200_3, .B x27200_4, .I x27200_5]), (27201, .mpb .t_disk_file x27201)]⟩) (And.intro (disk_Disk_Used.ok h6) (And.intro trivial (And.intro (decide_eq_false c5) (And.intro (decide_eq_false c6) (And.intro g3.1 (And.intro g3.2 (And.intro (decide_eq_true c17) (And.intro (decide_eq_true c18) (And.intro (disk_Disk_Used.ok h9) (And.intro trivial (And.intro g3.1 (And.intro g3.2 (decide_eq_true c19))))))))))))) ?_
         refine tt (b := true) (rfl) ?_
         refine sr0 L 314 [] [] [] (S' := ⟨[(4, .B false)], []⟩) ?_
         refine awp_ret ?_
         obtain rfl := Option.some.inj h
         exact .inr ⟨rfl, _, rfl, er (.B false)⟩
        rcases ite_some h with ⟨c20, h⟩ | ⟨c20, h⟩
        ·refine ad L mixed 258 [(4, false), (7, false), (21, true), (25, true), (39, false), (42, true)] [(1, .I a6), (27, .I a9)] [] [] 55 (cs := [PCall V P 14 [.cv (.pcs [.B true, .I p0, .rom .t_disk_file x27201, .B x27200_3, .B x27200_4, .I x27200_5] 0)] (.I a6), True, (decide (a6 > p0)) = false, (decide (xt10_36 ≠ 0)) = false, (0 : Int) ≤ xt7_25h, (xt7_25h : Int) < (p1.length : Int), (decide ((p1.getD (Int.toNat xt7_25h) z_workflowlaw50_Step).Kind = 0)) = true, (decide (xt10_36 = 0)) = true, PCall V P 14 [.cv (.pcs [.B true, .I p0, .rom .t_disk_file x27201, .B x27200_3, .B x27200_4, .I x27200_5] 0)] (.I a9), True, (0 : Int) ≤ xt7_25h, (xt7_25h : Int) < (p1.length : Int), (decide (a9 ≠ (IntKind.i64.wrap (a4 + (((p1.getD (Int.toNat xt7_25h) z_workflowlaw50_Step).Data).length : Int))))) = false, (decide (xt10_36 = 18)) = true, (0 : Int) ≤ xt7_25h, (xt7_25h : Int) < (p1.length : Int)]) (S' := ⟨[(0, .I p0), (1, .cv (.ro .t_workflowlaw50_Step p1)), (5, .P 27200), (7, .I xt7_25h), (104, .B ((decide ((IntKind.i64.wrap (a4 + (((p1.getD (Int.toNat xt7_25h) z_workflowlaw50_Step).Data).length : Int))) ≤ p0))))], [(27200, .raw [.B true, .I p0, .mp 27201, .B x27200_3, .B x27200_4, .I x27200_5]), (27201, .mpb .t_disk_file x27201)]⟩) (And.intro (disk_Disk_Used.ok h6) (And.intro trivial (And.intro (decide_eq_false c5) (And.intro (decide_eq_false c6) (And.intro g3.1 (And.intro g3.2 (And.intro (decide_eq_true c17) (And.intro (decide_eq_true c18) (And.intro (disk_Disk_Used.ok h9) (And.intro trivial (And.intro g3.1 (And.intro g3.2 (And.intro (decide_eq_false c19) (And.intro (decide_eq_true c20) (And.intro g3.1 g3.2))))))))))))))) ?_
         rcases ite_some h with ⟨c21, h⟩ | ⟨c21, h⟩
         ·refine tt (b := (decide ((IntKind.i64.wrap (a4 + (((p1.getD (Int.toNat xt7_25h) z_workflowlaw50_Step).Data).length : Int))) ≤ p0))) (decide_eq_true c21) ?_
          refine sr0 L 314 [] [] [] (S' := ⟨[(4, .B false)], []⟩) ?_
          refine awp_ret ?_
          obtain rfl := Option.some.inj h
          exact .inr ⟨rfl, _, rfl, er (.B false)⟩
         refine ff (b := (decide ((IntKind.i64.wrap (a4 + (((p1.getD (Int.toNat xt7_25h) z_workflowlaw50_Step).Data).length : Int))) ≤ p0))) (decide_eq_false c21) ?_
         refine awp_skip' ?_
         refine awp_post (ar0 L 316 [] [] [] (S' := ⟨[(0, .I p0), (1, .cv (.ro .t_workflowlaw50_Step p1)), (5, .P 27200), (7, .I (IntKind.i64.wrap (xt7_25h + 1)))], [(27200, .raw [.B true, .I p0, .mp 27201, .B x27200_3, .B x27200_4, .I x27200_5]), (27201, .mpb .t_disk_file x27201)]⟩) ⟨rfl, rfl⟩) (Turns.trans (Turns.kp (S' := ⟨[(0, .I p0), (1, .cv (.ro .t_workflowlaw50_Step p1)), (5, .P 27200), (7, .I (IntKind.i64.wrap (xt7_25h + 1)))], [(27200, .raw [.B true, .I p0, .mp 27201, .B x27200_3, .B x27200_4, .I x27200_5]), (27201, .mpb .t_disk_file x27201)]⟩)) (Turns.trans (Turns.rn [(27200, 25100), (27201, 25101)] (S' := ⟨[(0, .I p0), (1, .cv (.ro .t_workflowlaw50_Step p1)), (5, .P 25100), (7, .I (IntKind.i64.wrap (xt7_25h + 1)))], [(25100, .raw [.B true, .I p0, .mp 25101, .B x27200_3, .B x27200_4, .I x27200_5]), (25101, .mpb .t_disk_file x27201)]⟩)) (Turns.kp (S' := ⟨[(0, .I p0), (1, .cv (.ro .t_workflowlaw50_Step p1)), (5, .P 25100), (7, .I (IntKind.i64.wrap (xt7_25h + 1)))], [(25100, .raw [.B true, .I p0, .mp 25101, .B x27200_3, .B x27200_4, .I x27200_5]), (25101, .mpb .t_disk_file x27201)]⟩)))) ?_
         exact ⟨k, Nat.lt_succ_self k, _, _, _, _, _, rfl, h⟩
        refine ad L mixed 258 [(4, false), (7, false), (21, true), (25, true), (39, false), (42, false)] [(1, .I a6), (27, .I a9)] [] [] 55 (cs := [PCall V P 14 [.cv (.pcs [.B true, .I p0, .rom .t_disk_file x27201, .B x27200_3, .B x27200_4, .I x27200_5] 0)] (.I a6), True, (decide (a6 > p0)) = false, (decide (xt10_36 ≠ 0)) = false, (0 : Int) ≤ xt7_25h, (xt7_25h : Int) < (p1.length : Int), (decide ((p1.getD (Int.toNat xt7_25h) z_workflowlaw50_Step).Kind = 0)) = true, (decide (xt10_36 = 0)) = true, PCall V P 14 [.cv (.pcs [.B true, .I p0, .rom .t_disk_file x27201, .B x27200_3, .B x27200_4, .I x27200_5] 0)] (.I a9), True, (0 : Int) ≤ xt7_25h, (xt7_25h : Int) < (p1.length : Int), (decide (a9 ≠ (IntKind.i64.wrap (a4 + (((p1.getD (Int.toNat xt7_25h) z_workflowlaw50_Step).Data).length : Int))))) = false, (decide (xt10_36 = 18)) = false]) (S' := ⟨[(0, .I p0), (1, .cv (.ro .t_workflowlaw50_Step p1)), (5, .P 27200), (7, .I xt7_25h), (104, .B false)], [(27200, .raw [.B true, .I p0, .mp 27201, .B x27200_3, .B x27200_4, .I x27200_5]), (27201, .mpb .t_disk_file x27201)]⟩) (And.intro (disk_Disk_Used.ok h6) (And.intro trivial (And.intro (decide_eq_false c5) (And.intro (decide_eq_false c6) (And.intro g3.1 (And.intro g3.2 (And.intro (decide_eq_true c17) (And.intro (decide_eq_true c18) (And.intro (disk_Disk_Used.ok h9) (And.intro trivial (And.intro g3.1 (And.intro g3.2 (And.intro (decide_eq_false c19) (decide_eq_false c20)))))))))))))) ?_
        refine ff (b := false) (rfl) ?_
        refine awp_skip' ?_
        refine awp_post (ar0 L 316 [] [] [] (S' := ⟨[(0, .I p0), (1, .cv (.ro .t_workflowlaw50_Step p1)), (5, .P 27200), (7, .I (IntKind.i64.wrap (xt7_25h + 1)))], [(27200, .raw [.B true, .I p0, .mp 27201, .B x27200_3, .B x27200_4, .I x27200_5]), (27201, .mpb .t_disk_file x27201)]⟩) ⟨rfl, rfl⟩) (Turns.trans (Turns.kp (S' := ⟨[(0, .I p0), (1, .cv (.ro .t_workflowlaw50_Step p1)), (5, .P 27200), (7, .I (IntKind.i64.wrap (xt7_25h + 1)))], [(27200, .raw [.B true, .I p0, .mp 27201, .B x27200_3, .B x27200_4, .I x27200_5]), (27201, .mpb .t_disk_file x27201)]⟩)) (Turns.trans (Turns.rn [(27200, 25100), (27201, 25101)] (S' := ⟨[(0, .I p0), (1, .cv (.ro .t_workflowlaw50_Step p1)), (5, .P 25100), (7, .I (IntKind.i64.wrap (xt7_25h + 1)))], [(25100, .raw [.B true, .I p0, .mp 25101, .B x27200_3, .B x27200_4, .I x27200_5]), (25101, .mpb .t_disk_file x27201)]⟩)) (Turns.kp (S' := ⟨[(0, .I p0), (1, .cv (.ro .t_workflowlaw50_Step p1)), (5, .P 25100), (7, .I (IntKind.i64.wrap (xt7_25h + 1)))], [(25100, .raw [.B true, .I p0, .mp 25101, .B x27200_3, .B x27200_4, .I x27200_5]), (25101, .mpb .t_disk_file x27201)]⟩)))) ?_
        exact ⟨k, Nat.lt_succ_self k, _, _, _, _, _, rfl, h⟩
       rcases ite_some h with ⟨c22, h⟩ | ⟨c22, h⟩
       ·refine ad L mixed 258 [(4, false), (7, false), (21, true), (25, false), (42, true)] [(1, .I a6)] [] [] 55 (cs := [PCall V P 14 [.cv (.pcs [.B true, .I p0, .rom .t_disk_file x27201, .B x27200_3, .B x27200_4, .I x27200_5] 0)] (.I a6), True, (decide (a6 > p0)) = false, (decide (xt10_36 ≠ 0)) = false, (0 : Int) ≤ xt7_25h, (xt7_25h : Int) < (p1.length : Int), (decide ((p1.getD (Int.toNat xt7_25h) z_workflowlaw50_Step).Kind = 0)) = true, (decide (xt10_36 = 0)) = false, (decide (xt10_36 = 18)) = true, (0 : Int) ≤ xt7_25h, (xt7_25h : Int) < (p1.length : Int)]) (S' := ⟨[(0, .I p0), (1, .cv (.ro .t_workflowlaw50_Step p1)), (5, .P 27200), (7, .I xt7_25h), (104, .B ((decide ((IntKind.i64.wrap (a4 + (((p1.getD (Int.toNat xt7_25h) z_workflowlaw50_Step).Data).length : Int))) ≤ p0))))], [(27200, .raw [.B true, .I p0, .mp 27201, .B x27200_3, .B x27200_4, .I x27200_5]), (27201, .mpb .t_disk_file x27201)]⟩) (And.intro (disk_Disk_Used.ok h6) (And.intro trivial (And.intro (decide_eq_false c5) (And.intro (decide_eq_false c6) (And.intro g3.1 (And.intro g3.2 (And.intro (decide_eq_true c17) (And.intro (decide_eq_false c18) (And.intro (decide_eq_true c22) (And.intro g3.1 g3.2)))))))))) ?_
        rcases ite_some h with ⟨c23, h⟩ | ⟨c23, h⟩
        ·refine tt (b := (decide ((IntKind.i64.wrap (a4 + (((p1.getD (Int.toNat xt7_25h) z_workflowlaw50_Step).Data).length : Int))) ≤ p0))) (decide_eq_true c23) ?_
         refine sr0 L 314 [] [] [] (S' := ⟨[(4, .B false)], []⟩) ?_
         refine awp_ret ?_
         obtain rfl := Option.some.inj h
         exact .inr ⟨rfl, _, rfl, er (.B false)⟩
        refine ff (b := (decide ((IntKind.i64.wrap (a4 + (((p1.getD (Int.toNat xt7_25h) z_workflowlaw50_Step).Data).length : Int))) ≤ p0))) (decide_eq_false c23) ?_
        refine awp_skip' ?_
        refine awp_post (ar0 L 316 [] [] [] (S' := ⟨[(0, .I p0), (1, .cv (.ro .t_workflowlaw50_Step p1)), (5, .P 27200), (7, .I (IntKind.i64.wrap (xt7_25h + 1)))], [(27200, .raw [.B true, .I p0, .mp 27201, .B x27200_3, .B x27200_4, .I x27200_5]), (27201, .mpb .t_disk_file x27201)]⟩) ⟨rfl, rfl⟩) (Turns.trans (Turns.kp (S' := ⟨[(0, .I p0), (1, .cv (.ro .t_workflowlaw50_Step p1)), (5, .P 27200), (7, .I (IntKind.i64.wrap (xt7_25h + 1)))], [(27200, .raw [.B true, .I p0, .mp 27201, .B x27200_3, .B x27200_4, .I x27200_5]), (27201, .mpb .t_disk_file x27201)]⟩)) (Turns.trans (Turns.rn [(27200, 25100), (27201, 25101)] (S' := ⟨[(0, .I p0), (1, .cv (.ro .t_workflowlaw50_Step p1)), (5, .P 25100), (7, .I (IntKind.i64.wrap (xt7_25h + 1)))], [(25100, .raw [.B true, .I p0, .mp 25101, .B x27200_3, .B x27200_4, .I x27200_5]), (25101, .mpb .t_disk_file x27201)]⟩)) (Turns.kp (S' := ⟨[(0, .I p0), (1, .cv (.ro .t_workflowlaw50_Step p1)), (5, .P 25100), (7, .I (IntKind.i64.wrap (xt7_25h + 1)))], [(25100, .raw [.B true, .I p0, .mp 25101, .B x27200_3, .B x27200_4, .I x27200_5]), (25101, .mpb .t_disk_file x27201)]⟩)))) ?_
        exact ⟨k, Nat.lt_succ_self k, _, _, _, _, _, rfl, h⟩
       refine ad L mixed 258 [(4, false), (7, false), (21, true), (25, false), (42, false)] [(1, .I a6)] [] [] 55 (cs := [PCall V P 14 [.cv (.pcs [.B true, .I p0, .rom .t_disk_file x27201, .B x27200_3, .B x27200_4, .I x27200_5] 0)] (.I a6), True, (decide (a6 > p0)) = false, (decide (xt10_36 ≠ 0)) = false, (0 : Int) ≤ xt7_25h, (xt7_25h : Int) < (p1.length : Int), (decide ((p1.getD (Int.toNat xt7_25h) z_workflowlaw50_Step).Kind = 0)) = true, (decide (xt10_36 = 0)) = false, (decide (xt10_36 = 18)) = false]) (S' := ⟨[(0, .I p0), (1, .cv (.ro .t_workflowlaw50_Step p1)), (5, .P 27200), (7, .I xt7_25h), (104, .B false)], [(27200, .raw [.B true, .I p0, .mp 27201, .B x27200_3, .B x27200_4, .I x27200_5]), (27201, .mpb .t_disk_file x27201)]⟩) (And.intro (disk_Disk_Used.ok h6) (And.intro trivial (And.intro (decide_eq_false c5) (And.intro (decide_eq_false c6) (And.intro g3.1 (And.intro g3.2 (And.intro (decide_eq_true c17) (And.intro (decide_eq_false c18) (decide_eq_false c22))))))))) ?_
       refine ff (b := false) (rfl) ?_
       refine awp_skip' ?_
       refine awp_post (ar0 L 316 [] [] [] (S' := ⟨[(0, .I p0), (1, .cv (.ro .t_workflowlaw50_Step p1)), (5, .P 27200), (7, .I (IntKind.i64.wrap (xt7_25h + 1)))], [(27200, .raw [.B true, .I p0, .mp 27201, .B x27200_3, .B x27200_4, .I x27200_5]), (27201, .mpb .t_disk_file x27201)]⟩) ⟨rfl, rfl⟩) (Turns.trans (Turns.kp (S' := ⟨[(0, .I p0), (1, .cv (.ro .t_workflowlaw50_Step p1)), (5, .P 27200), (7, .I (IntKind.i64.wrap (xt7_25h + 1)))], [(27200, .raw [.B true, .I p0, .mp 27201, .B x27200_3, .B x27200_4, .I x27200_5]), (27201, .mpb .t_disk_file x27201)]⟩)) (Turns.trans (Turns.rn [(27200, 25100), (27201, 25101)] (S' := ⟨[(0, .I p0), (1, .cv (.ro .t_workflowlaw50_Step p1)), (5, .P 25100), (7, .I (IntKind.i64.wrap (xt7_25h + 1)))], [(25100, .raw [.B true, .I p0, .mp 25101, .B x27200_3, .B x27200_4, .I x27200_5]), (25101, .mpb .t_disk_file x27201)]⟩)) (Turns.kp (S' := ⟨[(0, .I p0), (1, .cv (.ro .t_workflowlaw50_Step p1)), (5, .P 25100), (7, .I (IntKind.i64.wrap (xt7_25h + 1)))], [(25100, .raw [.B true, .I p0, .mp 25101, .B x27200_3, .B x27200_4, .I x27200_5]), (25101, .mpb .t_disk_file x27201)]⟩)))) ?_
       exact ⟨k, Nat.lt_succ_self k, _, _, _, _, _, rfl, h⟩
      rcases ite_some h with ⟨c24, h⟩ | ⟨c24, h⟩
      ·refine ad L mixed 258 [(4, false), (7, false), (21, false), (42, true)] [(1, .I a6)] [] [] 55 (cs := [PCall V P 14 [.cv (.pcs [.B true, .I p0, .rom .t_disk_file x27201, .B x27200_3, .B x27200_4, .I x27200_5] 0)] (.I a6), True, (decide (a6 > p0)) = false, (decide (xt10_36 ≠ 0)) = false, (0 : Int) ≤ xt7_25h, (xt7_25h : Int) < (p1.length : Int), (decide ((p1.getD (Int.toNat xt7_25h) z_workflowlaw50_Step).Kind = 0)) = false, (decide (xt10_36 = 18)) = true, (0 : Int) ≤ xt7_25h, (xt7_25h : Int) < (p1.length : Int)]) (S' := ⟨[(0, .I p0), (1, .cv (.ro .t_workflowlaw50_Step p1)), (5, .P 27200), (7, .I xt7_25h), (104, .B ((decide ((IntKind.i64.wrap (a4 + (((p1.getD (Int.toNat xt7_25h) z_workflowlaw50_Step).Data).length : Int))) ≤ p0))))], [(27200, .raw [.B true, .I p0, .mp 27201, .B x27200_3, .B x27200_4, .I x27200_5]), (27201, .mpb .t_disk_file x27201)]⟩) (And.intro (disk_Disk_Used.ok h6) (And.intro trivial (And.intro (decide_eq_false c5) (And.intro (decide_eq_false c6) (And.intro g3.1 (And.intro g3.2 (And.intro (decide_eq_false c17) (And.intro (decide_eq_true c24) (And.intro g3.1 g3.2))))))))) ?_
       rcases ite_some h with ⟨c25, h⟩ | ⟨c25, h⟩
       ·refine tt (b := (decide ((IntKind.i64.wrap (a4 + (((p1.getD (Int.toNat xt7_25h) z_workflowlaw50_Step).Data).length : Int))) ≤ p0))) (decide_eq_true c25) ?_
        refine sr0 L 314 [] [] [] (S' := ⟨[(4, .B false)], []⟩) ?_
        refine awp_ret ?_
        obtain rfl := Option.some.inj h
        exact .inr ⟨rfl, _, rfl, er (.B false)⟩
       refine ff (b := (decide ((IntKind.i64.wrap (a4 + (((p1.getD (Int.toNat xt7_25h) z_workflowlaw50_Step).Data).length : Int))) ≤ p0))) (decide_eq_false c25) ?_
       refine awp_skip' ?_
       refine awp_post (ar0 L 316 [] [] [] (S' := ⟨[(0, .I p0), (1, .cv (.ro .t_workflowlaw50_Step p1)), (5, .P 27200), (7, .I (IntKind.i64.wrap (xt7_25h + 1)))], [(27200, .raw [.B true, .I p0, .mp 27201, .B x27200_3, .B x27200_4, .I x27200_5]), (27201, .mpb .t_disk_file x27201)]⟩) ⟨rfl, rfl⟩) (Turns.trans (Turns.kp (S' := ⟨[(0, .I p0), (1, .cv (.ro .t_workflowlaw50_Step p1)), (5, .P 27200), (7, .I (IntKind.i64.wrap (xt7_25h + 1)))], [(27200, .raw [.B true, .I p0, .mp 27201, .B x27200_3, .B x27200_4, .I x27200_5]), (27201, .mpb .t_disk_file x27201)]⟩)) (Turns.trans (Turns.rn [(27200, 25100), (27201, 25101)] (S' := ⟨[(0, .I p0), (1, .cv (.ro .t_workflowlaw50_Step p1)), (5, .P 25100), (7, .I (IntKind.i64.wrap (xt7_25h + 1)))], [(25100, .raw [.B true, .I p0, .mp 25101, .B x27200_3, .B x27200_4, .I x27200_5]), (25101, .mpb .t_disk_file x27201)]⟩)) (Turns.kp (S' := ⟨[(0, .I p0), (1, .cv (.ro .t_workflowlaw50_Step p1)), (5, .P 25100), (7, .I (IntKind.i64.wrap (xt7_25h + 1)))], [(25100, .raw [.B true, .I p0, .mp 25101, .B x27200_3, .B x27200_4, .I x27200_5]), (25101, .mpb .t_disk_file x27201)]⟩)))) ?_
       exact ⟨k, Nat.lt_succ_self k, _, _, _, _, _, rfl, h⟩
      refine ad L mixed 258 [(4, false), (7, false), (21, false), (42, false)] [(1, .I a6)] [] [] 55 (cs := [PCall V P 14 [.cv (.pcs [.B true, .I p0, .rom .t_disk_file x27201, .B x27200_3, .B x27200_4, .I x27200_5] 0)] (.I a6), True, (decide (a6 > p0)) = false, (decide (xt10_36 ≠ 0)) = false, (0 : Int) ≤ xt7_25h, (xt7_25h : Int) < (p1.length : Int), (decide ((p1.getD (Int.toNat xt7_25h) z_workflowlaw50_Step).Kind = 0)) = false, (decide (xt10_36 = 18)) = false]) (S' := ⟨[(0, .I p0), (1, .cv (.ro .t_workflowlaw50_Step p1)), (5, .P 27200), (7, .I xt7_25h), (104, .B false)], [(27200, .raw [.B true, .I p0, .mp 27201, .B x27200_3, .B x27200_4, .I x27200_5]), (27201, .mpb .t_disk_file x27201)]⟩) (And.intro (disk_Disk_Used.ok h6) (And.intro trivial (And.intro (decide_eq_false c5) (And.intro (decide_eq_false c6) (And.intro g3.1 (And.intro g3.2 (And.intro (decide_eq_false c17) (decide_eq_false c24)))))))) ?_
      refine ff (b := false) (rfl) ?_
      refine awp_skip' ?_
      refine awp_post (ar0 L 316 [] [] [] (S' := ⟨[(0, .I p0), (1, .cv (.ro .t_workflowlaw50_Step p1)), (5, .P 27200), (7, .I (IntKind.i64.wrap (xt7_25h + 1)))], [(27200, .raw [.B true, .I p0, .mp 27201, .B x27200_3, .B x27200_4, .I x27200_5]), (27201, .mpb .t_disk_file x27201)]⟩) ⟨rfl, rfl⟩) (Turns.trans (Turns.kp (S' := ⟨[(0, .I p0), (1, .cv (.ro .t_workflowlaw50_Step p1)), (5, .P 27200), (7, .I (IntKind.i64.wrap (xt7_25h + 1)))], [(27200, .raw [.B true, .I p0, .mp 27201, .B x27200_3, .B x27200_4, .I x27200_5]), (27201, .mpb .t_disk_file x27201)]⟩)) (Turns.trans (Turns.rn [(27200, 25100), (27201, 25101)] (S' := ⟨[(0, .I p0), (1, .cv (.ro .t_workflowlaw50_Step p1)), (5, .P 25100), (7, .I (IntKind.i64.wrap (xt7_25h + 1)))], [(25100, .raw [.B true, .I p0, .mp 25101, .B x27200_3, .B x27200_4, .I x27200_5]), (25101, .mpb .t_disk_file x27201)]⟩)) (Turns.kp (S' := ⟨[(0, .I p0), (1, .cv (.ro .t_workflowlaw50_Step p1)), (5, .P 25100), (7, .I (IntKind.i64.wrap (xt7_25h + 1)))], [(25100, .raw [.B true, .I p0, .mp 25101, .B x27200_3, .B x27200_4, .I x27200_5]), (25101, .mpb .t_disk_file x27201)]⟩)))) ?_
      exact ⟨k, Nat.lt_succ_self k, _, _, _, _, _, rfl, h⟩
    refine ff (b := (decide (xt7_25h < (p1.length : Int)))) (decide_eq_false c4) ?_
    refine ex (S' := ⟨[], []⟩) ?_
    obtain rfl := Option.some.inj h
    exact .inl ⟨rfl, rfl, rfl⟩
   ·rintro e S (⟨rfl, rfl, rfl⟩ | ⟨rfl, a, rfl, hr⟩)
    ·rcases h with ⟨_, e1, h⟩ | ⟨_, e1, h⟩
     ·cases e1
     ·have e2 := Out.go.inj e1
      subst e2
      refine ⟨_, Turns.refl, ?_⟩
      refine awp_seq ?_
      obtain ⟨a10, h10, h⟩ := bind_some h
      refine ar L 320 [] [(0, .B a10)] [] (cs := [PCall V P 7 [] (.B a10), True]) (S' := ⟨[(4, .B a10)], []⟩) (And.intro (workflowlaw50_lives.ok h10) trivial) ?_
      refine awp_ret ?_
      obtain rfl := Option.some.inj h
      exact er (.B a10)
    ·rcases h with ⟨_, e1, h⟩ | ⟨_, e1, h⟩
     ·have e2 := Out.done.inj e1
      subst e2
      subst h
      exact ⟨_, Turns.refl, hr⟩
     ·cases e1
theorem workflowlaw50_DiskFull.ok {K : Nat} {p0 : Int} {p1 : List workflowlaw50_Step} {r : Bool} (h : workflowlaw50_DiskFull K p0 p1 = some r) : PCall V P 6 [.I p0, .cv (.ro .t_workflowlaw50_Step p1)] (.B r) := ECall.pcall (eo (fn := Try.f6) (n := 106) (m := 100) fun Γ => workflowlaw50_DiskFull.body h) (by kernel_rfl)
end Go.Proofs.Ytegkigdobekgjaa
