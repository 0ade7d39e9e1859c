/- What functions of the program compute, as Lean functions, and that they compute it. -/
import Derived.Test.YtegkigdobekgjaaFn1
set_option linter.unusedVariables false
set_option maxHeartbeats 0
namespace Go.Proofs.Ytegkigdobekgjaa
open Eng
def disk_Disk_Rename_v3 (K : Nat) (p0 : List UInt8) (p1 : List UInt8) (p2 : Int) (p3 : Bool) (p4 : Bool) (p5 : Int) (p6 : List (List UInt8 × disk_file)) : Option (Int × Bool × Int × (List (List UInt8 × disk_file))) := (Option.bind (disk_Disk_existing_v2 K p0 ([p1] : List (List UInt8)) p2 p3 p4 p5 p6) (fun (a1_0, a1_1, a1_2) => (if a1_1 ≠ 0 then some (a1_1, p3, p5, a1_2) else (Option.bind (disk_Disk_change_v7 K p2 p3 p4 p5 p0 a1_0 p1 a1_2) (fun (a2_0, a2_1, a2_2, a2_3, a2_4, a2_5, a2_6) => some (a2_0, a2_1, a2_2, a2_6))))))
theorem disk_Disk_Rename_v3.body {Γ : Ent} {K : Nat} {p0 : List UInt8} {p1 : List UInt8} {p2 : Int} {p3 : Bool} {p4 : Bool} {p5 : Int} {p6 : List (List UInt8 × disk_file)} {r : Int × Bool × Int × (List (List UInt8 × disk_file))} (h : disk_Disk_Rename_v3 K p0 p1 p2 p3 p4 p5 p6 = some r) : AWp V P 23 100 Γ (Try.f33.body.getD .skip) (EndsE P V Try.f33 (.I r.1) [(0, .raw [.B true, .I p2, .mp 1, .B r.2.1, .B p4, .I r.2.2.1]), (1, .mpb .t_disk_file r.2.2.2)]) ⟨args0 0 [.P 0, .cv (.str p0), .cv (.str p1)], [(0, .raw [.B true, .I p2, .mp 1, .B p3, .B p4, .I p5]), (1, .mpb .t_disk_file p6)]⟩ := by
 unfold disk_Disk_Rename_v3 at h
 refine sr0 L 200 [] [] [] (S' := ⟨[(3, .P 200), (4, .P 201), (5, .P 202)], [(0, .raw [.B true, .I p2, .mp 1, .B p3, .B p4, .I p5]), (1, .mpb .t_disk_file p6), (200, .raw [.P 0]), (201, .raw [.str p0]), (202, .raw [.str p1])]⟩) ?_
 refine awp_seq ?_
 obtain ⟨⟨a1_0, a1_1, a1_2⟩, h1, h⟩ := bind_some h
 dsimp only at h
 refine ar L 205 [] [] [(4, { hids := [0, 1], fx := [0, 1], r := .tup [.agg (d_disk_file a1_0), .I a1_1], H' := [(0, .raw [.B true, .I p2, .mp 1, .B p3, .B p4, .I p5]), (1, .mpb .t_disk_file a1_2)], σ := [(0, 0), (1, 1)] })] (cs := [ECall V P 30 [.P 0, .cv (.str p0), .cv (.ro .t_string ([p1] : List (List UInt8)))] [(0, .raw [.B true, .I p2, .mp 1, .B p3, .B p4, .I p5]), (1, .mpb .t_disk_file p6)] [0, 1] (.tup [.agg (d_disk_file a1_0), .I a1_1]) [(0, .raw [.B true, .I p2, .mp 1, .B p3, .B p4, .I p5]), (1, .mpb .t_disk_file a1_2)]]) (S' := ⟨[(3, .P 200), (4, .P 201), (5, .P 202), (7, .P 213), (8, .I a1_1)], [(0, .raw [.B true, .I p2, .mp 1, .B p3, .B p4, .I p5]), (1, .mpb .t_disk_file a1_2), (200, .raw [.P 0]), (201, .raw [.str p0]), (202, .raw [.str p1]), (213, .raw (d_disk_file a1_0))]⟩) (disk_Disk_existing_v2.okE h1) ?_
 refine awp_seq ?_
 refine sr0 L 217 [] [] [] (S' := ⟨[(3, .P 200), (4, .P 201), (5, .P 202), (7, .P 213), (8, .I a1_1), (18, .B (decide (a1_1 ≠ 0)))], [(0, .raw [.B true, .I p2, .mp 1, .B p3, .B p4, .I p5]), (1, .mpb .t_disk_file a1_2), (200, .raw [.P 0]), (201, .raw [.str p0]), (202, .raw [.str p1]), (213, .raw (d_disk_file a1_0))]⟩) ?_
 rcases ite_some h with ⟨c1, h⟩ | ⟨c1, h⟩
 ·refine tt (b := (decide (a1_1 ≠ 0))) (decide_eq_true c1) ?_
  refine sr0 L 220 [] [] [] (S' := ⟨[(6, .I a1_1)], [(0, .raw [.B true, .I p2, .mp 1, .B p3, .B p4, .I p5]), (1, .mpb .t_disk_file a1_2)]⟩) ?_
  refine awp_ret ?_
  obtain rfl := Option.some.inj h
  exact er (.I a1_1)
 refine ff (b := (decide (a1_1 ≠ 0))) (decide_eq_false c1) ?_
 refine awp_skip' ?_
 refine awp_seq ?_
 obtain ⟨⟨a2_0, a2_1, a2_2, a2_3, a2_4, a2_5, a2_6⟩, h2, h⟩ := bind_some h
 dsimp only at h
 refine ar L 223 [] [] [(2, { hids := [0, 1, 2, 3, 4, 5], fx := [0, 1, 2, 3, 4, 5], r := .I a2_0, H' := [(0, .raw [.B true, .I p2, .mp 5, .B a2_1, .B p4, .I a2_2]), (1, .raw [.P 0]), (2, .raw [.str a2_3]), (3, .raw (d_disk_file a2_4)), (4, .raw [.str a2_5]), (5, .mpb .t_disk_file a2_6)], σ := [(0, 0), (1, 200), (2, 201), (3, 213), (4, 202), (5, 1)] })] (cs := [ECall V P 28 [.P 0, .cv (.fn (.func 49) [] [.P 1, .P 2, .P 3, .P 4])] [(0, .raw [.B true, .I p2, .mp 5, .B p3, .B p4, .I p5]), (1, .raw [.P 0]), (2, .raw [.str p0]), (3, .raw (d_disk_file a1_0)), (4, .raw [.str p1]), (5, .mpb .t_disk_file a1_2)] [0, 1, 2, 3, 4, 5] (.I a2_0) [(0, .raw [.B true, .I p2, .mp 5, .B a2_1, .B p4, .I a2_2]), (1, .raw [.P 0]), (2, .raw [.str a2_3]), (3, .raw (d_disk_file a2_4)), (4, .raw [.str a2_5]), (5, .mpb .t_disk_file a2_6)]]) (S' := ⟨[(6, .I a2_0)], [(0, .raw [.B true, .I p2, .mp 1, .B a2_1, .B p4, .I a2_2]), (1, .mpb .t_disk_file a2_6)]⟩) (disk_Disk_change_v7.okE h2) ?_
 refine awp_ret ?_
 obtain rfl := Option.some.inj h
 exact er (.I a2_0)
theorem disk_Disk_Rename_v3.okE {K : Nat} {p0 : List UInt8} {p1 : List UInt8} {p2 : Int} {p3 : Bool} {p4 : Bool} {p5 : Int} {p6 : List (List UInt8 × disk_file)} {r : Int × Bool × Int × (List (List UInt8 × disk_file))} (h : disk_Disk_Rename_v3 K p0 p1 p2 p3 p4 p5 p6 = some r) : ECall V P 33 [.P 0, .cv (.str p0), .cv (.str p1)] [(0, .raw [.B true, .I p2, .mp 1, .B p3, .B p4, .I p5]), (1, .mpb .t_disk_file p6)] [0, 1] (.I r.1) [(0, .raw [.B true, .I p2, .mp 1, .B r.2.1, .B p4, .I r.2.2.1]), (1, .mpb .t_disk_file r.2.2.2)] :=
 eo (fn := Try.f33) (n := 23) (m := 100) fun Γ => disk_Disk_Rename_v3.body h
def disk_Disk_Remove_c1 (K : Nat) (p0 : List UInt8) (p1 : Int) (p2 : Bool) (p3 : Bool) (p4 : Int) (p5 : List (List UInt8 × disk_file)) : Option ((List UInt8) × (List (List UInt8 × disk_file))) := some (p0, (mdel p0 p5))
theorem disk_Disk_Remove_c1.body {Γ : Ent} {K : Nat} {p0 : List UInt8} {p1 : Int} {p2 : Bool} {p3 : Bool} {p4 : Int} {p5 : List (List UInt8 × disk_file)} {r : (List UInt8) × (List (List UInt8 × disk_file))} (h : disk_Disk_Remove_c1 K p0 p1 p2 p3 p4 p5 = some r) : AWp V P 7 100 Γ (Try.f46.body.getD .skip) (EndsE P V Try.f46 (.tup []) [(0, .raw [.P 2]), (1, .raw [.str r.1]), (2, .raw [.B true, .I p1, .mp 3, .B p2, .B p3, .I p4]), (3, .mpb .t_disk_file r.2)]) ⟨args0 0 [.P 0, .P 1], [(0, .raw [.P 2]), (1, .raw [.str p0]), (2, .raw [.B true, .I p1, .mp 3, .B p2, .B p3, .I p4]), (3, .mpb .t_disk_file p5)]⟩ := by
 unfold disk_Disk_Remove_c1 at h
 refine ad L mixed 200 [] [] [] [] 5 (cs := []) (S' := ⟨[], [(0, .raw [.P 2]), (1, .raw [.str p0]), (2, .raw [.B true, .I p1, .mp 3, .B p2, .B p3, .I p4]), (3, .mpb .t_disk_file (mdel p0 p5))]⟩) trivial ?_
 obtain rfl := Option.some.inj h
 exact en (.tup [])
theorem disk_Disk_Remove_c1.okE {K : Nat} {p0 : List UInt8} {p1 : Int} {p2 : Bool} {p3 : Bool} {p4 : Int} {p5 : List (List UInt8 × disk_file)} {r : (List UInt8) × (List (List UInt8 × disk_file))} (h : disk_Disk_Remove_c1 K p0 p1 p2 p3 p4 p5 = some r) : ECall V P 46 [.P 0, .P 1] [(0, .raw [.P 2]), (1, .raw [.str p0]), (2, .raw [.B true, .I p1, .mp 3, .B p2, .B p3, .I p4]), (3, .mpb .t_disk_file p5)] [0, 1, 2, 3] (.tup []) [(0, .raw [.P 2]), (1, .raw [.str r.1]), (2, .raw [.B true, .I p1, .mp 3, .B p2, .B p3, .I p4]), (3, .mpb .t_disk_file r.2)] :=
 eo (fn := Try.f46) (n := 7) (m := 100) fun Γ => disk_Disk_Remove_c1.body h
def disk_Disk_change_v9 (K : Nat) (p0 : Int) (p1 : Bool) (p2 : Bool) (p3 : Int) (p4 : List UInt8) (p5 : List (List UInt8 × disk_file)) : Option (Int × Bool × Int × (List UInt8) × (List (List UInt8 × disk_file))) := (if p2 = true then (if p3 = 0 then some (28, true, p3, p4, p5) else (Option.bind (disk_Disk_Remove_c1 K p4 p0 p1 p2 (IntKind.i64.wrap (p3 - 1)) p5) (fun (a1_0, a1_1) => some (0, p1, (IntKind.i64.wrap (p3 - 1)), a1_0, a1_1)))) else (Option.bind (disk_Disk_Remove_c1 K p4 p0 p1 p2 p3 p5) (fun (a2_0, a2_1) => some (0, p1, p3, a2_0, a2_1))))
theorem disk_Disk_change_v9.body {Γ : Ent} {K : Nat} {p0 : Int} {p1 : Bool} {p2 : Bool} {p3 : Int} {p4 : List UInt8} {p5 : List (List UInt8 × disk_file)} {r : Int × Bool × Int × (List UInt8) × (List (List UInt8 × disk_file))} (h : disk_Disk_change_v9 K p0 p1 p2 p3 p4 p5 = some r) : AWp V P 26 100 Γ (Try.f28.body.getD .skip) (EndsE P V Try.f28 (.I r.1) [(0, .raw [.B true, .I p0, .mp 3, .B r.2.1, .B p2, .I r.2.2.1]), (1, .raw [.P 0]), (2, .raw [.str r.2.2.2.1]), (3, .mpb .t_disk_file r.2.2.2.2)]) ⟨args0 0 [.P 0, .cv (.fn (.func 46) [] [.P 1, .P 2])], [(0, .raw [.B true, .I p0, .mp 3, .B p1, .B p2, .I p3]), (1, .raw [.P 0]), (2, .raw [.str p4]), (3, .mpb .t_disk_file p5)]⟩ := by
 unfold disk_Disk_change_v9 at h
 refine sr0 L 200 [] [] [] (S' := ⟨[(0, .P 0), (1, .cv (.fn (.func 46) [] [.P 1, .P 2]))], [(0, .raw [.B true, .I p0, .mp 3, .B p1, .B p2, .I p3]), (1, .raw [.P 0]), (2, .raw [.str p4]), (3, .mpb .t_disk_file p5)]⟩) ?_
 refine awp_seq ?_
 refine sr0 L 202 [] [] [] (S' := ⟨[(0, .P 0), (1, .cv (.fn (.func 46) [] [.P 1, .P 2])), (8, .B p2)], [(0, .raw [.B true, .I p0, .mp 3, .B p1, .B p2, .I p3]), (1, .raw [.P 0]), (2, .raw [.str p4]), (3, .mpb .t_disk_file p5)]⟩) ?_
 rcases ite_some h with ⟨c1, h⟩ | ⟨c1, h⟩
 ·refine tt (b := p2) (c1) ?_
  refine awp_seq ?_
  refine sr0 L 207 [] [] [] (S' := ⟨[(0, .P 0), (1, .cv (.fn (.func 46) [] [.P 1, .P 2])), (13, .B (decide (p3 = 0)))], [(0, .raw [.B true, .I p0, .mp 3, .B p1, .B p2, .I p3]), (1, .raw [.P 0]), (2, .raw [.str p4]), (3, .mpb .t_disk_file p5)]⟩) ?_
  rcases ite_some h with ⟨c2, h⟩ | ⟨c2, h⟩
  ·refine tt (b := (decide (p3 = 0))) (decide_eq_true c2) ?_
   refine sr0 L 213 [] [] [] (S' := ⟨[], [(0, .raw [.B true, .I p0, .mp 3, .B true, .B p2, .I p3]), (1, .raw [.P 0]), (2, .raw [.str p4]), (3, .mpb .t_disk_file p5)]⟩) ?_
   refine sr0 L 218 [] [] [] (S' := ⟨[(4, .I 28)], [(0, .raw [.B true, .I p0, .mp 3, .B true, .B p2, .I p3]), (1, .raw [.P 0]), (2, .raw [.str p4]), (3, .mpb .t_disk_file p5)]⟩) ?_
   refine awp_ret ?_
   obtain rfl := Option.some.inj h
   exact er (.I 28)
  refine ff (b := (decide (p3 = 0))) (decide_eq_false c2) ?_
  refine awp_skip' ?_
  refine ar0 L 220 [] [] [] (S' := ⟨[(1, .cv (.fn (.func 46) [] [.P 1, .P 2]))], [(0, .raw [.B true, .I p0, .mp 3, .B p1, .B p2, .I (IntKind.i64.wrap (p3 - 1))]), (1, .raw [.P 0]), (2, .raw [.str p4]), (3, .mpb .t_disk_file p5)]⟩) ?_
  refine awp_seq ?_
  obtain ⟨⟨a1_0, a1_1⟩, h1, h⟩ := bind_some h
  dsimp only at h
  refine ar L 229 [] [] [(1, { hids := [0, 1, 2, 3], fx := [0, 1, 2, 3], r := .tup [], H' := [(0, .raw [.P 2]), (1, .raw [.str a1_0]), (2, .raw [.B true, .I p0, .mp 3, .B p1, .B p2, .I (IntKind.i64.wrap (p3 - 1))]), (3, .mpb .t_disk_file a1_1)], σ := [(0, 1), (1, 2), (2, 0), (3, 3)] })] (cs := [ECall V P 46 [.P 0, .P 1] [(0, .raw [.P 2]), (1, .raw [.str p4]), (2, .raw [.B true, .I p0, .mp 3, .B p1, .B p2, .I (IntKind.i64.wrap (p3 - 1))]), (3, .mpb .t_disk_file p5)] [0, 1, 2, 3] (.tup []) [(0, .raw [.P 2]), (1, .raw [.str a1_0]), (2, .raw [.B true, .I p0, .mp 3, .B p1, .B p2, .I (IntKind.i64.wrap (p3 - 1))]), (3, .mpb .t_disk_file a1_1)]]) (S' := ⟨[], [(0, .raw [.B true, .I p0, .mp 3, .B p1, .B p2, .I (IntKind.i64.wrap (p3 - 1))]), (1, .raw [.P 0]), (2, .raw [.str a1_0]), (3, .mpb .t_disk_file a1_1)]⟩) (disk_Disk_Remove_c1.okE h1) ?_
  refine sr0 L 232 [] [] [] (S' := ⟨[(4, .I 0)], [(0, .raw [.B true, .I p0, .mp 3, .B p1, .B p2, .I (IntKind.i64.wrap (p3 - 1))]), (1, .raw [.P 0]), (2, .raw [.str a1_0]), (3, .mpb .t_disk_file a1_1)]⟩) ?_
  refine awp_ret ?_
  obtain rfl := Option.some.inj h
  exact er (.I 0)
 refine ff (b := p2) (eq_false_of_ne_true c1) ?_
 refine awp_skip' ?_
 refine awp_seq ?_
 obtain ⟨⟨a2_0, a2_1⟩, h2, h⟩ := bind_some h
 dsimp only at h
 refine ar L 229 [] [] [(1, { hids := [0, 1, 2, 3], fx := [0, 1, 2, 3], r := .tup [], H' := [(0, .raw [.P 2]), (1, .raw [.str a2_0]), (2, .raw [.B true, .I p0, .mp 3, .B p1, .B p2, .I p3]), (3, .mpb .t_disk_file a2_1)], σ := [(0, 1), (1, 2), (2, 0), (3, 3)] })] (cs := [ECall V P 46 [.P 0, .P 1] [(0, .raw [.P 2]), (1, .raw [.str p4]), (2, .raw [.B true, .I p0, .mp 3, .B p1, .B p2, .I p3]), (3, .mpb .t_disk_file p5)] [0, 1, 2, 3] (.tup []) [(0, .raw [.P 2]), (1, .raw [.str a2_0]), (2, .raw [.B true, .I p0, .mp 3, .B p1, .B p2, .I p3]), (3, .mpb .t_disk_file a2_1)]]) (S' := ⟨[], [(0, .raw [.B true, .I p0, .mp 3, .B p1, .B p2, .I p3]), (1, .raw [.P 0]), (2, .raw [.str a2_0]), (3, .mpb .t_disk_file a2_1)]⟩) (disk_Disk_Remove_c1.okE h2) ?_
 refine sr0 L 232 [] [] [] (S' := ⟨[(4, .I 0)], [(0, .raw [.B true, .I p0, .mp 3, .B p1, .B p2, .I p3]), (1, .raw [.P 0]), (2, .raw [.str a2_0]), (3, .mpb .t_disk_file a2_1)]⟩) ?_
 refine awp_ret ?_
 obtain rfl := Option.some.inj h
 exact er (.I 0)
theorem disk_Disk_change_v9.okE {K : Nat} {p0 : Int} {p1 : Bool} {p2 : Bool} {p3 : Int} {p4 : List UInt8} {p5 : List (List UInt8 × disk_file)} {r : Int × Bool × Int × (List UInt8) × (List (List UInt8 × disk_file))} (h : disk_Disk_change_v9 K p0 p1 p2 p3 p4 p5 = some r) : ECall V P 28 [.P 0, .cv (.fn (.func 46) [] [.P 1, .P 2])] [(0, .raw [.B true, .I p0, .mp 3, .B p1, .B p2, .I p3]), (1, .raw [.P 0]), (2, .raw [.str p4]), (3, .mpb .t_disk_file p5)] [0, 1, 2, 3] (.I r.1) [(0, .raw [.B true, .I p0, .mp 3, .B r.2.1, .B p2, .I r.2.2.1]), (1, .raw [.P 0]), (2, .raw [.str r.2.2.2.1]), (3, .mpb .t_disk_file r.2.2.2.2)] :=
 eo (fn := Try.f28) (n := 26) (m := 100) fun Γ => disk_Disk_change_v9.body h
def disk_Disk_Remove_v3 (K : Nat) (p0 : List UInt8) (p1 : Int) (p2 : Bool) (p3 : Bool) (p4 : Int) (p5 : List (List UInt8 × disk_file)) : Option (Int × Bool × Int × (List (List UInt8 × disk_file))) := (Option.bind (disk_Disk_existing_v2 K p0 ([] : List (List UInt8)) p1 p2 p3 p4 p5) (fun (a1_0, a1_1, a1_2) => (if a1_1 ≠ 0 then some (a1_1, p2, p4, a1_2) else (Option.bind (disk_Disk_change_v9 K p1 p2 p3 p4 p0 a1_2) (fun (a2_0, a2_1, a2_2, a2_3, a2_4) => some (a2_0, a2_1, a2_2, a2_4))))))
theorem disk_Disk_Remove_v3.body {Γ : Ent} {K : Nat} {p0 : List UInt8} {p1 : Int} {p2 : Bool} {p3 : Bool} {p4 : Int} {p5 : List (List UInt8 × disk_file)} {r : Int × Bool × Int × (List (List UInt8 × disk_file))} (h : disk_Disk_Remove_v3 K p0 p1 p2 p3 p4 p5 = some r) : AWp V P 19 100 Γ (Try.f23.body.getD .skip) (EndsE P V Try.f23 (.I r.1) [(0, .raw [.B true, .I p1, .mp 1, .B r.2.1, .B p3, .I r.2.2.1]), (1, .mpb .t_disk_file r.2.2.2)]) ⟨args0 0 [.P 0, .cv (.str p0)], [(0, .raw [.B true, .I p1, .mp 1, .B p2, .B p3, .I p4]), (1, .mpb .t_disk_file p5)]⟩ := by
 unfold disk_Disk_Remove_v3 at h
 refine sr0 L 200 [] [] [] (S' := ⟨[(2, .P 200), (3, .P 201)], [(0, .raw [.B true, .I p1, .mp 1, .B p2, .B p3, .I p4]), (1, .mpb .t_disk_file p5), (200, .raw [.P 0]), (201, .raw [.str p0])]⟩) ?_
 refine awp_seq ?_
 refine awp_seq ?_
 obtain ⟨⟨a1_0, a1_1, a1_2⟩, h1, h⟩ := bind_some h
 dsimp only at h
 refine ar L 204 [] [] [(2, { hids := [0, 1], fx := [0, 1], r := .tup [.agg (d_disk_file a1_0), .I a1_1], H' := [(0, .raw [.B true, .I p1, .mp 1, .B p2, .B p3, .I p4]), (1, .mpb .t_disk_file a1_2)], σ := [(0, 0), (1, 1)] })] (cs := [ECall V P 30 [.P 0, .cv (.str p0), .N] [(0, .raw [.B true, .I p1, .mp 1, .B p2, .B p3, .I p4]), (1, .mpb .t_disk_file p5)] [0, 1] (.tup [.agg (d_disk_file a1_0), .I a1_1]) [(0, .raw [.B true, .I p1, .mp 1, .B p2, .B p3, .I p4]), (1, .mpb .t_disk_file a1_2)]]) (S' := ⟨[(2, .P 200), (3, .P 201), (6, .I a1_1)], [(0, .raw [.B true, .I p1, .mp 1, .B p2, .B p3, .I p4]), (1, .mpb .t_disk_file a1_2), (200, .raw [.P 0]), (201, .raw [.str p0])]⟩) (ECall.co (disk_Disk_existing_v2.okE h1) (by kernel_rfl) (by kernel_rfl)) ?_
 refine sr0 L 214 [] [] [] (S' := ⟨[(2, .P 200), (3, .P 201), (6, .I a1_1), (14, .B (decide (a1_1 ≠ 0)))], [(0, .raw [.B true, .I p1, .mp 1, .B p2, .B p3, .I p4]), (1, .mpb .t_disk_file a1_2), (200, .raw [.P 0]), (201, .raw [.str p0])]⟩) ?_
 rcases ite_some h with ⟨c1, h⟩ | ⟨c1, h⟩
 ·refine tt (b := (decide (a1_1 ≠ 0))) (decide_eq_true c1) ?_
  refine sr0 L 217 [] [] [] (S' := ⟨[(4, .I a1_1)], [(0, .raw [.B true, .I p1, .mp 1, .B p2, .B p3, .I p4]), (1, .mpb .t_disk_file a1_2)]⟩) ?_
  refine awp_ret ?_
  obtain rfl := Option.some.inj h
  exact er (.I a1_1)
 refine ff (b := (decide (a1_1 ≠ 0))) (decide_eq_false c1) ?_
 refine awp_skip' ?_
 refine awp_seq ?_
 obtain ⟨⟨a2_0, a2_1, a2_2, a2_3, a2_4⟩, h2, h⟩ := bind_some h
 dsimp only at h
 refine ar L 220 [] [] [(2, { hids := [0, 1, 2, 3], fx := [0, 1, 2, 3], r := .I a2_0, H' := [(0, .raw [.B true, .I p1, .mp 3, .B a2_1, .B p3, .I a2_2]), (1, .raw [.P 0]), (2, .raw [.str a2_3]), (3, .mpb .t_disk_file a2_4)], σ := [(0, 0), (1, 200), (2, 201), (3, 1)] })] (cs := [ECall V P 28 [.P 0, .cv (.fn (.func 46) [] [.P 1, .P 2])] [(0, .raw [.B true, .I p1, .mp 3, .B p2, .B p3, .I p4]), (1, .raw [.P 0]), (2, .raw [.str p0]), (3, .mpb .t_disk_file a1_2)] [0, 1, 2, 3] (.I a2_0) [(0, .raw [.B true, .I p1, .mp 3, .B a2_1, .B p3, .I a2_2]), (1, .raw [.P 0]), (2, .raw [.str a2_3]), (3, .mpb .t_disk_file a2_4)]]) (S' := ⟨[(4, .I a2_0)], [(0, .raw [.B true, .I p1, .mp 1, .B a2_1, .B p3, .I a2_2]), (1, .mpb .t_disk_file a2_4)]⟩) (disk_Disk_change_v9.okE h2) ?_
 refine awp_ret ?_
 obtain rfl := Option.some.inj h
 exact er (.I a2_0)
theorem disk_Disk_Remove_v3.okE {K : Nat} {p0 : List UInt8} {p1 : Int} {p2 : Bool} {p3 : Bool} {p4 : Int} {p5 : List (List UInt8 × disk_file)} {r : Int × Bool × Int × (List (List UInt8 × disk_file))} (h : disk_Disk_Remove_v3 K p0 p1 p2 p3 p4 p5 = some r) : ECall V P 23 [.P 0, .cv (.str p0)] [(0, .raw [.B true, .I p1, .mp 1, .B p2, .B p3, .I p4]), (1, .mpb .t_disk_file p5)] [0, 1] (.I r.1) [(0, .raw [.B true, .I p1, .mp 1, .B r.2.1, .B p3, .I r.2.2.1]), (1, .mpb .t_disk_file r.2.2.2)] :=
 eo (fn := Try.f23) (n := 19) (m := 100) fun Γ => disk_Disk_Remove_v3.body h
def workflowlaw50_does_v3 (K : Nat) (p0 : workflowlaw50_Step) (p1 : Int) (p2 : Bool) (p3 : Bool) (p4 : Int) (p5 : List (List UInt8 × disk_file)) : Option ((Int × (List UInt8) × Bool × Bool × Int × (List (List UInt8 × disk_file))) ⊕ ((List (List UInt8 × disk_file)) × (List (List UInt8 × disk_file)))) := (if p0.Kind = 0 then (Option.bind (disk_Disk_Append_v2 K p0.Name p0.Data p1 p2 p3 p4 p5) (fun (a1_0, a1_1, a1_2, a1_3) => some (Sum.inl (a1_0, ([] : List UInt8), a1_1, p3, a1_2, a1_3)))) else (if p0.Kind = 1 then (Option.bind (disk_Disk_Sync_v2 K p0.Name p1 p2 p3 p4 p5) (fun (a2_0, a2_1, a2_2, a2_3) => some (Sum.inl (a2_0, ([] : List UInt8), a2_1, p3, a2_2, a2_3)))) else (if p0.Kind = 2 then (Option.bind (disk_Disk_Rename_v3 K p0.Name p0.To p1 p2 p3 p4 p5) (fun (a3_0, a3_1, a3_2, a3_3) => some (Sum.inl (a3_0, ([] : List UInt8), a3_1, p3, a3_2, a3_3)))) else (if p0.Kind = 3 then (Option.bind (disk_Disk_Remove_v3 K p0.Name p1 p2 p3 p4 p5) (fun (a4_0, a4_1, a4_2, a4_3) => some (Sum.inl (a4_0, ([] : List UInt8), a4_1, p3, a4_2, a4_3)))) else (if p0.Kind = 4 then (Option.bind (disk_Disk_Read_v2 K p0.Name p1 p2 p3 p4 p5) (fun (a5_0, a5_1, a5_2) => some (Sum.inl (a5_1, a5_0, p2, p3, p4, a5_2)))) else (if p0.Kind = 5 then (Option.bind (disk_Disk_Fuse_v2 K p0.N p1 p2 p3 p4 p5) (fun (a6_0, a6_1, a6_2, a6_3) => some (Sum.inl (a6_0, ([] : List UInt8), p2, a6_1, a6_2, a6_3)))) else (if p0.Kind = 6 then (Option.bind (disk_Disk_Crash_v2 K p0.N p1 p2 p3 p4 p5) (fun (a7_0, a7_1, a7_2, a7_3, a7_4) => some (Sum.inl (a7_0, ([] : List UInt8), a7_1, a7_2, a7_3, a7_4)))) else (Option.bind (disk_Disk_Copy K p1 p5 p2 p3 p4) (fun a8 => some (Sum.inr (p5, a8)))))))))))
def workflowlaw50_does_v3.rep (p0 : workflowlaw50_Step) (p1 : Int) (p2 : Bool) (p3 : Bool) (p4 : Int) (p5 : List (List UInt8 × disk_file)) : (Int × (List UInt8) × Bool × Bool × Int × (List (List UInt8 × disk_file))) ⊕ ((List (List UInt8 × disk_file)) × (List (List UInt8 × disk_file))) → AV T
 | (Sum.inl (v0, v1, v2, v3, v4, v5)) => .tup [.P 0, .I v0, .cv (.ro .t_uint8 v1)]
 | (Sum.inr (v0, v1)) => .tup [.P 100, .I 0, .cv (.ro .t_uint8 ([] : List UInt8))]
def workflowlaw50_does_v3.post (p0 : workflowlaw50_Step) (p1 : Int) (p2 : Bool) (p3 : Bool) (p4 : Int) (p5 : List (List UInt8 × disk_file)) : (Int × (List UInt8) × Bool × Bool × Int × (List (List UInt8 × disk_file))) ⊕ ((List (List UInt8 × disk_file)) × (List (List UInt8 × disk_file))) → List (Nat × Blk T)
 | (Sum.inl (v0, v1, v2, v3, v4, v5)) => [(0, .raw [.B true, .I p1, .mp 1, .B v2, .B v3, .I v4]), (1, .mpb .t_disk_file v5)]
 | (Sum.inr (v0, v1)) => [(0, .raw [.B true, .I p1, .mp 1, .B p2, .B p3, .I p4]), (1, .mpb .t_disk_file v0), (100, .raw [.B true, .I p1, .mp 101, .B p2, .B p3, .I p4]), (101, .mpb .t_disk_file v1)]
theorem workflowlaw50_does_v3.body {Γ : Ent} {K : Nat} {p0 : workflowlaw50_Step} {p1 : Int} {p2 : Bool} {p3 : Bool} {p4 : Int} {p5 : List (List UInt8 × disk_file)} {r : (Int × (List UInt8) × Bool × Bool × Int × (List (List UInt8 × disk_file))) ⊕ ((List (List UInt8 × disk_file)) × (List (List UInt8 × disk_file)))} (h : workflowlaw50_does_v3 K p0 p1 p2 p3 p4 p5 = some r) : AWp V P 71 100 Γ (Try.f19.body.getD .skip) (EndsE P V Try.f19 (workflowlaw50_does_v3.rep p0 p1 p2 p3 p4 p5 r) (workflowlaw50_does_v3.post p0 p1 p2 p3 p4 p5 r)) ⟨args0 0 [.P 0, .agg (d_workflowlaw50_Step p0)], [(0, .raw [.B true, .I p1, .mp 1, .B p2, .B p3, .I p4]), (1, .mpb .t_disk_file p5)]⟩ := by
 unfold workflowlaw50_does_v3 at h
 refine sr0 L 200 [] [] [] (S' := ⟨[(0, .P 0), (3, .P 200)], [(0, .raw [.B true, .I p1, .mp 1, .B p2, .B p3, .I p4]), (1, .mpb .t_disk_file p5), (200, .raw (d_workflowlaw50_Step p0))]⟩) ?_
 refine awp_seq ?_
 refine sr0 L 205 [] [] [] (S' := ⟨[(0, .P 0), (3, .P 200), (10, .I p0.Kind)], [(0, .raw [.B true, .I p1, .mp 1, .B p2, .B p3, .I p4]), (1, .mpb .t_disk_file p5), (200, .raw (d_workflowlaw50_Step p0))]⟩) ?_
 refine awp_block ?_
 refine sr0 L 208 [] [] [] (S' := ⟨[(0, .P 0), (3, .P 200), (10, .I p0.Kind), (11, .B (decide (p0.Kind = 0)))], [(0, .raw [.B true, .I p1, .mp 1, .B p2, .B p3, .I p4]), (1, .mpb .t_disk_file p5), (200, .raw (d_workflowlaw50_Step p0))]⟩) ?_
 rcases ite_some h with ⟨c1, h⟩ | ⟨c1, h⟩
 ·refine tt (b := (decide (p0.Kind = 0))) (decide_eq_true c1) ?_
  refine awp_seq ?_
  obtain ⟨⟨a1_0, a1_1, a1_2, a1_3⟩, h1, h⟩ := bind_some h
  dsimp only at h
  refine ar L 211 [] [] [(6, { hids := [0, 1], fx := [0, 1], r := .I a1_0, H' := [(0, .raw [.B true, .I p1, .mp 1, .B a1_1, .B p3, .I a1_2]), (1, .mpb .t_disk_file a1_3)], σ := [(0, 0), (1, 1)] })] (cs := [ECall V P 11 [.P 0, .cv (.str p0.Name), .cv (.ro .t_uint8 p0.Data)] [(0, .raw [.B true, .I p1, .mp 1, .B p2, .B p3, .I p4]), (1, .mpb .t_disk_file p5)] [0, 1] (.I a1_0) [(0, .raw [.B true, .I p1, .mp 1, .B a1_1, .B p3, .I a1_2]), (1, .mpb .t_disk_file a1_3)]]) (S' := ⟨[(4, .P 0), (5, .I a1_0), (6, .N)], [(0, .raw [.B true, .I p1, .mp 1, .B a1_1, .B p3, .I a1_2]), (1, .mpb .t_disk_file a1_3)]⟩) (disk_Disk_Append_v2.okE h1) ?_
  refine awp_ret ?_
  obtain rfl := Option.some.inj h
  exact er (.tup [.P 0, .I a1_0, .N])
 refine ff (b := (decide (p0.Kind = 0))) (decide_eq_false c1) ?_
 refine sr0 L 222 [] [] [] (S' := ⟨[(0, .P 0), (3, .P 200), (10, .I p0.Kind), (20, .B (decide (p0.Kind = 1)))], [(0, .raw [.B true, .I p1, .mp 1, .B p2, .B p3, .I p4]), (1, .mpb .t_disk_file p5), (200, .raw (d_workflowlaw50_Step p0))]⟩) ?_
 rcases ite_some h with ⟨c2, h⟩ | ⟨c2, h⟩
 ·refine tt (b := (decide (p0.Kind = 1))) (decide_eq_true c2) ?_
  refine awp_seq ?_
  obtain ⟨⟨a2_0, a2_1, a2_2, a2_3⟩, h2, h⟩ := bind_some h
  dsimp only at h
  refine ar L 225 [] [] [(4, { hids := [0, 1], fx := [0, 1], r := .I a2_0, H' := [(0, .raw [.B true, .I p1, .mp 1, .B a2_1, .B p3, .I a2_2]), (1, .mpb .t_disk_file a2_3)], σ := [(0, 0), (1, 1)] })] (cs := [ECall V P 13 [.P 0, .cv (.str p0.Name)] [(0, .raw [.B true, .I p1, .mp 1, .B p2, .B p3, .I p4]), (1, .mpb .t_disk_file p5)] [0, 1] (.I a2_0) [(0, .raw [.B true, .I p1, .mp 1, .B a2_1, .B p3, .I a2_2]), (1, .mpb .t_disk_file a2_3)]]) (S' := ⟨[(4, .P 0), (5, .I a2_0), (6, .N)], [(0, .raw [.B true, .I p1, .mp 1, .B a2_1, .B p3, .I a2_2]), (1, .mpb .t_disk_file a2_3)]⟩) (disk_Disk_Sync_v2.okE h2) ?_
  refine awp_ret ?_
  obtain rfl := Option.some.inj h
  exact er (.tup [.P 0, .I a2_0, .N])
 refine ff (b := (decide (p0.Kind = 1))) (decide_eq_false c2) ?_
 refine sr0 L 234 [] [] [] (S' := ⟨[(0, .P 0), (3, .P 200), (10, .I p0.Kind), (27, .B (decide (p0.Kind = 2)))], [(0, .raw [.B true, .I p1, .mp 1, .B p2, .B p3, .I p4]), (1, .mpb .t_disk_file p5), (200, .raw (d_workflowlaw50_Step p0))]⟩) ?_
 rcases ite_some h with ⟨c3, h⟩ | ⟨c3, h⟩
 ·refine tt (b := (decide (p0.Kind = 2))) (decide_eq_true c3) ?_
  refine awp_seq ?_
  obtain ⟨⟨a3_0, a3_1, a3_2, a3_3⟩, h3, h⟩ := bind_some h
  dsimp only at h
  refine ar L 237 [] [] [(6, { hids := [0, 1], fx := [0, 1], r := .I a3_0, H' := [(0, .raw [.B true, .I p1, .mp 1, .B a3_1, .B p3, .I a3_2]), (1, .mpb .t_disk_file a3_3)], σ := [(0, 0), (1, 1)] })] (cs := [ECall V P 33 [.P 0, .cv (.str p0.Name), .cv (.str p0.To)] [(0, .raw [.B true, .I p1, .mp 1, .B p2, .B p3, .I p4]), (1, .mpb .t_disk_file p5)] [0, 1] (.I a3_0) [(0, .raw [.B true, .I p1, .mp 1, .B a3_1, .B p3, .I a3_2]), (1, .mpb .t_disk_file a3_3)]]) (S' := ⟨[(4, .P 0), (5, .I a3_0), (6, .N)], [(0, .raw [.B true, .I p1, .mp 1, .B a3_1, .B p3, .I a3_2]), (1, .mpb .t_disk_file a3_3)]⟩) (disk_Disk_Rename_v3.okE h3) ?_
  refine awp_ret ?_
  obtain rfl := Option.some.inj h
  exact er (.tup [.P 0, .I a3_0, .N])
 refine ff (b := (decide (p0.Kind = 2))) (decide_eq_false c3) ?_
 refine sr0 L 248 [] [] [] (S' := ⟨[(0, .P 0), (3, .P 200), (10, .I p0.Kind), (36, .B (decide (p0.Kind = 3)))], [(0, .raw [.B true, .I p1, .mp 1, .B p2, .B p3, .I p4]), (1, .mpb .t_disk_file p5), (200, .raw (d_workflowlaw50_Step p0))]⟩) ?_
 rcases ite_some h with ⟨c4, h⟩ | ⟨c4, h⟩
 ·refine tt (b := (decide (p0.Kind = 3))) (decide_eq_true c4) ?_
  refine awp_seq ?_
  obtain ⟨⟨a4_0, a4_1, a4_2, a4_3⟩, h4, h⟩ := bind_some h
  dsimp only at h
  refine ar L 251 [] [] [(4, { hids := [0, 1], fx := [0, 1], r := .I a4_0, H' := [(0, .raw [.B true, .I p1, .mp 1, .B a4_1, .B p3, .I a4_2]), (1, .mpb .t_disk_file a4_3)], σ := [(0, 0), (1, 1)] })] (cs := [ECall V P 23 [.P 0, .cv (.str p0.Name)] [(0, .raw [.B true, .I p1, .mp 1, .B p2, .B p3, .I p4]), (1, .mpb .t_disk_file p5)] [0, 1] (.I a4_0) [(0, .raw [.B true, .I p1, .mp 1, .B a4_1, .B p3, .I a4_2]), (1, .mpb .t_disk_file a4_3)]]) (S' := ⟨[(4, .P 0), (5, .I a4_0), (6, .N)], [(0, .raw [.B true, .I p1, .mp 1, .B a4_1, .B p3, .I a4_2]), (1, .mpb .t_disk_file a4_3)]⟩) (disk_Disk_Remove_v3.okE h4) ?_
  refine awp_ret ?_
  obtain rfl := Option.some.inj h
  exact er (.tup [.P 0, .I a4_0, .N])
 refine ff (b := (decide (p0.Kind = 3))) (decide_eq_false c4) ?_
 refine sr0 L 260 [] [] [] (S' := ⟨[(0, .P 0), (3, .P 200), (10, .I p0.Kind), (43, .B (decide (p0.Kind = 4)))], [(0, .raw [.B true, .I p1, .mp 1, .B p2, .B p3, .I p4]), (1, .mpb .t_disk_file p5), (200, .raw (d_workflowlaw50_Step p0))]⟩) ?_
 rcases ite_some h with ⟨c5, h⟩ | ⟨c5, h⟩
 ·refine tt (b := (decide (p0.Kind = 4))) (decide_eq_true c5) ?_
  refine awp_seq ?_
  obtain ⟨⟨a5_0, a5_1, a5_2⟩, h5, h⟩ := bind_some h
  dsimp only at h
  refine ar L 263 [] [] [(3, { hids := [0, 1], fx := [0, 1], r := .tup [.cv (.ro .t_uint8 a5_0), .I a5_1], H' := [(0, .raw [.B true, .I p1, .mp 1, .B p2, .B p3, .I p4]), (1, .mpb .t_disk_file a5_2)], σ := [(0, 0), (1, 1)] })] (cs := [ECall V P 15 [.P 0, .cv (.str p0.Name)] [(0, .raw [.B true, .I p1, .mp 1, .B p2, .B p3, .I p4]), (1, .mpb .t_disk_file p5)] [0, 1] (.tup [.cv (.ro .t_uint8 a5_0), .I a5_1]) [(0, .raw [.B true, .I p1, .mp 1, .B p2, .B p3, .I p4]), (1, .mpb .t_disk_file a5_2)]]) (S' := ⟨[(0, .P 0), (7, .cv (.ro .t_uint8 a5_0)), (8, .I a5_1)], [(0, .raw [.B true, .I p1, .mp 1, .B p2, .B p3, .I p4]), (1, .mpb .t_disk_file a5_2)]⟩) (disk_Disk_Read_v2.okE h5) ?_
  refine sr0 L 273 [] [] [] (S' := ⟨[(4, .P 0), (5, .I a5_1), (6, .cv (.ro .t_uint8 a5_0))], [(0, .raw [.B true, .I p1, .mp 1, .B p2, .B p3, .I p4]), (1, .mpb .t_disk_file a5_2)]⟩) ?_
  refine awp_ret ?_
  obtain rfl := Option.some.inj h
  exact er (.tup [.P 0, .I a5_1, .cv (.ro .t_uint8 a5_0)])
 refine ff (b := (decide (p0.Kind = 4))) (decide_eq_false c5) ?_
 refine sr0 L 280 [] [] [] (S' := ⟨[(0, .P 0), (3, .P 200), (10, .I p0.Kind), (55, .B (decide (p0.Kind = 5)))], [(0, .raw [.B true, .I p1, .mp 1, .B p2, .B p3, .I p4]), (1, .mpb .t_disk_file p5), (200, .raw (d_workflowlaw50_Step p0))]⟩) ?_
 rcases ite_some h with ⟨c6, h⟩ | ⟨c6, h⟩
 ·refine tt (b := (decide (p0.Kind = 5))) (decide_eq_true c6) ?_
  refine awp_seq ?_
  obtain ⟨⟨a6_0, a6_1, a6_2, a6_3⟩, h6, h⟩ := bind_some h
  dsimp only at h
  refine ar L 283 [] [] [(4, { hids := [0, 1], fx := [0, 1], r := .I a6_0, H' := [(0, .raw [.B true, .I p1, .mp 1, .B p2, .B a6_1, .I a6_2]), (1, .mpb .t_disk_file a6_3)], σ := [(0, 0), (1, 1)] })] (cs := [ECall V P 9 [.P 0, .I p0.N] [(0, .raw [.B true, .I p1, .mp 1, .B p2, .B p3, .I p4]), (1, .mpb .t_disk_file p5)] [0, 1] (.I a6_0) [(0, .raw [.B true, .I p1, .mp 1, .B p2, .B a6_1, .I a6_2]), (1, .mpb .t_disk_file a6_3)]]) (S' := ⟨[(4, .P 0), (5, .I a6_0), (6, .N)], [(0, .raw [.B true, .I p1, .mp 1, .B p2, .B a6_1, .I a6_2]), (1, .mpb .t_disk_file a6_3)]⟩) (disk_Disk_Fuse_v2.okE h6) ?_
  refine awp_ret ?_
  obtain rfl := Option.some.inj h
  exact er (.tup [.P 0, .I a6_0, .N])
 refine ff (b := (decide (p0.Kind = 5))) (decide_eq_false c6) ?_
 refine sr0 L 292 [] [] [] (S' := ⟨[(0, .P 0), (3, .P 200), (62, .B (decide (p0.Kind = 6)))], [(0, .raw [.B true, .I p1, .mp 1, .B p2, .B p3, .I p4]), (1, .mpb .t_disk_file p5), (200, .raw (d_workflowlaw50_Step p0))]⟩) ?_
 rcases ite_some h with ⟨c7, h⟩ | ⟨c7, h⟩
 ·refine tt (b := (decide (p0.Kind = 6))) (decide_eq_true c7) ?_
  refine awp_seq ?_
  obtain ⟨⟨a7_0, a7_1, a7_2, a7_3, a7_4⟩, h7, h⟩ := bind_some h
  dsimp only at h
  refine ar L 295 [] [] [(4, { hids := [0, 1], fx := [0, 1], r := .I a7_0, H' := [(0, .raw [.B true, .I p1, .mp 1, .B a7_1, .B a7_2, .I a7_3]), (1, .mpb .t_disk_file a7_4)], σ := [(0, 0), (1, 1)] })] (cs := [ECall V P 16 [.P 0, .I p0.N] [(0, .raw [.B true, .I p1, .mp 1, .B p2, .B p3, .I p4]), (1, .mpb .t_disk_file p5)] [0, 1] (.I a7_0) [(0, .raw [.B true, .I p1, .mp 1, .B a7_1, .B a7_2, .I a7_3]), (1, .mpb .t_disk_file a7_4)]]) (S' := ⟨[(4, .P 0), (5, .I a7_0), (6, .N)], [(0, .raw [.B true, .I p1, .mp 1, .B a7_1, .B a7_2, .I a7_3]), (1, .mpb .t_disk_file a7_4)]⟩) (disk_Disk_Crash_v2.okE h7) ?_
  refine awp_ret ?_
  obtain rfl := Option.some.inj h
  exact er (.tup [.P 0, .I a7_0, .N])
 refine ff (b := (decide (p0.Kind = 6))) (decide_eq_false c7) ?_
 refine awp_skip' ?_
 refine awp_seq ?_
 obtain ⟨a8, h8, h⟩ := bind_some h
 refine ar L 304 [] [] [(1, { hids := [0, 1], fx := [0, 1], r := .P 100, H' := [(0, .raw [.B true, .I p1, .mp 1, .B p2, .B p3, .I p4]), (1, .mpb .t_disk_file p5), (100, .raw [.B true, .I p1, .mp 101, .B p2, .B p3, .I p4]), (101, .mpb .t_disk_file a8)], σ := [(0, 0), (1, 1), (100, 5840), (101, 5841)] })] (cs := [ECall V P 10 [.P 0] [(0, .raw [.B true, .I p1, .mp 1, .B p2, .B p3, .I p4]), (1, .mpb .t_disk_file p5)] [0, 1] (.P 100) [(0, .raw [.B true, .I p1, .mp 1, .B p2, .B p3, .I p4]), (1, .mpb .t_disk_file p5), (100, .raw [.B true, .I p1, .mp 101, .B p2, .B p3, .I p4]), (101, .mpb .t_disk_file a8)]]) (S' := ⟨[(4, .P 5840), (5, .I 0), (6, .N)], [(0, .raw [.B true, .I p1, .mp 1, .B p2, .B p3, .I p4]), (1, .mpb .t_disk_file p5), (5840, .raw [.B true, .I p1, .mp 5841, .B p2, .B p3, .I p4]), (5841, .mpb .t_disk_file a8)]⟩) (ECall.lift' L Tag.t_disk_file (fun x => by kernel_rfl) (disk_Disk_Copy.okE h8) (by kernel_rfl) (by kernel_rfl) (by kernel_rfl) (by kernel_rfl)) ?_
 refine awp_turn (Turns.rn [(0, 0), (1, 1), (5840, 100), (5841, 101)] (S' := ⟨[(4, .P 100), (5, .I 0), (6, .N)], [(0, .raw [.B true, .I p1, .mp 1, .B p2, .B p3, .I p4]), (1, .mpb .t_disk_file p5), (100, .raw [.B true, .I p1, .mp 101, .B p2, .B p3, .I p4]), (101, .mpb .t_disk_file a8)]⟩)) ?_
 refine awp_ret ?_
 obtain rfl := Option.some.inj h
 exact er (.tup [.P 100, .I 0, .N])
theorem workflowlaw50_does_v3.okE {K : Nat} {p0 : workflowlaw50_Step} {p1 : Int} {p2 : Bool} {p3 : Bool} {p4 : Int} {p5 : List (List UInt8 × disk_file)} {r : (Int × (List UInt8) × Bool × Bool × Int × (List (List UInt8 × disk_file))) ⊕ ((List (List UInt8 × disk_file)) × (List (List UInt8 × disk_file)))} (h : workflowlaw50_does_v3 K p0 p1 p2 p3 p4 p5 = some r) : ECall V P 19 [.P 0, .agg (d_workflowlaw50_Step p0)] [(0, .raw [.B true, .I p1, .mp 1, .B p2, .B p3, .I p4]), (1, .mpb .t_disk_file p5)] [0, 1] (workflowlaw50_does_v3.rep p0 p1 p2 p3 p4 p5 r) (workflowlaw50_does_v3.post p0 p1 p2 p3 p4 p5 r) :=
 eo (fn := Try.f19) (n := 71) (m := 100) fun Γ => workflowlaw50_does_v3.body h
def workflowref50_none (K : Nat) (p0 : List workflowref50_File) (p1 : Int) (p2 : Int) (p3 : Bool) : Option Unit := some ()
theorem workflowref50_none.body {Γ : Ent} {K : Nat} {p0 : List workflowref50_File} {p1 : Int} {p2 : Int} {p3 : Bool} {r : Unit} (h : workflowref50_none K p0 p1 p2 p3 = some r) : AWp V P 12 100 Γ (Try.f57.body.getD .skip) (EndsE P V Try.f57 (.B false) []) ⟨args0 0 [.cv (.pcs [.ro .t_workflowref50_File p0, .I p1, .I p2, .B p3, .B true] 0)], []⟩ := by
 unfold workflowref50_none at h
 refine sr0 L 200 [] [] [] (S' := ⟨[(0, .cv (.pcs [.ro .t_workflowref50_File p0, .I p1, .I p2, .B p3, .B true] 0))], []⟩) ?_
 refine sr0 L 202 [] [] [] (S' := ⟨[(2, .B false)], []⟩) ?_
 refine awp_ret ?_
 obtain rfl := Option.some.inj h
 exact er (.B false)
theorem workflowref50_none.ok {K : Nat} {p0 : List workflowref50_File} {p1 : Int} {p2 : Int} {p3 : Bool} {r : Unit} (h : workflowref50_none K p0 p1 p2 p3 = some r) : PCall V P 57 [.cv (.pcs [.ro .t_workflowref50_File p0, .I p1, .I p2, .B p3, .B true] 0)] (.B false) := ECall.pcall (eo (fn := Try.f57) (n := 12) (m := 100) fun Γ => workflowref50_none.body h) (by kernel_rfl)
def workflowref50_ready (K : Nat) (p0 : List workflowref50_File) (p1 : Int) (p2 : Int) (p3 : Bool) : Option Int := (Option.bind (workflowref50_none K p0 p1 p2 p3) (fun _ => (if p3 = true then some 28 else some 0)))
theorem workflowref50_ready.body {Γ : Ent} {K : Nat} {p0 : List workflowref50_File} {p1 : Int} {p2 : Int} {p3 : Bool} {r : Int} (h : workflowref50_ready K p0 p1 p2 p3 = some r) : AWp V P 9 100 Γ (Try.f50.body.getD .skip) (EndsE P V Try.f50 (.I r) []) ⟨args0 0 [.cv (.pcs [.ro .t_workflowref50_File p0, .I p1, .I p2, .B p3, .B true] 0)], []⟩ := by
 unfold workflowref50_ready at h
 refine sr0 L 200 [] [] [] (S' := ⟨[(0, .cv (.pcs [.ro .t_workflowref50_File p0, .I p1, .I p2, .B p3, .B true] 0))], []⟩) ?_
 refine awp_seq ?_
 refine awp_seq ?_
 obtain ⟨⟨⟩, h1, h⟩ := bind_some h
 refine ar L 202 [] [(1, .B false)] [] (cs := [PCall V P 57 [.cv (.pcs [.ro .t_workflowref50_File p0, .I p1, .I p2, .B p3, .B true] 0)] (.B false), True]) (S' := ⟨[(0, .cv (.pcs [.ro .t_workflowref50_File p0, .I p1, .I p2, .B p3, .B true] 0)), (4, .B false)], []⟩) (And.intro (workflowref50_none.ok h1) trivial) ?_
 refine ff (b := false) (rfl) ?_
 refine awp_skip' ?_
 refine awp_seq ?_
 refine sr0 L 207 [] [] [] (S' := ⟨[(8, .B p3)], []⟩) ?_
 rcases ite_some h with ⟨c1, h⟩ | ⟨c1, h⟩
 ·refine tt (b := p3) (c1) ?_
  refine sr0 L 212 [] [] [] (S' := ⟨[(2, .I 28)], []⟩) ?_
  refine awp_ret ?_
  obtain rfl := Option.some.inj h
  exact er (.I 28)
 refine ff (b := p3) (eq_false_of_ne_true c1) ?_
 refine awp_skip' ?_
 refine sr0 L 214 [] [] [] (S' := ⟨[(2, .I 0)], []⟩) ?_
 refine awp_ret ?_
 obtain rfl := Option.some.inj h
 exact er (.I 0)
theorem workflowref50_ready.ok {K : Nat} {p0 : List workflowref50_File} {p1 : Int} {p2 : Int} {p3 : Bool} {r : Int} (h : workflowref50_ready K p0 p1 p2 p3 = some r) : PCall V P 50 [.cv (.pcs [.ro .t_workflowref50_File p0, .I p1, .I p2, .B p3, .B true] 0)] (.I r) := ECall.pcall (eo (fn := Try.f50) (n := 9) (m := 100) fun Γ => workflowref50_ready.body h) (by kernel_rfl)
def workflowref50_named (K : Nat) (p0 : List UInt8) : Option Bool := (if (p0.length : Int) ≥ 1 then some (decide ((p0.length : Int) ≤ 64)) else some false)
theorem workflowref50_named.body {Γ : Ent} {K : Nat} {p0 : List UInt8} {r : Bool} (h : workflowref50_named K p0 = some r) : AWp V P 11 100 Γ (Try.f51.body.getD .skip) (EndsE P V Try.f51 (.B r) []) ⟨args0 0 [.cv (.str p0)], []⟩ := by
 unfold workflowref50_named at h
 refine sr0 L 200 [] [] [] (S' := ⟨[(0, .cv (.str p0))], []⟩) ?_
 refine awp_seq ?_
 rcases ite_some h with ⟨c1, h⟩ | ⟨c1, h⟩
 ·refine ar L 202 [(3, true)] [] [] (cs := [(decide ((p0.length : Int) ≥ 1)) = true]) (S' := ⟨[(2, .B (decide ((p0.length : Int) ≤ 64)))], []⟩) (decide_eq_true c1) ?_
  refine awp_ret ?_
  obtain rfl := Option.some.inj h
  exact er (.B (decide ((p0.length : Int) ≤ 64)))
 refine ar L 202 [(3, false)] [] [] (cs := [(decide ((p0.length : Int) ≥ 1)) = false]) (S' := ⟨[(2, .B false)], []⟩) (decide_eq_false c1) ?_
 refine awp_ret ?_
 obtain rfl := Option.some.inj h
 exact er (.B false)
theorem workflowref50_named.ok {K : Nat} {p0 : List UInt8} {r : Bool} (h : workflowref50_named K p0 = some r) : PCall V P 51 [.cv (.str p0)] (.B r) := ECall.pcall (eo (fn := Try.f51) (n := 11) (m := 100) fun Γ => workflowref50_named.body h) (by kernel_rfl)
def workflowref50_Disk_Used.l17 (K : Nat) (p0 : List workflowref50_File) : Nat → Int → Int → Option Int
 | 0, _, _ => none
 | k + 1, xt3_17h, xt4_17h => (if xt4_17h < (p0.length : Int) then (if (0 : Int) ≤ xt4_17h ∧ (xt4_17h : Int) < (p0.length : Int) then workflowref50_Disk_Used.l17 K p0 k ((IntKind.i64.wrap (xt3_17h + (((p0.getD (Int.toNat xt4_17h) z_workflowref50_File).Data).length : Int)))) (IntKind.i64.wrap (xt4_17h + 1)) else none) else some xt3_17h)
def workflowref50_Disk_Used (K : Nat) (p0 : List workflowref50_File) (p1 : Int) (p2 : Int) (p3 : Bool) : Option Int := (Option.bind (workflowref50_none K p0 p1 p2 p3) (fun _ => (Option.bind (workflowref50_Disk_Used.l17 K p0 K 0 0 : Option Int) (fun xt3_17 => some xt3_17))))
theorem workflowref50_Disk_Used.body {Γ : Ent} {K : Nat} {p0 : List workflowref50_File} {p1 : Int} {p2 : Int} {p3 : Bool} {r : Int} (h : workflowref50_Disk_Used K p0 p1 p2 p3 = some r) : AWp V P 28 100 Γ (Try.f44.body.getD .skip) (EndsE P V Try.f44 (.I r) []) ⟨args0 0 [.cv (.pcs [.ro .t_workflowref50_File p0, .I p1, .I p2, .B p3, .B true] 0)], []⟩ := by
 unfold workflowref50_Disk_Used at h
 refine sr0 L 200 [] [] [] (S' := ⟨[(0, .cv (.pcs [.ro .t_workflowref50_File p0, .I p1, .I p2, .B p3, .B true] 0))], []⟩) ?_
 refine awp_seq ?_
 refine awp_seq ?_
 obtain ⟨⟨⟩, h1, h⟩ := bind_some h
 refine ar L 202 [] [(1, .B false)] [] (cs := [PCall V P 57 [.cv (.pcs [.ro .t_workflowref50_File p0, .I p1, .I p2, .B p3, .B true] 0)] (.B false), True]) (S' := ⟨[(0, .cv (.pcs [.ro .t_workflowref50_File p0, .I p1, .I p2, .B p3, .B true] 0)), (6, .B false)], []⟩) (And.intro (workflowref50_none.ok h1) trivial) ?_
 refine ff (b := false) (rfl) ?_
 refine awp_skip' ?_
 refine sr0 L 207 [] [] [] (S' := ⟨[(0, .cv (.pcs [.ro .t_workflowref50_File p0, .I p1, .I p2, .B p3, .B true] 0)), (3, .I 0)], []⟩) ?_
 refine awp_seq ?_
 refine sr0 L 209 [] [] [] (S' := ⟨[(0, .cv (.pcs [.ro .t_workflowref50_File p0, .I p1, .I p2, .B p3, .B true] 0)), (3, .I 0), (4, .I 0)], []⟩) ?_
 refine awp_block ?_
 refine kp (S' := ⟨[(0, .cv (.pcs [.ro .t_workflowref50_File p0, .I p1, .I p2, .B p3, .B true] 0)), (3, .I 0), (4, .I 0)], []⟩) ?_
 obtain ⟨o1, hp1, h⟩ := bind_some h
 refine awp_conseq (Q' := fun e S => (e = .exit 0 ∧ ∃ xt3_17 : Int, S = ⟨[(3, .I xt3_17)], []⟩ ∧ xt3_17 = o1)) (awp_loop (fun k S => ∃ xt3_17h : Int, ∃ xt4_17h : Int, S = ⟨[(0, .cv (.pcs [.ro .t_workflowref50_File p0, .I p1, .I p2, .B p3, .B true] 0)), (3, .I xt3_17h), (4, .I xt4_17h)], []⟩ ∧ workflowref50_Disk_Used.l17 K p0 k xt3_17h xt4_17h = some o1) ?_ ⟨_, _, rfl, hp1⟩) ?_
 ·clear h hp1
  intro k S hS
  obtain ⟨xt3_17h, xt4_17h, rfl, h⟩ := hS
  cases k with
  | zero => cases h
  | succ k =>
  unfold workflowref50_Disk_Used.l17 at h
  refine awp_seq ?_
  refine sr0 L 211 [] [] [] (S' := ⟨[(0, .cv (.pcs [.ro .t_workflowref50_File p0, .I p1, .I p2, .B p3, .B true] 0)), (3, .I xt3_17h), (4, .I xt4_17h), (13, .B (decide (xt4_17h < (p0.length : Int))))], []⟩) ?_
  rcases ite_some h with ⟨c1, h⟩ | ⟨c1, h⟩
  ·refine tt (b := (decide (xt4_17h < (p0.length : Int)))) (decide_eq_true c1) ?_
   refine awp_skip' ?_
   refine awp_seq ?_
   refine awp_block ?_
   obtain ⟨g1, h⟩ := guard_some h
   refine ar L 219 [] [] [] (cs := [(0 : Int) ≤ xt4_17h, (xt4_17h : Int) < (p0.length : Int)]) (S' := ⟨[(0, .cv (.pcs [.ro .t_workflowref50_File p0, .I p1, .I p2, .B p3, .B true] 0)), (3, .I ((IntKind.i64.wrap (xt3_17h + (((p0.getD (Int.toNat xt4_17h) z_workflowref50_File).Data).length : Int))))), (4, .I xt4_17h)], []⟩) (And.intro g1.1 g1.2) ?_
   refine ar0 L 232 [] [] [] (S' := ⟨[(0, .cv (.pcs [.ro .t_workflowref50_File p0, .I p1, .I p2, .B p3, .B true] 0)), (3, .I ((IntKind.i64.wrap (xt3_17h + (((p0.getD (Int.toNat xt4_17h) z_workflowref50_File).Data).length : Int))))), (4, .I (IntKind.i64.wrap (xt4_17h + 1)))], []⟩) ?_
   exact ⟨k, Nat.lt_succ_self k, _, _, rfl, h⟩
  refine ff (b := (decide (xt4_17h < (p0.length : Int)))) (decide_eq_false c1) ?_
  refine ex (S' := ⟨[(3, .I xt3_17h)], []⟩) ?_
  obtain rfl := Option.some.inj h
  exact ⟨rfl, _, rfl, rfl⟩
 ·rintro e S ⟨rfl, xt3_17, rfl, rfl⟩
  refine ⟨_, Turns.refl, ?_⟩
  refine sr0 L 236 [] [] [] (S' := ⟨[(2, .I xt3_17)], []⟩) ?_
  refine awp_ret ?_
  obtain rfl := Option.some.inj h
  exact er (.I xt3_17)
theorem workflowref50_Disk_Used.ok {K : Nat} {p0 : List workflowref50_File} {p1 : Int} {p2 : Int} {p3 : Bool} {r : Int} (h : workflowref50_Disk_Used K p0 p1 p2 p3 = some r) : PCall V P 44 [.cv (.pcs [.ro .t_workflowref50_File p0, .I p1, .I p2, .B p3, .B true] 0)] (.I r) := ECall.pcall (eo (fn := Try.f44) (n := 28) (m := 100) fun Γ => workflowref50_Disk_Used.body h) (by kernel_rfl)
def workflowref50_Disk_spent_v2 (K : Nat) (p0 : Int) (p1 : Int) (p2 : Bool) : Option (Bool × Int × Bool) := (if p1 = 0 then some (true, p1, true) else (if p1 > 0 then some (false, (IntKind.i64.wrap (p1 - 1)), p2) else some (false, p1, p2)))
theorem workflowref50_Disk_spent_v2.body {Γ : Ent} {K : Nat} {p0 : Int} {p1 : Int} {p2 : Bool} {r : Bool × Int × Bool} (h : workflowref50_Disk_spent_v2 K p0 p1 p2 = some r) : AWp V P 23 100 Γ (Try.f52.body.getD .skip) (EndsE P V Try.f52 (.B r.1) [(0, .raw [.N, .I p0, .I r.2.1, .B r.2.2, .B true])]) ⟨args0 0 [.P 0], [(0, .raw [.N, .I p0, .I p1, .B p2, .B true])]⟩ := by
 unfold workflowref50_Disk_spent_v2 at h
 refine sr0 L 200 [] [] [] (S' := ⟨[(0, .P 0)], [(0, .raw [.N, .I p0, .I p1, .B p2, .B true])]⟩) ?_
 refine awp_seq ?_
 refine sr0 L 202 [] [] [] (S' := ⟨[(0, .P 0), (7, .B (decide (p1 = 0)))], [(0, .raw [.N, .I p0, .I p1, .B p2, .B true])]⟩) ?_
 rcases ite_some h with ⟨c1, h⟩ | ⟨c1, h⟩
 ·refine tt (b := (decide (p1 = 0))) (decide_eq_true c1) ?_
  refine sr0 L 208 [] [] [] (S' := ⟨[], [(0, .raw [.N, .I p0, .I p1, .B true, .B true])]⟩) ?_
  refine sr0 L 213 [] [] [] (S' := ⟨[(2, .B true)], [(0, .raw [.N, .I p0, .I p1, .B true, .B true])]⟩) ?_
  refine awp_ret ?_
  obtain rfl := Option.some.inj h
  exact er (.B true)
 refine ff (b := (decide (p1 = 0))) (decide_eq_false c1) ?_
 refine awp_skip' ?_
 refine awp_seq ?_
 refine sr0 L 215 [] [] [] (S' := ⟨[(0, .P 0), (15, .B (decide (p1 > 0)))], [(0, .raw [.N, .I p0, .I p1, .B p2, .B true])]⟩) ?_
 rcases ite_some h with ⟨c2, h⟩ | ⟨c2, h⟩
 ·refine tt (b := (decide (p1 > 0))) (decide_eq_true c2) ?_
  refine ar0 L 221 [] [] [] (S' := ⟨[], [(0, .raw [.N, .I p0, .I (IntKind.i64.wrap (p1 - 1)), .B p2, .B true])]⟩) ?_
  refine sr0 L 230 [] [] [] (S' := ⟨[(2, .B false)], [(0, .raw [.N, .I p0, .I (IntKind.i64.wrap (p1 - 1)), .B p2, .B true])]⟩) ?_
  refine awp_ret ?_
  obtain rfl := Option.some.inj h
  exact er (.B false)
 refine ff (b := (decide (p1 > 0))) (decide_eq_false c2) ?_
 refine awp_skip' ?_
 refine sr0 L 230 [] [] [] (S' := ⟨[(2, .B false)], [(0, .raw [.N, .I p0, .I p1, .B p2, .B true])]⟩) ?_
 refine awp_ret ?_
 obtain rfl := Option.some.inj h
 exact er (.B false)
theorem workflowref50_Disk_spent_v2.okE {K : Nat} {p0 : Int} {p1 : Int} {p2 : Bool} {r : Bool × Int × Bool} (h : workflowref50_Disk_spent_v2 K p0 p1 p2 = some r) : ECall V P 52 [.P 0] [(0, .raw [.N, .I p0, .I p1, .B p2, .B true])] [0] (.B r.1) [(0, .raw [.N, .I p0, .I r.2.1, .B r.2.2, .B true])] :=
 eo (fn := Try.f52) (n := 23) (m := 100) fun Γ => workflowref50_Disk_spent_v2.body h
def workflowref50_Disk_at.l7 (K : Nat) (p0 : List workflowref50_File) (p4 : List UInt8) : Nat → Int → Option (Out Int Unit)
 | 0, _ => none
 | k + 1, xt5_7h => (if xt5_7h < (p0.length : Int) then (if (0 : Int) ≤ xt5_7h ∧ (xt5_7h : Int) < (p0.length : Int) then (if (p0.getD (Int.toNat xt5_7h) z_workflowref50_File).Name = p4 then some (Out.done xt5_7h) else workflowref50_Disk_at.l7 K p0 p4 k (IntKind.i64.wrap (xt5_7h + 1))) else none) else some (Out.go ()))
def workflowref50_Disk_at (K : Nat) (p0 : List workflowref50_File) (p1 : Int) (p2 : Int) (p3 : Bool) (p4 : List UInt8) : Option Int := (obind (workflowref50_Disk_at.l7 K p0 p4 K 0 : Option (Out Int Unit)) (fun r => r) (fun _ => some (-1)))
theorem workflowref50_Disk_at.body {Γ : Ent} {K : Nat} {p0 : List workflowref50_File} {p1 : Int} {p2 : Int} {p3 : Bool} {p4 : List UInt8} {r : Int} (h : workflowref50_Disk_at K p0 p1 p2 p3 p4 = some r) : AWp V P 26 100 Γ (Try.f53.body.getD .skip) (EndsE P V Try.f53 (.I r) []) ⟨args0 0 [.cv (.pcs [.ro .t_workflowref50_File p0, .I p1, .I p2, .B p3, .B true] 0), .cv (.str p4)], []⟩ := by
 unfold workflowref50_Disk_at at h
 refine sr0 L 200 [] [] [] (S' := ⟨[(0, .cv (.pcs [.ro .t_workflowref50_File p0, .I p1, .I p2, .B p3, .B true] 0)), (1, .cv (.str p4))], []⟩) ?_
 refine awp_seq ?_
 refine sr0 L 202 [] [] [] (S' := ⟨[(0, .cv (.pcs [.ro .t_workflowref50_File p0, .I p1, .I p2, .B p3, .B true] 0)), (1, .cv (.str p4)), (5, .I 0)], []⟩) ?_
 refine awp_block ?_
 refine kp (S' := ⟨[(0, .cv (.pcs [.ro .t_workflowref50_File p0, .I p1, .I p2, .B p3, .B true] 0)), (1, .cv (.str p4)), (5, .I 0)], []⟩) ?_
 obtain ⟨o1, hp1, h⟩ := obind_some h
 refine awp_conseq (Q' := fun e S => (e = .exit 0 ∧ S = ⟨[], []⟩ ∧ Out.go () = o1) ∨ (e = .ret ∧ ∃ a, Out.done a = o1 ∧ EndsE P V Try.f53 (.I a) [] .ret S)) (awp_loop (fun k S => ∃ xt5_7h : Int, S = ⟨[(0, .cv (.pcs [.ro .t_workflowref50_File p0, .I p1, .I p2, .B p3, .B true] 0)), (1, .cv (.str p4)), (5, .I xt5_7h)], []⟩ ∧ workflowref50_Disk_at.l7 K p0 p4 k xt5_7h = some o1) ?_ ⟨_, rfl, hp1⟩) ?_
 ·clear h hp1
  intro k S hS
  obtain ⟨xt5_7h, rfl, h⟩ := hS
  cases k with
  | zero => cases h
  | succ k =>
  unfold workflowref50_Disk_at.l7 at h
  refine awp_seq ?_
  refine sr0 L 204 [] [] [] (S' := ⟨[(0, .cv (.pcs [.ro .t_workflowref50_File p0, .I p1, .I p2, .B p3, .B true] 0)), (1, .cv (.str p4)), (5, .I xt5_7h), (12, .B (decide (xt5_7h < (p0.length : Int))))], []⟩) ?_
  rcases ite_some h with ⟨c1, h⟩ | ⟨c1, h⟩
  ·refine tt (b := (decide (xt5_7h < (p0.length : Int)))) (decide_eq_true c1) ?_
   refine awp_skip' ?_
   refine awp_seq ?_
   refine awp_block ?_
   refine awp_seq ?_
   obtain ⟨g1, h⟩ := guard_some h
   refine ar L 212 [] [] [] (cs := [(0 : Int) ≤ xt5_7h, (xt5_7h : Int) < (p0.length : Int)]) (S' := ⟨[(0, .cv (.pcs [.ro .t_workflowref50_File p0, .I p1, .I p2, .B p3, .B true] 0)), (1, .cv (.str p4)), (5, .I xt5_7h), (24, .B (decide ((p0.getD (Int.toNat xt5_7h) z_workflowref50_File).Name = p4)))], []⟩) (And.intro g1.1 g1.2) ?_
   rcases ite_some h with ⟨c2, h⟩ | ⟨c2, h⟩
   ·refine tt (b := (decide ((p0.getD (Int.toNat xt5_7h) z_workflowref50_File).Name = p4))) (decide_eq_true c2) ?_
    refine sr0 L 223 [] [] [] (S' := ⟨[(4, .I xt5_7h)], []⟩) ?_
    refine awp_ret ?_
    obtain rfl := Option.some.inj h
    exact .inr ⟨rfl, _, rfl, er (.I xt5_7h)⟩
   refine ff (b := (decide ((p0.getD (Int.toNat xt5_7h) z_workflowref50_File).Name = p4))) (decide_eq_false c2) ?_
   refine awp_skip' ?_
   refine ar0 L 226 [] [] [] (S' := ⟨[(0, .cv (.pcs [.ro .t_workflowref50_File p0, .I p1, .I p2, .B p3, .B true] 0)), (1, .cv (.str p4)), (5, .I (IntKind.i64.wrap (xt5_7h + 1)))], []⟩) ?_
   exact ⟨k, Nat.lt_succ_self k, _, rfl, h⟩
  refine ff (b := (decide (xt5_7h < (p0.length : Int)))) (decide_eq_false c1) ?_
  refine ex (S' := ⟨[], []⟩) ?_
  obtain rfl := Option.some.inj h
  exact .inl ⟨rfl, rfl, rfl⟩
 ·rintro e S (⟨rfl, rfl, rfl⟩ | ⟨rfl, a, rfl, hr⟩)
  ·rcases h with ⟨_, e1, h⟩ | ⟨_, e1, h⟩
   ·cases e1
   ·have e2 := Out.go.inj e1
    subst e2
    refine ⟨_, Turns.refl, ?_⟩
    refine sr0 L 230 [] [] [] (S' := ⟨[(4, .I (-1))], []⟩) ?_
    refine awp_ret ?_
    obtain rfl := Option.some.inj h
    exact er (.I (-1))
  ·rcases h with ⟨_, e1, h⟩ | ⟨_, e1, h⟩
   ·have e2 := Out.done.inj e1
    subst e2
    subst h
    exact ⟨_, Turns.refl, hr⟩
   ·cases e1
theorem workflowref50_Disk_at.ok {K : Nat} {p0 : List workflowref50_File} {p1 : Int} {p2 : Int} {p3 : Bool} {p4 : List UInt8} {r : Int} (h : workflowref50_Disk_at K p0 p1 p2 p3 p4 = some r) : PCall V P 53 [.cv (.pcs [.ro .t_workflowref50_File p0, .I p1, .I p2, .B p3, .B true] 0), .cv (.str p4)] (.I r) := ECall.pcall (eo (fn := Try.f53) (n := 26) (m := 100) fun Γ => workflowref50_Disk_at.body h) (by kernel_rfl)
def workflowref50_Disk_cut_v2.l7 (K : Nat) : Nat → Option Unit
 | 0 => none
 | k + 1 => some ()
def workflowref50_Disk_cut_v2 (K : Nat) (p0 : List UInt8) (p1 : Int) (p2 : Int) (p3 : Bool) : Option Unit := (Option.bind (workflowref50_Disk_cut_v2.l7 K K : Option Unit) (fun _ => some ()))
theorem workflowref50_Disk_cut_v2.body {Γ : Ent} {K : Nat} {p0 : List UInt8} {p1 : Int} {p2 : Int} {p3 : Bool} {r : Unit} (h : workflowref50_Disk_cut_v2 K p0 p1 p2 p3 = some r) : AWp V P 39 100 Γ (Try.f56.body.getD .skip) (EndsE P V Try.f56 (.tup []) [(0, .raw [.N, .I p1, .I p2, .B p3, .B true])]) ⟨args0 0 [.P 0, .cv (.str p0)], [(0, .raw [.N, .I p1, .I p2, .B p3, .B true])]⟩ := by
 unfold workflowref50_Disk_cut_v2 at h
 refine sr0 L 200 [] [] [] (S' := ⟨[(0, .P 0), (1, .cv (.str p0)), (4, .N)], [(0, .raw [.N, .I p1, .I p2, .B p3, .B true])]⟩) ?_
 refine awp_seq ?_
 refine sr0 L 202 [] [] [] (S' := ⟨[(0, .P 0), (1, .cv (.str p0)), (4, .N), (5, .I 0)], [(0, .raw [.N, .I p1, .I p2, .B p3, .B true])]⟩) ?_
 refine awp_block ?_
 refine kp (S' := ⟨[(0, .P 0), (1, .cv (.str p0)), (4, .N), (5, .I 0)], [(0, .raw [.N, .I p1, .I p2, .B p3, .B true])]⟩) ?_
 obtain ⟨o1, hp1, h⟩ := bind_some h
 refine awp_conseq (Q' := fun e S => (e = .exit 0 ∧ S = ⟨[(0, .P 0), (4, .N)], [(0, .raw [.N, .I p1, .I p2, .B p3, .B true])]⟩ ∧ () = o1)) (awp_loop (fun k S => S = ⟨[(0, .P 0), (1, .cv (.str p0)), (4, .N), (5, .I 0)], [(0, .raw [.N, .I p1, .I p2, .B p3, .B true])]⟩ ∧ workflowref50_Disk_cut_v2.l7 K k = some o1) ?_ ⟨rfl, hp1⟩) ?_
 ·clear h hp1
  intro k S hS
  obtain ⟨rfl, h⟩ := hS
  cases k with
  | zero => cases h
  | succ k =>
  unfold workflowref50_Disk_cut_v2.l7 at h
  refine awp_seq ?_
  refine sr0 L 204 [] [] [] (S' := ⟨[(0, .P 0), (1, .cv (.str p0)), (4, .N), (5, .I 0), (12, .B false)], [(0, .raw [.N, .I p1, .I p2, .B p3, .B true])]⟩) ?_
  refine ff (b := false) (rfl) ?_
  refine ex (S' := ⟨[(0, .P 0), (4, .N)], [(0, .raw [.N, .I p1, .I p2, .B p3, .B true])]⟩) ?_
  obtain rfl := Option.some.inj h
  exact ⟨rfl, rfl, rfl⟩
 ·rintro e S ⟨rfl, rfl, rfl⟩
  refine ⟨_, Turns.refl, ?_⟩
  refine ar0 L 239 [] [] [] (S' := ⟨[], [(0, .raw [.N, .I p1, .I p2, .B p3, .B true])]⟩) ?_
  obtain rfl := Option.some.inj h
  exact en (.tup [])
theorem workflowref50_Disk_cut_v2.okE {K : Nat} {p0 : List UInt8} {p1 : Int} {p2 : Int} {p3 : Bool} {r : Unit} (h : workflowref50_Disk_cut_v2 K p0 p1 p2 p3 = some r) : ECall V P 56 [.P 0, .cv (.str p0)] [(0, .raw [.N, .I p1, .I p2, .B p3, .B true])] [0] (.tup []) [(0, .raw [.N, .I p1, .I p2, .B p3, .B true])] :=
 eo (fn := Try.f56) (n := 39) (m := 100) fun Γ => workflowref50_Disk_cut_v2.body h
def workflowref50_Disk_put_v2.l13 (K : Nat) : Nat → Option Unit
 | 0 => none
 | k + 1 => some ()
def workflowref50_Disk_put_v2 (K : Nat) (p0 : workflowref50_File) (p1 : Int) (p2 : Int) (p3 : Bool) : Option (List workflowref50_File) := (Option.bind (workflowref50_Disk_cut_v2 K p0.Name p1 p2 p3) (fun _ => (Option.bind (workflowref50_Disk_put_v2.l13 K K : Option Unit) (fun _ => (if ([p0] : List workflowref50_File).length * 48 ≤ 140737488355328 then some ([p0] : List workflowref50_File) else none)))))
theorem workflowref50_Disk_put_v2.body {Γ : Ent} {K : Nat} {p0 : workflowref50_File} {p1 : Int} {p2 : Int} {p3 : Bool} {r : List workflowref50_File} (h : workflowref50_Disk_put_v2 K p0 p1 p2 p3 = some r) : AWp V P 59 100 Γ (Try.f54.body.getD .skip) (EndsE P V Try.f54 (.tup []) [(0, .raw [.own .t_workflowref50_File 100, .I p1, .I p2, .B p3, .B true]), (100, .lst .t_workflowref50_File r)]) ⟨args0 0 [.P 0, .agg (d_workflowref50_File p0)], [(0, .raw [.N, .I p1, .I p2, .B p3, .B true])]⟩ := by
 unfold workflowref50_Disk_put_v2 at h
 refine sr0 L 200 [] [] [] (S' := ⟨[(0, .P 0), (3, .P 200)], [(0, .raw [.N, .I p1, .I p2, .B p3, .B true]), (200, .raw (d_workflowref50_File p0))]⟩) ?_
 refine awp_seq ?_
 obtain ⟨⟨⟩, h1, h⟩ := bind_some h
 refine ar L 202 [] [] [(3, { hids := [0], fx := [0], r := .tup [], H' := [(0, .raw [.N, .I p1, .I p2, .B p3, .B true])], σ := [(0, 0)] })] (cs := [ECall V P 56 [.P 0, .cv (.str p0.Name)] [(0, .raw [.N, .I p1, .I p2, .B p3, .B true])] [0] (.tup []) [(0, .raw [.N, .I p1, .I p2, .B p3, .B true])]]) (S' := ⟨[(0, .P 0), (3, .P 200)], [(0, .raw [.N, .I p1, .I p2, .B p3, .B true]), (200, .raw (d_workflowref50_File p0))]⟩) (workflowref50_Disk_cut_v2.okE h1) ?_
 refine sr0 L 207 [] [] [] (S' := ⟨[(0, .P 0), (3, .P 200), (4, .N)], [(0, .raw [.N, .I p1, .I p2, .B p3, .B true]), (200, .raw (d_workflowref50_File p0))]⟩) ?_
 refine sr0 L 209 [] [] [] (S' := ⟨[(0, .P 0), (3, .P 200), (4, .N), (5, .B false)], [(0, .raw [.N, .I p1, .I p2, .B p3, .B true]), (200, .raw (d_workflowref50_File p0))]⟩) ?_
 refine awp_seq ?_
 refine sr0 L 211 [] [] [] (S' := ⟨[(0, .P 0), (3, .P 200), (4, .N), (5, .B false), (6, .I 0)], [(0, .raw [.N, .I p1, .I p2, .B p3, .B true]), (200, .raw (d_workflowref50_File p0))]⟩) ?_
 refine awp_block ?_
 refine awp_turn (Turns.trans (Turns.kp (S' := ⟨[(0, .P 0), (3, .P 200), (4, .N), (5, .B false), (6, .I 0)], [(0, .raw [.N, .I p1, .I p2, .B p3, .B true]), (200, .raw (d_workflowref50_File p0))]⟩)) (Turns.rn [(0, 0), (200, 22700)] (S' := ⟨[(0, .P 0), (3, .P 22700), (4, .N), (5, .B false), (6, .I 0)], [(0, .raw [.N, .I p1, .I p2, .B p3, .B true]), (22700, .raw (d_workflowref50_File p0))]⟩))) ?_
 refine kp (S' := ⟨[(0, .P 0), (3, .P 22700), (4, .N), (5, .B false), (6, .I 0)], [(0, .raw [.N, .I p1, .I p2, .B p3, .B true]), (22700, .raw (d_workflowref50_File p0))]⟩) ?_
 obtain ⟨o1, hp1, h⟩ := bind_some h
 refine awp_conseq (Q' := fun e S => (e = .exit 0 ∧ S = ⟨[(0, .P 0), (3, .P 22600), (4, .N), (5, .B false)], [(0, .raw [.N, .I p1, .I p2, .B p3, .B true]), (22600, .raw (d_workflowref50_File p0))]⟩ ∧ () = o1)) (awp_loop (fun k S => S = ⟨[(0, .P 0), (3, .P 22700), (4, .N), (5, .B false), (6, .I 0)], [(0, .raw [.N, .I p1, .I p2, .B p3, .B true]), (22700, .raw (d_workflowref50_File p0))]⟩ ∧ workflowref50_Disk_put_v2.l13 K k = some o1) ?_ ⟨rfl, hp1⟩) ?_
 ·clear h hp1
  intro k S hS
  obtain ⟨rfl, h⟩ := hS
  cases k with
  | zero => cases h
  | succ k =>
  unfold workflowref50_Disk_put_v2.l13 at h
  refine awp_seq ?_
  refine sr0 L 213 [] [] [] (S' := ⟨[(0, .P 0), (3, .P 22700), (4, .N), (5, .B false), (6, .I 0), (17, .B false)], [(0, .raw [.N, .I p1, .I p2, .B p3, .B true]), (22700, .raw (d_workflowref50_File p0))]⟩) ?_
  refine ff (b := false) (rfl) ?_
  refine awp_turn (Turns.trans (Turns.kp (S' := ⟨[(0, .P 0), (3, .P 22700), (4, .N), (5, .B false)], [(0, .raw [.N, .I p1, .I p2, .B p3, .B true]), (22700, .raw (d_workflowref50_File p0))]⟩)) (Turns.rn [(0, 0), (22700, 22600)] (S' := ⟨[(0, .P 0), (3, .P 22600), (4, .N), (5, .B false)], [(0, .raw [.N, .I p1, .I p2, .B p3, .B true]), (22600, .raw (d_workflowref50_File p0))]⟩))) ?_
  refine ex (S' := ⟨[(0, .P 0), (3, .P 22600), (4, .N), (5, .B false)], [(0, .raw [.N, .I p1, .I p2, .B p3, .B true]), (22600, .raw (d_workflowref50_File p0))]⟩) ?_
  obtain rfl := Option.some.inj h
  exact ⟨rfl, rfl, rfl⟩
 ·rintro e S ⟨rfl, rfl, rfl⟩
  refine ⟨_, Turns.refl, ?_⟩
  refine awp_seq ?_
  refine sr0 L 261 [] [] [] (S' := ⟨[(0, .P 0), (3, .P 22600), (4, .N), (50, .B true)], [(0, .raw [.N, .I p1, .I p2, .B p3, .B true]), (22600, .raw (d_workflowref50_File p0))]⟩) ?_
  refine tt (b := true) (rfl) ?_
  obtain ⟨g1, h⟩ := guard_some h
  refine ar L 264 [] [] [] (cs := [([p0] : List workflowref50_File).length * 48 ≤ 140737488355328, True]) (S' := ⟨[(0, .P 0), (4, .cv (.own .t_workflowref50_File 267))], [(0, .raw [.N, .I p1, .I p2, .B p3, .B true]), (267, .lst .t_workflowref50_File ([p0] : List workflowref50_File))]⟩) (And.intro g1 trivial) ?_
  refine awp_post (ar0 L 270 [] [] [] (S' := ⟨[], [(0, .raw [.own .t_workflowref50_File 267, .I p1, .I p2, .B p3, .B true]), (267, .lst .t_workflowref50_File ([p0] : List workflowref50_File))]⟩) ⟨rfl, rfl⟩) (Turns.trans (Turns.rn [(0, 0), (267, 100)] (S' := ⟨[], [(0, .raw [.own .t_workflowref50_File 100, .I p1, .I p2, .B p3, .B true]), (100, .lst .t_workflowref50_File ([p0] : List workflowref50_File))]⟩)) (Turns.kp (S' := ⟨[], [(0, .raw [.own .t_workflowref50_File 100, .I p1, .I p2, .B p3, .B true]), (100, .lst .t_workflowref50_File ([p0] : List workflowref50_File))]⟩))) ?_
  obtain rfl := Option.some.inj h
  exact en (.tup [])
theorem workflowref50_Disk_put_v2.okE {K : Nat} {p0 : workflowref50_File} {p1 : Int} {p2 : Int} {p3 : Bool} {r : List workflowref50_File} (h : workflowref50_Disk_put_v2 K p0 p1 p2 p3 = some r) : ECall V P 54 [.P 0, .agg (d_workflowref50_File p0)] [(0, .raw [.N, .I p1, .I p2, .B p3, .B true])] [0] (.tup []) [(0, .raw [.own .t_workflowref50_File 100, .I p1, .I p2, .B p3, .B true]), (100, .lst .t_workflowref50_File r)] :=
 eo (fn := Try.f54) (n := 59) (m := 100) fun Γ => workflowref50_Disk_put_v2.body h
def workflowref50_Disk_Append_v2 (K : Nat) (p0 : List UInt8) (p1 : List UInt8) (p2 : Int) (p3 : Int) (p4 : Bool) : Option ((Int × Int × Bool) ⊕ (Int × Bool × (List workflowref50_File))) := (Option.bind (workflowref50_ready K ([] : List workflowref50_File) p2 p3 p4) (fun a1 => (if a1 ≠ 0 then some (Sum.inl (a1, p3, p4)) else (Option.bind (workflowref50_named K p0) (fun a2 => (if a2 = true then (Option.bind (workflowref50_Disk_Used K ([] : List workflowref50_File) p2 p3 p4) (fun a3 => (if (p1.length : Int) > (IntKind.i64.wrap (p2 - a3)) then some (Sum.inl (18, p3, p4)) else (Option.bind (workflowref50_Disk_spent_v2 K p2 p3 p4) (fun (a4_0, a4_1, a4_2) => (if a4_0 = true then some (Sum.inl (28, a4_1, a4_2)) else (Option.bind (workflowref50_Disk_at K ([] : List workflowref50_File) p2 a4_1 a4_2 p0) (fun a5 => (if a5 ≥ 0 then none else (if (([] : List UInt8).length + ([] : List UInt8).length) * 1 ≤ 140737488355328 then (if ((([] : List UInt8) ++ ([] : List UInt8)).length + p1.length) * 1 ≤ 140737488355328 then (Option.bind (workflowref50_Disk_put_v2 K (⟨p0, ((([] : List UInt8) ++ ([] : List UInt8)) ++ p1), 0⟩ : workflowref50_File) p2 a4_1 a4_2) (fun a6 => some (Sum.inr (a4_1, a4_2, a6)))) else none) else none)))))))))) else some (Sum.inl (8, p3, p4))))))))
def workflowref50_Disk_Append_v2.rep (p0 : List UInt8) (p1 : List UInt8) (p2 : Int) (p3 : Int) (p4 : Bool) : (Int × Int × Bool) ⊕ (Int × Bool × (List workflowref50_File)) → AV T
 | (Sum.inl (v0, v1, v2)) => .I v0
 | (Sum.inr (v0, v1, v2)) => .I 0
def workflowref50_Disk_Append_v2.post (p0 : List UInt8) (p1 : List UInt8) (p2 : Int) (p3 : Int) (p4 : Bool) : (Int × Int × Bool) ⊕ (Int × Bool × (List workflowref50_File)) → List (Nat × Blk T)
 | (Sum.inl (v0, v1, v2)) => [(0, .raw [.N, .I p2, .I v1, .B v2, .B true])]
 | (Sum.inr (v0, v1, v2)) => [(0, .raw [.own .t_workflowref50_File 100, .I p2, .I v0, .B v1, .B true]), (100, .lst .t_workflowref50_File v2)]
theorem workflowref50_Disk_Append_v2.body {Γ : Ent} {K : Nat} {p0 : List UInt8} {p1 : List UInt8} {p2 : Int} {p3 : Int} {p4 : Bool} {r : (Int × Int × Bool) ⊕ (Int × Bool × (List workflowref50_File))} (h : workflowref50_Disk_Append_v2 K p0 p1 p2 p3 p4 = some r) : AWp V P 57 100 Γ (Try.f34.body.getD .skip) (EndsE P V Try.f34 (workflowref50_Disk_Append_v2.rep p0 p1 p2 p3 p4 r) (workflowref50_Disk_Append_v2.post p0 p1 p2 p3 p4 r)) ⟨args0 0 [.P 0, .cv (.str p0), .cv (.ro .t_uint8 p1)], [(0, .raw [.N, .I p2, .I p3, .B p4, .B true])]⟩ := by
 unfold workflowref50_Disk_Append_v2 at h
 refine sr0 L 200 [] [] [] (S' := ⟨[(0, .P 0), (1, .cv (.str p0)), (2, .cv (.ro .t_uint8 p1))], [(0, .raw [.N, .I p2, .I p3, .B p4, .B true])]⟩) ?_
 refine awp_seq ?_
 obtain ⟨a1, h1, h⟩ := bind_some h
 refine ar L 202 [] [(1, .I a1)] [] (cs := [PCall V P 50 [.cv (.pcs [.N, .I p2, .I p3, .B p4, .B true] 0)] (.I a1), True]) (S' := ⟨[(0, .P 0), (1, .cv (.str p0)), (2, .cv (.ro .t_uint8 p1)), (7, .I a1)], [(0, .raw [.N, .I p2, .I p3, .B p4, .B true])]⟩) (And.intro (PCall.co V (workflowref50_ready.ok h1) (by kernel_rfl)) trivial) ?_
 refine awp_seq ?_
 refine sr0 L 206 [] [] [] (S' := ⟨[(0, .P 0), (1, .cv (.str p0)), (2, .cv (.ro .t_uint8 p1)), (7, .I a1), (14, .B (decide (a1 ≠ 0)))], [(0, .raw [.N, .I p2, .I p3, .B p4, .B true])]⟩) ?_
 rcases ite_some h with ⟨c1, h⟩ | ⟨c1, h⟩
 ·refine tt (b := (decide (a1 ≠ 0))) (decide_eq_true c1) ?_
  refine sr0 L 209 [] [] [] (S' := ⟨[(6, .I a1)], [(0, .raw [.N, .I p2, .I p3, .B p4, .B true])]⟩) ?_
  refine awp_ret ?_
  obtain rfl := Option.some.inj h
  exact er (.I a1)
 refine ff (b := (decide (a1 ≠ 0))) (decide_eq_false c1) ?_
 refine awp_skip' ?_
 refine awp_seq ?_
 refine awp_seq ?_
 obtain ⟨a2, h2, h⟩ := bind_some h
 refine ar L 212 [] [(1, .B a2)] [] (cs := [PCall V P 51 [.cv (.str p0)] (.B a2), True]) (S' := ⟨[(0, .P 0), (1, .cv (.str p0)), (2, .cv (.ro .t_uint8 p1)), (18, .B (!a2))], [(0, .raw [.N, .I p2, .I p3, .B p4, .B true])]⟩) (And.intro (workflowref50_named.ok h2) trivial) ?_
 rcases ite_some h with ⟨c2, h⟩ | ⟨c2, h⟩
 ·refine ff (b := (!a2)) (congrArg Bool.not (c2)) ?_
  refine awp_skip' ?_
  refine awp_seq ?_
  refine awp_seq ?_
  obtain ⟨a3, h3, h⟩ := bind_some h
  refine ad L mixed 218 [] [(7, .I a3)] [] [] 10 (cs := [PCall V P 44 [.cv (.pcs [.N, .I p2, .I p3, .B p4, .B true] 0)] (.I a3), True]) (S' := ⟨[(0, .P 0), (1, .cv (.str p0)), (2, .cv (.ro .t_uint8 p1)), (28, .B (decide ((p1.length : Int) > (IntKind.i64.wrap (p2 - a3)))))], [(0, .raw [.N, .I p2, .I p3, .B p4, .B true])]⟩) (And.intro (PCall.co V (workflowref50_Disk_Used.ok h3) (by kernel_rfl)) trivial) ?_
  rcases ite_some h with ⟨c3, h⟩ | ⟨c3, h⟩
  ·refine tt (b := (decide ((p1.length : Int) > (IntKind.i64.wrap (p2 - a3))))) (decide_eq_true c3) ?_
   refine sr0 L 229 [] [] [] (S' := ⟨[(6, .I 18)], [(0, .raw [.N, .I p2, .I p3, .B p4, .B true])]⟩) ?_
   refine awp_ret ?_
   obtain rfl := Option.some.inj h
   exact er (.I 18)
  refine ff (b := (decide ((p1.length : Int) > (IntKind.i64.wrap (p2 - a3))))) (decide_eq_false c3) ?_
  refine awp_skip' ?_
  refine awp_seq ?_
  refine awp_seq ?_
  obtain ⟨⟨a4_0, a4_1, a4_2⟩, h4, h⟩ := bind_some h
  dsimp only at h
  refine ar L 231 [] [] [(1, { hids := [0], fx := [0], r := .B a4_0, H' := [(0, .raw [.N, .I p2, .I a4_1, .B a4_2, .B true])], σ := [(0, 0)] })] (cs := [ECall V P 52 [.P 0] [(0, .raw [.N, .I p2, .I p3, .B p4, .B true])] [0] (.B a4_0) [(0, .raw [.N, .I p2, .I a4_1, .B a4_2, .B true])]]) (S' := ⟨[(0, .P 0), (1, .cv (.str p0)), (2, .cv (.ro .t_uint8 p1)), (30, .B a4_0)], [(0, .raw [.N, .I p2, .I a4_1, .B a4_2, .B true])]⟩) (workflowref50_Disk_spent_v2.okE h4) ?_
  rcases ite_some h with ⟨c4, h⟩ | ⟨c4, h⟩
  ·refine tt (b := a4_0) (c4) ?_
   refine sr0 L 234 [] [] [] (S' := ⟨[(6, .I 28)], [(0, .raw [.N, .I p2, .I a4_1, .B a4_2, .B true])]⟩) ?_
   refine awp_ret ?_
   obtain rfl := Option.some.inj h
   exact er (.I 28)
  refine ff (b := a4_0) (eq_false_of_ne_true c4) ?_
  refine awp_skip' ?_
  refine sr0 L 236 [] [] [] (S' := ⟨[(0, .P 0), (1, .cv (.str p0)), (2, .cv (.ro .t_uint8 p1)), (8, .P 238)], [(0, .raw [.N, .I p2, .I a4_1, .B a4_2, .B true]), (238, .raw [.str p0, .N, .I 0])]⟩) ?_
  refine awp_seq ?_
  obtain ⟨a5, h5, h⟩ := bind_some h
  refine ar L 241 [] [(2, .I a5)] [] (cs := [PCall V P 53 [.cv (.pcs [.N, .I p2, .I a4_1, .B a4_2, .B true] 0), .cv (.str p0)] (.I a5), True]) (S' := ⟨[(0, .P 0), (2, .cv (.ro .t_uint8 p1)), (8, .P 238), (9, .I a5)], [(0, .raw [.N, .I p2, .I a4_1, .B a4_2, .B true]), (238, .raw [.str p0, .N, .I 0])]⟩) (And.intro (PCall.co V (workflowref50_Disk_at.ok h5) (by kernel_rfl)) trivial) ?_
  refine awp_seq ?_
  refine sr0 L 246 [] [] [] (S' := ⟨[(0, .P 0), (2, .cv (.ro .t_uint8 p1)), (8, .P 238), (9, .I a5), (37, .B (decide (a5 ≥ 0)))], [(0, .raw [.N, .I p2, .I a4_1, .B a4_2, .B true]), (238, .raw [.str p0, .N, .I 0])]⟩) ?_
  rcases ite_some h with ⟨c5, h⟩ | ⟨c5, h⟩
  ·refine tt (b := (decide (a5 ≥ 0))) (decide_eq_true c5) ?_
   cases h
  refine ff (b := (decide (a5 ≥ 0))) (decide_eq_false c5) ?_
  refine awp_skip' ?_
  refine awp_seq ?_
  obtain ⟨g1, h⟩ := guard_some h
  refine ar L 258 [] [] [] (cs := [(([] : List UInt8).length + ([] : List UInt8).length) * 1 ≤ 140737488355328, True]) (S' := ⟨[(0, .P 0), (2, .cv (.ro .t_uint8 p1)), (8, .P 238), (10, .cv (.own .t_uint8 258))], [(0, .raw [.N, .I p2, .I a4_1, .B a4_2, .B true]), (238, .raw [.str p0, .N, .I 0]), (258, .lst .t_uint8 (([] : List UInt8) ++ ([] : List UInt8)))]⟩) (And.intro g1 trivial) ?_
  refine awp_seq ?_
  obtain ⟨g2, h⟩ := guard_some h
  refine ar L 264 [] [] [] (cs := [((([] : List UInt8) ++ ([] : List UInt8)).length + p1.length) * 1 ≤ 140737488355328, True]) (S' := ⟨[(0, .P 0), (8, .P 238), (10, .cv (.own .t_uint8 258))], [(0, .raw [.N, .I p2, .I a4_1, .B a4_2, .B true]), (238, .raw [.str p0, .N, .I 0]), (258, .lst .t_uint8 ((([] : List UInt8) ++ ([] : List UInt8)) ++ p1))]⟩) (And.intro g2 trivial) ?_
  refine sr0 L 269 [] [] [] (S' := ⟨[(0, .P 0), (8, .P 238)], [(0, .raw [.N, .I p2, .I a4_1, .B a4_2, .B true]), (238, .raw [.str p0, .own .t_uint8 258, .I 0]), (258, .lst .t_uint8 ((([] : List UInt8) ++ ([] : List UInt8)) ++ p1))]⟩) ?_
  refine awp_seq ?_
  refine awp_turn (Turns.frz 258 (blk0 := .lst .t_uint8 ((([] : List UInt8) ++ ([] : List UInt8)) ++ p1)) (by kernel_rfl) (by kernel_rfl) (S' := ⟨[(0, .P 0), (8, .P 238)], [(0, .raw [.N, .I p2, .I a4_1, .B a4_2, .B true]), (238, .raw [.str p0, .ro .t_uint8 ((([] : List UInt8) ++ ([] : List UInt8)) ++ p1), .I 0])]⟩) (by kernel_rfl)) ?_
  obtain ⟨a6, h6, h⟩ := bind_some h
  refine ar L 273 [] [] [(2, { hids := [0], fx := [0], r := .tup [], H' := [(0, .raw [.own .t_workflowref50_File 100, .I p2, .I a4_1, .B a4_2, .B true]), (100, .lst .t_workflowref50_File a6)], σ := [(0, 0), (100, 5600)] })] (cs := [ECall V P 54 [.P 0, .agg [.str p0, .ro .t_uint8 ((([] : List UInt8) ++ ([] : List UInt8)) ++ p1), .I 0]] [(0, .raw [.N, .I p2, .I a4_1, .B a4_2, .B true])] [0] (.tup []) [(0, .raw [.own .t_workflowref50_File 100, .I p2, .I a4_1, .B a4_2, .B true]), (100, .lst .t_workflowref50_File a6)]]) (S' := ⟨[], [(0, .raw [.own .t_workflowref50_File 5600, .I p2, .I a4_1, .B a4_2, .B true]), (5600, .lst .t_workflowref50_File a6)]⟩) (workflowref50_Disk_put_v2.okE h6) ?_
  refine sr0 L 277 [] [] [] (S' := ⟨[(6, .I 0)], [(0, .raw [.own .t_workflowref50_File 5600, .I p2, .I a4_1, .B a4_2, .B true]), (5600, .lst .t_workflowref50_File a6)]⟩) ?_
  refine awp_turn (Turns.rn [(0, 0), (5600, 100)] (S' := ⟨[(6, .I 0)], [(0, .raw [.own .t_workflowref50_File 100, .I p2, .I a4_1, .B a4_2, .B true]), (100, .lst .t_workflowref50_File a6)]⟩)) ?_
  refine awp_ret ?_
  obtain rfl := Option.some.inj h
  exact er (.I 0)
 refine tt (b := (!a2)) (congrArg Bool.not (eq_false_of_ne_true c2)) ?_
 refine sr0 L 216 [] [] [] (S' := ⟨[(6, .I 8)], [(0, .raw [.N, .I p2, .I p3, .B p4, .B true])]⟩) ?_
 refine awp_ret ?_
 obtain rfl := Option.some.inj h
 exact er (.I 8)
theorem workflowref50_Disk_Append_v2.okE {K : Nat} {p0 : List UInt8} {p1 : List UInt8} {p2 : Int} {p3 : Int} {p4 : Bool} {r : (Int × Int × Bool) ⊕ (Int × Bool × (List workflowref50_File))} (h : workflowref50_Disk_Append_v2 K p0 p1 p2 p3 p4 = some r) : ECall V P 34 [.P 0, .cv (.str p0), .cv (.ro .t_uint8 p1)] [(0, .raw [.N, .I p2, .I p3, .B p4, .B true])] [0] (workflowref50_Disk_Append_v2.rep p0 p1 p2 p3 p4 r) (workflowref50_Disk_Append_v2.post p0 p1 p2 p3 p4 r) :=
 eo (fn := Try.f34) (n := 57) (m := 100) fun Γ => workflowref50_Disk_Append_v2.body h
def workflowref50_Disk_change (K : Nat) (p0 : List workflowref50_File) (p1 : Int) (p2 : Int) (p3 : Bool) (p4 : List UInt8) : Option (Int × Int) := (Option.bind (workflowref50_ready K p0 p1 p2 p3) (fun a1 => (if a1 ≠ 0 then some (0, a1) else (Option.bind (workflowref50_named K p4) (fun a2 => (if a2 = true then (Option.bind (workflowref50_Disk_at K p0 p1 p2 p3 p4) (fun a3 => (if a3 < 0 then some (0, 15) else some (a3, 0)))) else some (0, 8)))))))
theorem workflowref50_Disk_change.body {Γ : Ent} {K : Nat} {p0 : List workflowref50_File} {p1 : Int} {p2 : Int} {p3 : Bool} {p4 : List UInt8} {r : Int × Int} (h : workflowref50_Disk_change K p0 p1 p2 p3 p4 = some r) : AWp V P 22 100 Γ (Try.f55.body.getD .skip) (EndsE P V Try.f55 (.tup [.I r.1, .I r.2]) []) ⟨args0 0 [.cv (.pcs [.ro .t_workflowref50_File p0, .I p1, .I p2, .B p3, .B true] 0), .cv (.str p4)], []⟩ := by
 unfold workflowref50_Disk_change at h
 refine sr0 L 200 [] [] [] (S' := ⟨[(0, .cv (.pcs [.ro .t_workflowref50_File p0, .I p1, .I p2, .B p3, .B true] 0)), (1, .cv (.str p4))], []⟩) ?_
 refine awp_seq ?_
 obtain ⟨a1, h1, h⟩ := bind_some h
 refine ar L 203 [] [(1, .I a1)] [] (cs := [PCall V P 50 [.cv (.pcs [.ro .t_workflowref50_File p0, .I p1, .I p2, .B p3, .B true] 0)] (.I a1), True]) (S' := ⟨[(0, .cv (.pcs [.ro .t_workflowref50_File p0, .I p1, .I p2, .B p3, .B true] 0)), (1, .cv (.str p4)), (6, .I a1)], []⟩) (And.intro (workflowref50_ready.ok h1) trivial) ?_
 refine awp_seq ?_
 refine sr0 L 207 [] [] [] (S' := ⟨[(0, .cv (.pcs [.ro .t_workflowref50_File p0, .I p1, .I p2, .B p3, .B true] 0)), (1, .cv (.str p4)), (6, .I a1), (11, .B (decide (a1 ≠ 0)))], []⟩) ?_
 rcases ite_some h with ⟨c1, h⟩ | ⟨c1, h⟩
 ·refine tt (b := (decide (a1 ≠ 0))) (decide_eq_true c1) ?_
  refine sr0 L 210 [] [] [] (S' := ⟨[(4, .I 0), (5, .I a1)], []⟩) ?_
  refine awp_ret ?_
  obtain rfl := Option.some.inj h
  exact er (.tup [.I 0, .I a1])
 refine ff (b := (decide (a1 ≠ 0))) (decide_eq_false c1) ?_
 refine awp_skip' ?_
 refine awp_seq ?_
 refine awp_seq ?_
 obtain ⟨a2, h2, h⟩ := bind_some h
 refine ar L 214 [] [(1, .B a2)] [] (cs := [PCall V P 51 [.cv (.str p4)] (.B a2), True]) (S' := ⟨[(0, .cv (.pcs [.ro .t_workflowref50_File p0, .I p1, .I p2, .B p3, .B true] 0)), (1, .cv (.str p4)), (15, .B (!a2))], []⟩) (And.intro (workflowref50_named.ok h2) trivial) ?_
 rcases ite_some h with ⟨c2, h⟩ | ⟨c2, h⟩
 ·refine ff (b := (!a2)) (congrArg Bool.not (c2)) ?_
  refine awp_skip' ?_
  refine awp_seq ?_
  obtain ⟨a3, h3, h⟩ := bind_some h
  refine ar L 221 [] [(2, .I a3)] [] (cs := [PCall V P 53 [.cv (.pcs [.ro .t_workflowref50_File p0, .I p1, .I p2, .B p3, .B true] 0), .cv (.str p4)] (.I a3), True]) (S' := ⟨[(7, .I a3)], []⟩) (And.intro (workflowref50_Disk_at.ok h3) trivial) ?_
  refine awp_seq ?_
  refine sr0 L 226 [] [] [] (S' := ⟨[(7, .I a3), (20, .B (decide (a3 < 0)))], []⟩) ?_
  rcases ite_some h with ⟨c3, h⟩ | ⟨c3, h⟩
  ·refine tt (b := (decide (a3 < 0))) (decide_eq_true c3) ?_
   refine sr0 L 229 [] [] [] (S' := ⟨[(4, .I 0), (5, .I 15)], []⟩) ?_
   refine awp_ret ?_
   obtain rfl := Option.some.inj h
   exact er (.tup [.I 0, .I 15])
  refine ff (b := (decide (a3 < 0))) (decide_eq_false c3) ?_
  refine awp_skip' ?_
  refine sr0 L 232 [] [] [] (S' := ⟨[(4, .I a3), (5, .I 0)], []⟩) ?_
  refine awp_ret ?_
  obtain rfl := Option.some.inj h
  exact er (.tup [.I a3, .I 0])
 refine tt (b := (!a2)) (congrArg Bool.not (eq_false_of_ne_true c2)) ?_
 refine sr0 L 218 [] [] [] (S' := ⟨[(4, .I 0), (5, .I 8)], []⟩) ?_
 refine awp_ret ?_
 obtain rfl := Option.some.inj h
 exact er (.tup [.I 0, .I 8])
theorem workflowref50_Disk_change.ok {K : Nat} {p0 : List workflowref50_File} {p1 : Int} {p2 : Int} {p3 : Bool} {p4 : List UInt8} {r : Int × Int} (h : workflowref50_Disk_change K p0 p1 p2 p3 p4 = some r) : PCall V P 55 [.cv (.pcs [.ro .t_workflowref50_File p0, .I p1, .I p2, .B p3, .B true] 0), .cv (.str p4)] (.tup [.I r.1, .I r.2]) := ECall.pcall (eo (fn := Try.f55) (n := 22) (m := 100) fun Γ => workflowref50_Disk_change.body h) (by kernel_rfl)
def workflowref50_Disk_Sync_v2 (K : Nat) (p0 : List UInt8) (p1 : Int) (p2 : Int) (p3 : Bool) : Option (Int × Int × Bool) := (Option.bind (workflowref50_Disk_change K ([] : List workflowref50_File) p1 p2 p3 p0) (fun (a1_0, a1_1) => (if a1_1 ≠ 0 then some (a1_1, p2, p3) else (Option.bind (workflowref50_Disk_spent_v2 K p1 p2 p3) (fun (a2_0, a2_1, a2_2) => (if a2_0 = true then some (28, a2_1, a2_2) else none))))))
theorem workflowref50_Disk_Sync_v2.body {Γ : Ent} {K : Nat} {p0 : List UInt8} {p1 : Int} {p2 : Int} {p3 : Bool} {r : Int × Int × Bool} (h : workflowref50_Disk_Sync_v2 K p0 p1 p2 p3 = some r) : AWp V P 33 100 Γ (Try.f35.body.getD .skip) (EndsE P V Try.f35 (.I r.1) [(0, .raw [.N, .I p1, .I r.2.1, .B r.2.2, .B true])]) ⟨args0 0 [.P 0, .cv (.str p0)], [(0, .raw [.N, .I p1, .I p2, .B p3, .B true])]⟩ := by
 unfold workflowref50_Disk_Sync_v2 at h
 refine sr0 L 200 [] [] [] (S' := ⟨[(0, .P 0), (1, .cv (.str p0))], [(0, .raw [.N, .I p1, .I p2, .B p3, .B true])]⟩) ?_
 refine awp_seq ?_
 obtain ⟨⟨a1_0, a1_1⟩, h1, h⟩ := bind_some h
 dsimp only at h
 refine ar L 202 [] [(2, .tup [.I a1_0, .I a1_1])] [] (cs := [PCall V P 55 [.cv (.pcs [.N, .I p1, .I p2, .B p3, .B true] 0), .cv (.str p0)] (.tup [.I a1_0, .I a1_1]), True]) (S' := ⟨[(0, .P 0), (5, .I a1_0), (6, .I a1_1)], [(0, .raw [.N, .I p1, .I p2, .B p3, .B true])]⟩) (And.intro (PCall.co V (workflowref50_Disk_change.ok h1) (by kernel_rfl)) trivial) ?_
 refine awp_seq ?_
 refine sr0 L 211 [] [] [] (S' := ⟨[(0, .P 0), (5, .I a1_0), (6, .I a1_1), (15, .B (decide (a1_1 ≠ 0)))], [(0, .raw [.N, .I p1, .I p2, .B p3, .B true])]⟩) ?_
 rcases ite_some h with ⟨c1, h⟩ | ⟨c1, h⟩
 ·refine tt (b := (decide (a1_1 ≠ 0))) (decide_eq_true c1) ?_
  refine sr0 L 214 [] [] [] (S' := ⟨[(4, .I a1_1)], [(0, .raw [.N, .I p1, .I p2, .B p3, .B true])]⟩) ?_
  refine awp_ret ?_
  obtain rfl := Option.some.inj h
  exact er (.I a1_1)
 refine ff (b := (decide (a1_1 ≠ 0))) (decide_eq_false c1) ?_
 refine awp_skip' ?_
 refine awp_seq ?_
 refine awp_seq ?_
 obtain ⟨⟨a2_0, a2_1, a2_2⟩, h2, h⟩ := bind_some h
 dsimp only at h
 refine ar L 217 [] [] [(1, { hids := [0], fx := [0], r := .B a2_0, H' := [(0, .raw [.N, .I p1, .I a2_1, .B a2_2, .B true])], σ := [(0, 0)] })] (cs := [ECall V P 52 [.P 0] [(0, .raw [.N, .I p1, .I p2, .B p3, .B true])] [0] (.B a2_0) [(0, .raw [.N, .I p1, .I a2_1, .B a2_2, .B true])]]) (S' := ⟨[(0, .P 0), (5, .I a1_0), (18, .B a2_0)], [(0, .raw [.N, .I p1, .I a2_1, .B a2_2, .B true])]⟩) (workflowref50_Disk_spent_v2.okE h2) ?_
 rcases ite_some h with ⟨c2, h⟩ | ⟨c2, h⟩
 ·refine tt (b := a2_0) (c2) ?_
  refine sr0 L 220 [] [] [] (S' := ⟨[(4, .I 28)], [(0, .raw [.N, .I p1, .I a2_1, .B a2_2, .B true])]⟩) ?_
  refine awp_ret ?_
  obtain rfl := Option.some.inj h
  exact er (.I 28)
 refine ff (b := a2_0) (eq_false_of_ne_true c2) ?_
 refine awp_skip' ?_
 refine awp_seq ?_
 cases h
theorem workflowref50_Disk_Sync_v2.okE {K : Nat} {p0 : List UInt8} {p1 : Int} {p2 : Int} {p3 : Bool} {r : Int × Int × Bool} (h : workflowref50_Disk_Sync_v2 K p0 p1 p2 p3 = some r) : ECall V P 35 [.P 0, .cv (.str p0)] [(0, .raw [.N, .I p1, .I p2, .B p3, .B true])] [0] (.I r.1) [(0, .raw [.N, .I p1, .I r.2.1, .B r.2.2, .B true])] :=
 eo (fn := Try.f35) (n := 33) (m := 100) fun Γ => workflowref50_Disk_Sync_v2.body h
def workflowref50_Disk_Rename_v2 (K : Nat) (p0 : List UInt8) (p1 : List UInt8) (p2 : Int) (p3 : Int) (p4 : Bool) : Option (Int × Int × Bool) := (Option.bind (workflowref50_ready K ([] : List workflowref50_File) p2 p3 p4) (fun a1 => (if a1 ≠ 0 then some (a1, p3, p4) else (Option.bind (workflowref50_named K p0) (fun a2 => (if a2 = true then (Option.bind (workflowref50_named K p1) (fun a3 => (if a3 = true then (Option.bind (workflowref50_Disk_at K ([] : List workflowref50_File) p2 p3 p4 p0) (fun a4 => (if a4 < 0 then some (15, p3, p4) else (Option.bind (workflowref50_Disk_spent_v2 K p2 p3 p4) (fun (a5_0, a5_1, a5_2) => (if a5_0 = true then some (28, a5_1, a5_2) else none)))))) else some (8, p3, p4)))) else some (8, p3, p4)))))))
theorem workflowref50_Disk_Rename_v2.body {Γ : Ent} {K : Nat} {p0 : List UInt8} {p1 : List UInt8} {p2 : Int} {p3 : Int} {p4 : Bool} {r : Int × Int × Bool} (h : workflowref50_Disk_Rename_v2 K p0 p1 p2 p3 p4 = some r) : AWp V P 45 100 Γ (Try.f36.body.getD .skip) (EndsE P V Try.f36 (.I r.1) [(0, .raw [.N, .I p2, .I r.2.1, .B r.2.2, .B true])]) ⟨args0 0 [.P 0, .cv (.str p0), .cv (.str p1)], [(0, .raw [.N, .I p2, .I p3, .B p4, .B true])]⟩ := by
 unfold workflowref50_Disk_Rename_v2 at h
 refine sr0 L 200 [] [] [] (S' := ⟨[(0, .P 0), (1, .cv (.str p0)), (2, .cv (.str p1))], [(0, .raw [.N, .I p2, .I p3, .B p4, .B true])]⟩) ?_
 refine awp_seq ?_
 obtain ⟨a1, h1, h⟩ := bind_some h
 refine ar L 202 [] [(1, .I a1)] [] (cs := [PCall V P 50 [.cv (.pcs [.N, .I p2, .I p3, .B p4, .B true] 0)] (.I a1), True]) (S' := ⟨[(0, .P 0), (1, .cv (.str p0)), (2, .cv (.str p1)), (7, .I a1)], [(0, .raw [.N, .I p2, .I p3, .B p4, .B true])]⟩) (And.intro (PCall.co V (workflowref50_ready.ok h1) (by kernel_rfl)) trivial) ?_
 refine awp_seq ?_
 refine sr0 L 206 [] [] [] (S' := ⟨[(0, .P 0), (1, .cv (.str p0)), (2, .cv (.str p1)), (7, .I a1), (13, .B (decide (a1 ≠ 0)))], [(0, .raw [.N, .I p2, .I p3, .B p4, .B true])]⟩) ?_
 rcases ite_some h with ⟨c1, h⟩ | ⟨c1, h⟩
 ·refine tt (b := (decide (a1 ≠ 0))) (decide_eq_true c1) ?_
  refine sr0 L 209 [] [] [] (S' := ⟨[(6, .I a1)], [(0, .raw [.N, .I p2, .I p3, .B p4, .B true])]⟩) ?_
  refine awp_ret ?_
  obtain rfl := Option.some.inj h
  exact er (.I a1)
 refine ff (b := (decide (a1 ≠ 0))) (decide_eq_false c1) ?_
 refine awp_skip' ?_
 refine awp_seq ?_
 refine awp_seq ?_
 obtain ⟨a2, h2, h⟩ := bind_some h
 rcases ite_some h with ⟨c2, h⟩ | ⟨c2, h⟩
 ·obtain ⟨a3, h3, h⟩ := bind_some h
  refine ar L 212 [(3, false)] [(1, .B a2), (5, .B a3)] [] (cs := [PCall V P 51 [.cv (.str p0)] (.B a2), True, (!a2) = false, PCall V P 51 [.cv (.str p1)] (.B a3), True]) (S' := ⟨[(0, .P 0), (1, .cv (.str p0)), (2, .cv (.str p1)), (22, .B (!a3))], [(0, .raw [.N, .I p2, .I p3, .B p4, .B true])]⟩) (And.intro (workflowref50_named.ok h2) (And.intro trivial (And.intro (congrArg Bool.not (c2)) (And.intro (workflowref50_named.ok h3) trivial)))) ?_
  rcases ite_some h with ⟨c3, h⟩ | ⟨c3, h⟩
  ·refine ff (b := (!a3)) (congrArg Bool.not (c3)) ?_
   refine awp_skip' ?_
   refine awp_seq ?_
   obtain ⟨a4, h4, h⟩ := bind_some h
   refine ar L 223 [] [(2, .I a4)] [] (cs := [PCall V P 53 [.cv (.pcs [.N, .I p2, .I p3, .B p4, .B true] 0), .cv (.str p0)] (.I a4), True]) (S' := ⟨[(0, .P 0), (1, .cv (.str p0)), (2, .cv (.str p1)), (8, .I a4)], [(0, .raw [.N, .I p2, .I p3, .B p4, .B true])]⟩) (And.intro (PCall.co V (workflowref50_Disk_at.ok h4) (by kernel_rfl)) trivial) ?_
   refine awp_seq ?_
   refine sr0 L 228 [] [] [] (S' := ⟨[(0, .P 0), (1, .cv (.str p0)), (2, .cv (.str p1)), (8, .I a4), (27, .B (decide (a4 < 0)))], [(0, .raw [.N, .I p2, .I p3, .B p4, .B true])]⟩) ?_
   rcases ite_some h with ⟨c4, h⟩ | ⟨c4, h⟩
   ·refine tt (b := (decide (a4 < 0))) (decide_eq_true c4) ?_
    refine sr0 L 231 [] [] [] (S' := ⟨[(6, .I 15)], [(0, .raw [.N, .I p2, .I p3, .B p4, .B true])]⟩) ?_
    refine awp_ret ?_
    obtain rfl := Option.some.inj h
    exact er (.I 15)
   refine ff (b := (decide (a4 < 0))) (decide_eq_false c4) ?_
   refine awp_skip' ?_
   refine awp_seq ?_
   refine awp_seq ?_
   obtain ⟨⟨a5_0, a5_1, a5_2⟩, h5, h⟩ := bind_some h
   dsimp only at h
   refine ar L 233 [] [] [(1, { hids := [0], fx := [0], r := .B a5_0, H' := [(0, .raw [.N, .I p2, .I a5_1, .B a5_2, .B true])], σ := [(0, 0)] })] (cs := [ECall V P 52 [.P 0] [(0, .raw [.N, .I p2, .I p3, .B p4, .B true])] [0] (.B a5_0) [(0, .raw [.N, .I p2, .I a5_1, .B a5_2, .B true])]]) (S' := ⟨[(0, .P 0), (1, .cv (.str p0)), (2, .cv (.str p1)), (8, .I a4), (29, .B a5_0)], [(0, .raw [.N, .I p2, .I a5_1, .B a5_2, .B true])]⟩) (workflowref50_Disk_spent_v2.okE h5) ?_
   rcases ite_some h with ⟨c5, h⟩ | ⟨c5, h⟩
   ·refine tt (b := a5_0) (c5) ?_
    refine sr0 L 236 [] [] [] (S' := ⟨[(6, .I 28)], [(0, .raw [.N, .I p2, .I a5_1, .B a5_2, .B true])]⟩) ?_
    refine awp_ret ?_
    obtain rfl := Option.some.inj h
    exact er (.I 28)
   refine ff (b := a5_0) (eq_false_of_ne_true c5) ?_
   refine awp_skip' ?_
   refine awp_seq ?_
   cases h
  refine tt (b := (!a3)) (congrArg Bool.not (eq_false_of_ne_true c3)) ?_
  refine sr0 L 221 [] [] [] (S' := ⟨[(6, .I 8)], [(0, .raw [.N, .I p2, .I p3, .B p4, .B true])]⟩) ?_
  refine awp_ret ?_
  obtain rfl := Option.some.inj h
  exact er (.I 8)
 refine ar L 212 [(3, true)] [(1, .B a2)] [] (cs := [PCall V P 51 [.cv (.str p0)] (.B a2), True, (!a2) = true]) (S' := ⟨[(0, .P 0), (1, .cv (.str p0)), (2, .cv (.str p1)), (22, .B true)], [(0, .raw [.N, .I p2, .I p3, .B p4, .B true])]⟩) (And.intro (workflowref50_named.ok h2) (And.intro trivial (congrArg Bool.not (eq_false_of_ne_true c2)))) ?_
 refine tt (b := true) (rfl) ?_
 refine sr0 L 221 [] [] [] (S' := ⟨[(6, .I 8)], [(0, .raw [.N, .I p2, .I p3, .B p4, .B true])]⟩) ?_
 refine awp_ret ?_
 obtain rfl := Option.some.inj h
 exact er (.I 8)
theorem workflowref50_Disk_Rename_v2.okE {K : Nat} {p0 : List UInt8} {p1 : List UInt8} {p2 : Int} {p3 : Int} {p4 : Bool} {r : Int × Int × Bool} (h : workflowref50_Disk_Rename_v2 K p0 p1 p2 p3 p4 = some r) : ECall V P 36 [.P 0, .cv (.str p0), .cv (.str p1)] [(0, .raw [.N, .I p2, .I p3, .B p4, .B true])] [0] (.I r.1) [(0, .raw [.N, .I p2, .I r.2.1, .B r.2.2, .B true])] :=
 eo (fn := Try.f36) (n := 45) (m := 100) fun Γ => workflowref50_Disk_Rename_v2.body h
def workflowref50_Disk_Remove_v2 (K : Nat) (p0 : List UInt8) (p1 : Int) (p2 : Int) (p3 : Bool) : Option (Int × Int × Bool) := (Option.bind (workflowref50_Disk_change K ([] : List workflowref50_File) p1 p2 p3 p0) (fun (a1_0, a1_1) => (if a1_1 ≠ 0 then some (a1_1, p2, p3) else (Option.bind (workflowref50_Disk_spent_v2 K p1 p2 p3) (fun (a2_0, a2_1, a2_2) => (if a2_0 = true then some (28, a2_1, a2_2) else (Option.bind (workflowref50_Disk_cut_v2 K p0 p1 a2_1 a2_2) (fun _ => some (0, a2_1, a2_2)))))))))
theorem workflowref50_Disk_Remove_v2.body {Γ : Ent} {K : Nat} {p0 : List UInt8} {p1 : Int} {p2 : Int} {p3 : Bool} {r : Int × Int × Bool} (h : workflowref50_Disk_Remove_v2 K p0 p1 p2 p3 = some r) : AWp V P 21 100 Γ (Try.f37.body.getD .skip) (EndsE P V Try.f37 (.I r.1) [(0, .raw [.N, .I p1, .I r.2.1, .B r.2.2, .B true])]) ⟨args0 0 [.P 0, .cv (.str p0)], [(0, .raw [.N, .I p1, .I p2, .B p3, .B true])]⟩ := by
 unfold workflowref50_Disk_Remove_v2 at h
 refine sr0 L 200 [] [] [] (S' := ⟨[(0, .P 0), (1, .cv (.str p0))], [(0, .raw [.N, .I p1, .I p2, .B p3, .B true])]⟩) ?_
 refine awp_seq ?_
 obtain ⟨⟨a1_0, a1_1⟩, h1, h⟩ := bind_some h
 dsimp only at h
 refine ar L 202 [] [(2, .tup [.I a1_0, .I a1_1])] [] (cs := [PCall V P 55 [.cv (.pcs [.N, .I p1, .I p2, .B p3, .B true] 0), .cv (.str p0)] (.tup [.I a1_0, .I a1_1]), True]) (S' := ⟨[(0, .P 0), (1, .cv (.str p0)), (6, .I a1_1)], [(0, .raw [.N, .I p1, .I p2, .B p3, .B true])]⟩) (And.intro (PCall.co V (workflowref50_Disk_change.ok h1) (by kernel_rfl)) trivial) ?_
 refine awp_seq ?_
 refine sr0 L 211 [] [] [] (S' := ⟨[(0, .P 0), (1, .cv (.str p0)), (6, .I a1_1), (14, .B (decide (a1_1 ≠ 0)))], [(0, .raw [.N, .I p1, .I p2, .B p3, .B true])]⟩) ?_
 rcases ite_some h with ⟨c1, h⟩ | ⟨c1, h⟩
 ·refine tt (b := (decide (a1_1 ≠ 0))) (decide_eq_true c1) ?_
  refine sr0 L 214 [] [] [] (S' := ⟨[(4, .I a1_1)], [(0, .raw [.N, .I p1, .I p2, .B p3, .B true])]⟩) ?_
  refine awp_ret ?_
  obtain rfl := Option.some.inj h
  exact er (.I a1_1)
 refine ff (b := (decide (a1_1 ≠ 0))) (decide_eq_false c1) ?_
 refine awp_skip' ?_
 refine awp_seq ?_
 refine awp_seq ?_
 obtain ⟨⟨a2_0, a2_1, a2_2⟩, h2, h⟩ := bind_some h
 dsimp only at h
 refine ar L 217 [] [] [(1, { hids := [0], fx := [0], r := .B a2_0, H' := [(0, .raw [.N, .I p1, .I a2_1, .B a2_2, .B true])], σ := [(0, 0)] })] (cs := [ECall V P 52 [.P 0] [(0, .raw [.N, .I p1, .I p2, .B p3, .B true])] [0] (.B a2_0) [(0, .raw [.N, .I p1, .I a2_1, .B a2_2, .B true])]]) (S' := ⟨[(0, .P 0), (1, .cv (.str p0)), (17, .B a2_0)], [(0, .raw [.N, .I p1, .I a2_1, .B a2_2, .B true])]⟩) (workflowref50_Disk_spent_v2.okE h2) ?_
 rcases ite_some h with ⟨c2, h⟩ | ⟨c2, h⟩
 ·refine tt (b := a2_0) (c2) ?_
  refine sr0 L 220 [] [] [] (S' := ⟨[(4, .I 28)], [(0, .raw [.N, .I p1, .I a2_1, .B a2_2, .B true])]⟩) ?_
  refine awp_ret ?_
  obtain rfl := Option.some.inj h
  exact er (.I 28)
 refine ff (b := a2_0) (eq_false_of_ne_true c2) ?_
 refine awp_skip' ?_
 refine awp_seq ?_
 obtain ⟨⟨⟩, h3, h⟩ := bind_some h
 refine ar L 222 [] [] [(2, { hids := [0], fx := [0], r := .tup [], H' := [(0, .raw [.N, .I p1, .I a2_1, .B a2_2, .B true])], σ := [(0, 0)] })] (cs := [ECall V P 56 [.P 0, .cv (.str p0)] [(0, .raw [.N, .I p1, .I a2_1, .B a2_2, .B true])] [0] (.tup []) [(0, .raw [.N, .I p1, .I a2_1, .B a2_2, .B true])]]) (S' := ⟨[], [(0, .raw [.N, .I p1, .I a2_1, .B a2_2, .B true])]⟩) (workflowref50_Disk_cut_v2.okE h3) ?_
 refine sr0 L 226 [] [] [] (S' := ⟨[(4, .I 0)], [(0, .raw [.N, .I p1, .I a2_1, .B a2_2, .B true])]⟩) ?_
 refine awp_ret ?_
 obtain rfl := Option.some.inj h
 exact er (.I 0)
theorem workflowref50_Disk_Remove_v2.okE {K : Nat} {p0 : List UInt8} {p1 : Int} {p2 : Int} {p3 : Bool} {r : Int × Int × Bool} (h : workflowref50_Disk_Remove_v2 K p0 p1 p2 p3 = some r) : ECall V P 37 [.P 0, .cv (.str p0)] [(0, .raw [.N, .I p1, .I p2, .B p3, .B true])] [0] (.I r.1) [(0, .raw [.N, .I p1, .I r.2.1, .B r.2.2, .B true])] :=
 eo (fn := Try.f37) (n := 21) (m := 100) fun Γ => workflowref50_Disk_Remove_v2.body h
def workflowref50_Disk_Read (K : Nat) (p0 : List workflowref50_File) (p1 : Int) (p2 : Int) (p3 : Bool) (p4 : List UInt8) : Option ((List UInt8) × Int) := (Option.bind (workflowref50_Disk_change K p0 p1 p2 p3 p4) (fun (a1_0, a1_1) => (if a1_1 ≠ 0 then some (([] : List UInt8), a1_1) else (if (0 : Int) ≤ a1_0 ∧ (a1_0 : Int) < (p0.length : Int) then (if (([] : List UInt8).length + ((p0.getD (Int.toNat a1_0) z_workflowref50_File).Data).length) * 1 ≤ 140737488355328 then some ((([] : List UInt8) ++ (p0.getD (Int.toNat a1_0) z_workflowref50_File).Data), 0) else none) else none))))
theorem workflowref50_Disk_Read.body {Γ : Ent} {K : Nat} {p0 : List workflowref50_File} {p1 : Int} {p2 : Int} {p3 : Bool} {p4 : List UInt8} {r : (List UInt8) × Int} (h : workflowref50_Disk_Read K p0 p1 p2 p3 p4 = some r) : AWp V P 29 100 Γ (Try.f38.body.getD .skip) (EndsE P V Try.f38 (.tup [.cv (.ro .t_uint8 r.1), .I r.2]) []) ⟨args0 0 [.cv (.pcs [.ro .t_workflowref50_File p0, .I p1, .I p2, .B p3, .B true] 0), .cv (.str p4)], []⟩ := by
 unfold workflowref50_Disk_Read at h
 refine sr0 L 200 [] [] [] (S' := ⟨[(0, .cv (.pcs [.ro .t_workflowref50_File p0, .I p1, .I p2, .B p3, .B true] 0)), (1, .cv (.str p4))], []⟩) ?_
 refine awp_seq ?_
 obtain ⟨⟨a1_0, a1_1⟩, h1, h⟩ := bind_some h
 dsimp only at h
 refine ar L 203 [] [(2, .tup [.I a1_0, .I a1_1])] [] (cs := [PCall V P 55 [.cv (.pcs [.ro .t_workflowref50_File p0, .I p1, .I p2, .B p3, .B true] 0), .cv (.str p4)] (.tup [.I a1_0, .I a1_1]), True]) (S' := ⟨[(0, .cv (.pcs [.ro .t_workflowref50_File p0, .I p1, .I p2, .B p3, .B true] 0)), (6, .I a1_0), (7, .I a1_1)], []⟩) (And.intro (workflowref50_Disk_change.ok h1) trivial) ?_
 refine awp_seq ?_
 refine sr0 L 212 [] [] [] (S' := ⟨[(0, .cv (.pcs [.ro .t_workflowref50_File p0, .I p1, .I p2, .B p3, .B true] 0)), (6, .I a1_0), (7, .I a1_1), (16, .B (decide (a1_1 ≠ 0)))], []⟩) ?_
 rcases ite_some h with ⟨c1, h⟩ | ⟨c1, h⟩
 ·refine tt (b := (decide (a1_1 ≠ 0))) (decide_eq_true c1) ?_
  refine sr0 L 215 [] [] [] (S' := ⟨[(4, .N), (5, .I a1_1)], []⟩) ?_
  refine awp_ret ?_
  obtain rfl := Option.some.inj h
  exact er (.tup [.N, .I a1_1])
 refine ff (b := (decide (a1_1 ≠ 0))) (decide_eq_false c1) ?_
 refine awp_skip' ?_
 refine awp_seq ?_
 obtain ⟨g1, h⟩ := guard_some h
 obtain ⟨g2, h⟩ := guard_some h
 refine ar L 219 [] [] [] (cs := [(0 : Int) ≤ a1_0, (a1_0 : Int) < (p0.length : Int), (([] : List UInt8).length + ((p0.getD (Int.toNat a1_0) z_workflowref50_File).Data).length) * 1 ≤ 140737488355328, True]) (S' := ⟨[(8, .cv (.own .t_uint8 219))], [(219, .lst .t_uint8 (([] : List UInt8) ++ (p0.getD (Int.toNat a1_0) z_workflowref50_File).Data))]⟩) (And.intro g1.1 (And.intro g1.2 (And.intro g2 trivial))) ?_
 refine sr0 L 231 [] [] [] (S' := ⟨[(4, .cv (.own .t_uint8 219)), (5, .I 0)], [(219, .lst .t_uint8 (([] : List UInt8) ++ (p0.getD (Int.toNat a1_0) z_workflowref50_File).Data))]⟩) ?_
 refine awp_turn (Turns.frz 219 (blk0 := .lst .t_uint8 (([] : List UInt8) ++ (p0.getD (Int.toNat a1_0) z_workflowref50_File).Data)) (by kernel_rfl) (by kernel_rfl) (S' := ⟨[(4, .cv (.ro .t_uint8 (([] : List UInt8) ++ (p0.getD (Int.toNat a1_0) z_workflowref50_File).Data))), (5, .I 0)], []⟩) (by kernel_rfl)) ?_
 refine awp_ret ?_
 obtain rfl := Option.some.inj h
 exact er (.tup [.cv (.ro .t_uint8 (([] : List UInt8) ++ (p0.getD (Int.toNat a1_0) z_workflowref50_File).Data)), .I 0])
theorem workflowref50_Disk_Read.ok {K : Nat} {p0 : List workflowref50_File} {p1 : Int} {p2 : Int} {p3 : Bool} {p4 : List UInt8} {r : (List UInt8) × Int} (h : workflowref50_Disk_Read K p0 p1 p2 p3 p4 = some r) : PCall V P 38 [.cv (.pcs [.ro .t_workflowref50_File p0, .I p1, .I p2, .B p3, .B true] 0), .cv (.str p4)] (.tup [.cv (.ro .t_uint8 r.1), .I r.2]) := ECall.pcall (eo (fn := Try.f38) (n := 29) (m := 100) fun Γ => workflowref50_Disk_Read.body h) (by kernel_rfl)
def workflowref50_Disk_Read_v2 (K : Nat) (p0 : List UInt8) (p1 : Int) (p2 : Int) (p3 : Bool) : Option Int := (Option.bind (workflowref50_Disk_change K ([] : List workflowref50_File) p1 p2 p3 p0) (fun (a1_0, a1_1) => (if a1_1 ≠ 0 then some a1_1 else none)))
theorem workflowref50_Disk_Read_v2.body {Γ : Ent} {K : Nat} {p0 : List UInt8} {p1 : Int} {p2 : Int} {p3 : Bool} {r : Int} (h : workflowref50_Disk_Read_v2 K p0 p1 p2 p3 = some r) : AWp V P 29 100 Γ (Try.f38.body.getD .skip) (EndsE P V Try.f38 (.tup [.cv (.ro .t_uint8 ([] : List UInt8)), .I r]) [(0, .raw [.N, .I p1, .I p2, .B p3, .B true])]) ⟨args0 0 [.P 0, .cv (.str p0)], [(0, .raw [.N, .I p1, .I p2, .B p3, .B true])]⟩ := by
 unfold workflowref50_Disk_Read_v2 at h
 refine sr0 L 200 [] [] [] (S' := ⟨[(0, .P 0), (1, .cv (.str p0))], [(0, .raw [.N, .I p1, .I p2, .B p3, .B true])]⟩) ?_
 refine awp_seq ?_
 obtain ⟨⟨a1_0, a1_1⟩, h1, h⟩ := bind_some h
 dsimp only at h
 refine ar L 203 [] [(2, .tup [.I a1_0, .I a1_1])] [] (cs := [PCall V P 55 [.cv (.pcs [.N, .I p1, .I p2, .B p3, .B true] 0), .cv (.str p0)] (.tup [.I a1_0, .I a1_1]), True]) (S' := ⟨[(0, .P 0), (6, .I a1_0), (7, .I a1_1)], [(0, .raw [.N, .I p1, .I p2, .B p3, .B true])]⟩) (And.intro (PCall.co V (workflowref50_Disk_change.ok h1) (by kernel_rfl)) trivial) ?_
 refine awp_seq ?_
 refine sr0 L 212 [] [] [] (S' := ⟨[(0, .P 0), (6, .I a1_0), (7, .I a1_1), (16, .B (decide (a1_1 ≠ 0)))], [(0, .raw [.N, .I p1, .I p2, .B p3, .B true])]⟩) ?_
 rcases ite_some h with ⟨c1, h⟩ | ⟨c1, h⟩
 ·refine tt (b := (decide (a1_1 ≠ 0))) (decide_eq_true c1) ?_
  refine sr0 L 215 [] [] [] (S' := ⟨[(4, .N), (5, .I a1_1)], [(0, .raw [.N, .I p1, .I p2, .B p3, .B true])]⟩) ?_
  refine awp_ret ?_
  obtain rfl := Option.some.inj h
  exact er (.tup [.N, .I a1_1])
 refine ff (b := (decide (a1_1 ≠ 0))) (decide_eq_false c1) ?_
 refine awp_skip' ?_
 refine awp_seq ?_
 cases h
theorem workflowref50_Disk_Read_v2.okE {K : Nat} {p0 : List UInt8} {p1 : Int} {p2 : Int} {p3 : Bool} {r : Int} (h : workflowref50_Disk_Read_v2 K p0 p1 p2 p3 = some r) : ECall V P 38 [.P 0, .cv (.str p0)] [(0, .raw [.N, .I p1, .I p2, .B p3, .B true])] [0] (.tup [.cv (.ro .t_uint8 ([] : List UInt8)), .I r]) [(0, .raw [.N, .I p1, .I p2, .B p3, .B true])] :=
 eo (fn := Try.f38) (n := 29) (m := 100) fun Γ => workflowref50_Disk_Read_v2.body h
def workflowref50_Disk_Fuse_v2 (K : Nat) (p0 : Int) (p1 : Int) (p2 : Int) (p3 : Bool) : Option (Int × Int) := (Option.bind (workflowref50_ready K ([] : List workflowref50_File) p1 p2 p3) (fun a1 => (if a1 ≠ 0 then some (a1, p2) else (if p0 < 0 then some (2, p2) else some (0, p0)))))
theorem workflowref50_Disk_Fuse_v2.body {Γ : Ent} {K : Nat} {p0 : Int} {p1 : Int} {p2 : Int} {p3 : Bool} {r : Int × Int} (h : workflowref50_Disk_Fuse_v2 K p0 p1 p2 p3 = some r) : AWp V P 17 100 Γ (Try.f39.body.getD .skip) (EndsE P V Try.f39 (.I r.1) [(0, .raw [.N, .I p1, .I r.2, .B p3, .B true])]) ⟨args0 0 [.P 0, .I p0], [(0, .raw [.N, .I p1, .I p2, .B p3, .B true])]⟩ := by
 unfold workflowref50_Disk_Fuse_v2 at h
 refine sr0 L 200 [] [] [] (S' := ⟨[(0, .P 0), (1, .I p0)], [(0, .raw [.N, .I p1, .I p2, .B p3, .B true])]⟩) ?_
 refine awp_seq ?_
 obtain ⟨a1, h1, h⟩ := bind_some h
 refine ar L 202 [] [(1, .I a1)] [] (cs := [PCall V P 50 [.cv (.pcs [.N, .I p1, .I p2, .B p3, .B true] 0)] (.I a1), True]) (S' := ⟨[(0, .P 0), (1, .I p0), (5, .I a1)], [(0, .raw [.N, .I p1, .I p2, .B p3, .B true])]⟩) (And.intro (PCall.co V (workflowref50_ready.ok h1) (by kernel_rfl)) trivial) ?_
 refine awp_seq ?_
 refine sr0 L 206 [] [] [] (S' := ⟨[(0, .P 0), (1, .I p0), (5, .I a1), (9, .B (decide (a1 ≠ 0)))], [(0, .raw [.N, .I p1, .I p2, .B p3, .B true])]⟩) ?_
 rcases ite_some h with ⟨c1, h⟩ | ⟨c1, h⟩
 ·refine tt (b := (decide (a1 ≠ 0))) (decide_eq_true c1) ?_
  refine sr0 L 209 [] [] [] (S' := ⟨[(4, .I a1)], [(0, .raw [.N, .I p1, .I p2, .B p3, .B true])]⟩) ?_
  refine awp_ret ?_
  obtain rfl := Option.some.inj h
  exact er (.I a1)
 refine ff (b := (decide (a1 ≠ 0))) (decide_eq_false c1) ?_
 refine awp_skip' ?_
 refine awp_seq ?_
 refine sr0 L 212 [] [] [] (S' := ⟨[(0, .P 0), (1, .I p0), (12, .B (decide (p0 < 0)))], [(0, .raw [.N, .I p1, .I p2, .B p3, .B true])]⟩) ?_
 rcases ite_some h with ⟨c2, h⟩ | ⟨c2, h⟩
 ·refine tt (b := (decide (p0 < 0))) (decide_eq_true c2) ?_
  refine sr0 L 215 [] [] [] (S' := ⟨[(4, .I 2)], [(0, .raw [.N, .I p1, .I p2, .B p3, .B true])]⟩) ?_
  refine awp_ret ?_
  obtain rfl := Option.some.inj h
  exact er (.I 2)
 refine ff (b := (decide (p0 < 0))) (decide_eq_false c2) ?_
 refine awp_skip' ?_
 refine sr0 L 217 [] [] [] (S' := ⟨[], [(0, .raw [.N, .I p1, .I p0, .B p3, .B true])]⟩) ?_
 refine sr0 L 223 [] [] [] (S' := ⟨[(4, .I 0)], [(0, .raw [.N, .I p1, .I p0, .B p3, .B true])]⟩) ?_
 refine awp_ret ?_
 obtain rfl := Option.some.inj h
 exact er (.I 0)
theorem workflowref50_Disk_Fuse_v2.okE {K : Nat} {p0 : Int} {p1 : Int} {p2 : Int} {p3 : Bool} {r : Int × Int} (h : workflowref50_Disk_Fuse_v2 K p0 p1 p2 p3 = some r) : ECall V P 39 [.P 0, .I p0] [(0, .raw [.N, .I p1, .I p2, .B p3, .B true])] [0] (.I r.1) [(0, .raw [.N, .I p1, .I r.2, .B p3, .B true])] :=
 eo (fn := Try.f39) (n := 17) (m := 100) fun Γ => workflowref50_Disk_Fuse_v2.body h
def workflowref50_Disk_Crash_v2.l25 (K : Nat) : Nat → Option Unit
 | 0 => none
 | k + 1 => some ()
def workflowref50_Disk_Crash_v2 (K : Nat) (p0 : Int) (p1 : Int) (p2 : Int) (p3 : Bool) : Option (Int × Int × Bool) := (Option.bind (workflowref50_none K ([] : List workflowref50_File) p1 p2 p3) (fun _ => (if p0 < 0 then some (2, p2, p3) else (Option.bind (workflowref50_Disk_Crash_v2.l25 K K : Option Unit) (fun _ => some (0, (-1), false))))))
theorem workflowref50_Disk_Crash_v2.body {Γ : Ent} {K : Nat} {p0 : Int} {p1 : Int} {p2 : Int} {p3 : Bool} {r : Int × Int × Bool} (h : workflowref50_Disk_Crash_v2 K p0 p1 p2 p3 = some r) : AWp V P 62 100 Γ (Try.f40.body.getD .skip) (EndsE P V Try.f40 (.I r.1) [(0, .raw [.N, .I p1, .I r.2.1, .B r.2.2, .B true])]) ⟨args0 0 [.P 0, .I p0], [(0, .raw [.N, .I p1, .I p2, .B p3, .B true])]⟩ := by
 unfold workflowref50_Disk_Crash_v2 at h
 refine sr0 L 200 [] [] [] (S' := ⟨[(0, .P 0), (1, .I p0)], [(0, .raw [.N, .I p1, .I p2, .B p3, .B true])]⟩) ?_
 refine awp_seq ?_
 refine awp_seq ?_
 obtain ⟨⟨⟩, h1, h⟩ := bind_some h
 refine ar L 202 [] [(1, .B false)] [] (cs := [PCall V P 57 [.cv (.pcs [.N, .I p1, .I p2, .B p3, .B true] 0)] (.B false), True]) (S' := ⟨[(0, .P 0), (1, .I p0), (9, .B false)], [(0, .raw [.N, .I p1, .I p2, .B p3, .B true])]⟩) (And.intro (PCall.co V (workflowref50_none.ok h1) (by kernel_rfl)) trivial) ?_
 refine ff (b := false) (rfl) ?_
 refine awp_skip' ?_
 refine awp_seq ?_
 refine sr0 L 207 [] [] [] (S' := ⟨[(0, .P 0), (1, .I p0), (11, .B (decide (p0 < 0)))], [(0, .raw [.N, .I p1, .I p2, .B p3, .B true])]⟩) ?_
 rcases ite_some h with ⟨c1, h⟩ | ⟨c1, h⟩
 ·refine tt (b := (decide (p0 < 0))) (decide_eq_true c1) ?_
  refine sr0 L 210 [] [] [] (S' := ⟨[(4, .I 2)], [(0, .raw [.N, .I p1, .I p2, .B p3, .B true])]⟩) ?_
  refine awp_ret ?_
  obtain rfl := Option.some.inj h
  exact er (.I 2)
 refine ff (b := (decide (p0 < 0))) (decide_eq_false c1) ?_
 refine awp_skip' ?_
 refine sr0 L 212 [] [] [] (S' := ⟨[(0, .P 0), (1, .I p0), (5, .N)], [(0, .raw [.N, .I p1, .I p2, .B p3, .B true])]⟩) ?_
 refine awp_seq ?_
 refine sr0 L 214 [] [] [] (S' := ⟨[(0, .P 0), (1, .I p0), (5, .N), (6, .I 0)], [(0, .raw [.N, .I p1, .I p2, .B p3, .B true])]⟩) ?_
 refine awp_block ?_
 refine kp (S' := ⟨[(0, .P 0), (1, .I p0), (5, .N), (6, .I 0)], [(0, .raw [.N, .I p1, .I p2, .B p3, .B true])]⟩) ?_
 obtain ⟨o1, hp1, h⟩ := bind_some h
 refine awp_conseq (Q' := fun e S => (e = .exit 0 ∧ S = ⟨[(0, .P 0), (5, .N)], [(0, .raw [.N, .I p1, .I p2, .B p3, .B true])]⟩ ∧ () = o1)) (awp_loop (fun k S => S = ⟨[(0, .P 0), (1, .I p0), (5, .N), (6, .I 0)], [(0, .raw [.N, .I p1, .I p2, .B p3, .B true])]⟩ ∧ workflowref50_Disk_Crash_v2.l25 K k = some o1) ?_ ⟨rfl, hp1⟩) ?_
 ·clear h hp1
  intro k S hS
  obtain ⟨rfl, h⟩ := hS
  cases k with
  | zero => cases h
  | succ k =>
  unfold workflowref50_Disk_Crash_v2.l25 at h
  refine awp_seq ?_
  refine sr0 L 216 [] [] [] (S' := ⟨[(0, .P 0), (1, .I p0), (5, .N), (6, .I 0), (18, .B false)], [(0, .raw [.N, .I p1, .I p2, .B p3, .B true])]⟩) ?_
  refine ff (b := false) (rfl) ?_
  refine ex (S' := ⟨[(0, .P 0), (5, .N)], [(0, .raw [.N, .I p1, .I p2, .B p3, .B true])]⟩) ?_
  obtain rfl := Option.some.inj h
  exact ⟨rfl, rfl, rfl⟩
 ·rintro e S ⟨rfl, rfl, rfl⟩
  refine ⟨_, Turns.refl, ?_⟩
  refine sr0 L 269 [] [] [] (S' := ⟨[(0, .P 0)], [(0, .raw [.N, .I p1, .I p2, .B p3, .B true])]⟩) ?_
  refine sr0 L 275 [] [] [] (S' := ⟨[(0, .P 0)], [(0, .raw [.N, .I p1, .I p2, .B false, .B true])]⟩) ?_
  refine sr0 L 280 [] [] [] (S' := ⟨[], [(0, .raw [.N, .I p1, .I (-1), .B false, .B true])]⟩) ?_
  refine sr0 L 285 [] [] [] (S' := ⟨[(4, .I 0)], [(0, .raw [.N, .I p1, .I (-1), .B false, .B true])]⟩) ?_
  refine awp_ret ?_
  obtain rfl := Option.some.inj h
  exact er (.I 0)
theorem workflowref50_Disk_Crash_v2.okE {K : Nat} {p0 : Int} {p1 : Int} {p2 : Int} {p3 : Bool} {r : Int × Int × Bool} (h : workflowref50_Disk_Crash_v2 K p0 p1 p2 p3 = some r) : ECall V P 40 [.P 0, .I p0] [(0, .raw [.N, .I p1, .I p2, .B p3, .B true])] [0] (.I r.1) [(0, .raw [.N, .I p1, .I r.2.1, .B r.2.2, .B true])] :=
 eo (fn := Try.f40) (n := 62) (m := 100) fun Γ => workflowref50_Disk_Crash_v2.body h
def workflowref50_Disk_Copy.l17 (K : Nat) (p0 : List workflowref50_File) : Nat → Int → (List workflowref50_File) → Option (List workflowref50_File)
 | 0, _, _ => none
 | k + 1, xt4_17h, x23501 => (if xt4_17h < (p0.length : Int) then (if (0 : Int) ≤ xt4_17h ∧ (xt4_17h : Int) < (p0.length : Int) then (if (([] : List UInt8).length + ((p0.getD (Int.toNat xt4_17h) z_workflowref50_File).Data).length) * 1 ≤ 140737488355328 then (if (x23501.length + ([(⟨(p0.getD (Int.toNat xt4_17h) z_workflowref50_File).Name, (([] : List UInt8) ++ (p0.getD (Int.toNat xt4_17h) z_workflowref50_File).Data), (p0.getD (Int.toNat xt4_17h) z_workflowref50_File).Safe⟩ : workflowref50_File)] : List workflowref50_File).length) * 48 ≤ 140737488355328 then workflowref50_Disk_Copy.l17 K p0 k (IntKind.i64.wrap (xt4_17h + 1)) ((x23501 ++ ([(⟨(p0.getD (Int.toNat xt4_17h) z_workflowref50_File).Name, (([] : List UInt8) ++ (p0.getD (Int.toNat xt4_17h) z_workflowref50_File).Data), (p0.getD (Int.toNat xt4_17h) z_workflowref50_File).Safe⟩ : workflowref50_File)] : List workflowref50_File))) else none) else none) else none) else some x23501)
def workflowref50_Disk_Copy (K : Nat) (p0 : List workflowref50_File) (p1 : Int) (p2 : Int) (p3 : Bool) : Option (List workflowref50_File) := (Option.bind (workflowref50_none K p0 p1 p2 p3) (fun _ => (Option.bind (workflowref50_Disk_Copy.l17 K p0 K 0 ([] : List workflowref50_File) : Option (List workflowref50_File)) (fun x23401 => some x23401))))
theorem workflowref50_Disk_Copy.body {Γ : Ent} {K : Nat} {p0 : List workflowref50_File} {p1 : Int} {p2 : Int} {p3 : Bool} {r : List workflowref50_File} (h : workflowref50_Disk_Copy K p0 p1 p2 p3 = some r) : AWp V P 54 100 Γ (Try.f41.body.getD .skip) (EndsE P V Try.f41 (.P 100) [(100, .raw [.own .t_workflowref50_File 101, .I p1, .I p2, .B p3, .B true]), (101, .lst .t_workflowref50_File r)]) ⟨args0 0 [.cv (.pcs [.ro .t_workflowref50_File p0, .I p1, .I p2, .B p3, .B true] 0)], []⟩ := by
 unfold workflowref50_Disk_Copy at h
 refine sr0 L 200 [] [] [] (S' := ⟨[(0, .cv (.pcs [.ro .t_workflowref50_File p0, .I p1, .I p2, .B p3, .B true] 0))], []⟩) ?_
 refine awp_seq ?_
 refine awp_seq ?_
 obtain ⟨⟨⟩, h1, h⟩ := bind_some h
 refine ar L 202 [] [(1, .B false)] [] (cs := [PCall V P 57 [.cv (.pcs [.ro .t_workflowref50_File p0, .I p1, .I p2, .B p3, .B true] 0)] (.B false), True]) (S' := ⟨[(0, .cv (.pcs [.ro .t_workflowref50_File p0, .I p1, .I p2, .B p3, .B true] 0)), (7, .B false)], []⟩) (And.intro (workflowref50_none.ok h1) trivial) ?_
 refine ff (b := false) (rfl) ?_
 refine awp_skip' ?_
 refine sd L mixed 207 [] [] [] [] 15 (cs := []) (S' := ⟨[(0, .cv (.pcs [.ro .t_workflowref50_File p0, .I p1, .I p2, .B p3, .B true] 0)), (3, .P 220)], [(220, .raw [.N, .I p1, .I p2, .B p3, .B true])]⟩) trivial ?_
 refine awp_seq ?_
 refine sr0 L 223 [] [] [] (S' := ⟨[(0, .cv (.pcs [.ro .t_workflowref50_File p0, .I p1, .I p2, .B p3, .B true] 0)), (3, .P 220), (4, .I 0)], [(220, .raw [.N, .I p1, .I p2, .B p3, .B true])]⟩) ?_
 refine awp_block ?_
 refine awp_turn (Turns.trans (Turns.kp (S' := ⟨[(0, .cv (.pcs [.ro .t_workflowref50_File p0, .I p1, .I p2, .B p3, .B true] 0)), (3, .P 220), (4, .I 0)], [(220, .raw [.N, .I p1, .I p2, .B p3, .B true])]⟩)) (Turns.trans (Turns.nilownc 220 0 9500 Tag.t_workflowref50_File [.N, .I p1, .I p2, .B p3, .B true] (by kernel_rfl) (by kernel_rfl) (by kernel_rfl) (by kernel_rfl) (S' := ⟨[(0, .cv (.pcs [.ro .t_workflowref50_File p0, .I p1, .I p2, .B p3, .B true] 0)), (3, .P 220), (4, .I 0)], [(9500, .lst .t_workflowref50_File ([] : List workflowref50_File)), (220, .raw [.own .t_workflowref50_File 9500, .I p1, .I p2, .B p3, .B true])]⟩) (by kernel_rfl)) (Turns.trans (Turns.kp (S' := ⟨[(0, .cv (.pcs [.ro .t_workflowref50_File p0, .I p1, .I p2, .B p3, .B true] 0)), (3, .P 220), (4, .I 0)], [(220, .raw [.own .t_workflowref50_File 9500, .I p1, .I p2, .B p3, .B true]), (9500, .lst .t_workflowref50_File ([] : List workflowref50_File))]⟩)) (Turns.rn [(220, 23500), (9500, 23501)] (S' := ⟨[(0, .cv (.pcs [.ro .t_workflowref50_File p0, .I p1, .I p2, .B p3, .B true] 0)), (3, .P 23500), (4, .I 0)], [(23500, .raw [.own .t_workflowref50_File 23501, .I p1, .I p2, .B p3, .B true]), (23501, .lst .t_workflowref50_File ([] : List workflowref50_File))]⟩))))) ?_
 refine kp (S' := ⟨[(0, .cv (.pcs [.ro .t_workflowref50_File p0, .I p1, .I p2, .B p3, .B true] 0)), (3, .P 23500), (4, .I 0)], [(23500, .raw [.own .t_workflowref50_File 23501, .I p1, .I p2, .B p3, .B true]), (23501, .lst .t_workflowref50_File ([] : List workflowref50_File))]⟩) ?_
 obtain ⟨o1, hp1, h⟩ := bind_some h
 refine awp_conseq (Q' := fun e S => (e = .exit 0 ∧ ∃ x23401 : List workflowref50_File, S = ⟨[(3, .P 23400)], [(23400, .raw [.own .t_workflowref50_File 23401, .I p1, .I p2, .B p3, .B true]), (23401, .lst .t_workflowref50_File x23401)]⟩ ∧ x23401 = o1)) (awp_loop (fun k S => ∃ xt4_17h : Int, ∃ x23501 : List workflowref50_File, S = ⟨[(0, .cv (.pcs [.ro .t_workflowref50_File p0, .I p1, .I p2, .B p3, .B true] 0)), (3, .P 23500), (4, .I xt4_17h)], [(23500, .raw [.own .t_workflowref50_File 23501, .I p1, .I p2, .B p3, .B true]), (23501, .lst .t_workflowref50_File x23501)]⟩ ∧ workflowref50_Disk_Copy.l17 K p0 k xt4_17h x23501 = some o1) ?_ ⟨_, _, rfl, hp1⟩) ?_
 ·clear h hp1
  intro k S hS
  obtain ⟨xt4_17h, x23501, rfl, h⟩ := hS
  cases k with
  | zero => cases h
  | succ k =>
  unfold workflowref50_Disk_Copy.l17 at h
  refine awp_seq ?_
  refine sr0 L 225 [] [] [] (S' := ⟨[(0, .cv (.pcs [.ro .t_workflowref50_File p0, .I p1, .I p2, .B p3, .B true] 0)), (3, .P 23500), (4, .I xt4_17h), (28, .B (decide (xt4_17h < (p0.length : Int))))], [(23500, .raw [.own .t_workflowref50_File 23501, .I p1, .I p2, .B p3, .B true]), (23501, .lst .t_workflowref50_File x23501)]⟩) ?_
  rcases ite_some h with ⟨c1, h⟩ | ⟨c1, h⟩
  ·refine tt (b := (decide (xt4_17h < (p0.length : Int)))) (decide_eq_true c1) ?_
   refine awp_skip' ?_
   refine awp_seq ?_
   refine awp_block ?_
   refine awp_seq ?_
   obtain ⟨g1, h⟩ := guard_some h
   refine ar L 233 [] [] [] (cs := [(0 : Int) ≤ xt4_17h, (xt4_17h : Int) < (p0.length : Int)]) (S' := ⟨[(0, .cv (.pcs [.ro .t_workflowref50_File p0, .I p1, .I p2, .B p3, .B true] 0)), (3, .P 23500), (4, .I xt4_17h), (5, .P 240)], [(240, .raw (d_workflowref50_File (p0.getD (Int.toNat xt4_17h) z_workflowref50_File))), (23500, .raw [.own .t_workflowref50_File 23501, .I p1, .I p2, .B p3, .B true]), (23501, .lst .t_workflowref50_File x23501)]⟩) (And.intro g1.1 g1.2) ?_
   refine awp_seq ?_
   obtain ⟨g2, h⟩ := guard_some h
   refine ar L 243 [] [] [] (cs := [(([] : List UInt8).length + ((p0.getD (Int.toNat xt4_17h) z_workflowref50_File).Data).length) * 1 ≤ 140737488355328, True]) (S' := ⟨[(0, .cv (.pcs [.ro .t_workflowref50_File p0, .I p1, .I p2, .B p3, .B true] 0)), (3, .P 23500), (4, .I xt4_17h), (5, .P 240)], [(240, .raw [.str ((p0.getD (Int.toNat xt4_17h) z_workflowref50_File).Name), .own .t_uint8 243, .I ((p0.getD (Int.toNat xt4_17h) z_workflowref50_File).Safe)]), (243, .lst .t_uint8 (([] : List UInt8) ++ (p0.getD (Int.toNat xt4_17h) z_workflowref50_File).Data)), (23500, .raw [.own .t_workflowref50_File 23501, .I p1, .I p2, .B p3, .B true]), (23501, .lst .t_workflowref50_File x23501)]⟩) (And.intro g2 trivial) ?_
   refine awp_turn (Turns.frz 243 (blk0 := .lst .t_uint8 (([] : List UInt8) ++ (p0.getD (Int.toNat xt4_17h) z_workflowref50_File).Data)) (by kernel_rfl) (by kernel_rfl) (S' := ⟨[(0, .cv (.pcs [.ro .t_workflowref50_File p0, .I p1, .I p2, .B p3, .B true] 0)), (3, .P 23500), (4, .I xt4_17h), (5, .P 240)], [(240, .raw [.str ((p0.getD (Int.toNat xt4_17h) z_workflowref50_File).Name), .ro .t_uint8 (([] : List UInt8) ++ (p0.getD (Int.toNat xt4_17h) z_workflowref50_File).Data), .I ((p0.getD (Int.toNat xt4_17h) z_workflowref50_File).Safe)]), (23500, .raw [.own .t_workflowref50_File 23501, .I p1, .I p2, .B p3, .B true]), (23501, .lst .t_workflowref50_File x23501)]⟩) (by kernel_rfl)) ?_
   obtain ⟨g3, h⟩ := guard_some h
   refine aA L mixed 250 [] [] [] [] 0 120 (cs := [(x23501.length + ([(⟨(p0.getD (Int.toNat xt4_17h) z_workflowref50_File).Name, (([] : List UInt8) ++ (p0.getD (Int.toNat xt4_17h) z_workflowref50_File).Data), (p0.getD (Int.toNat xt4_17h) z_workflowref50_File).Safe⟩ : workflowref50_File)] : List workflowref50_File).length) * 48 ≤ 140737488355328, True, (x23501.length + ([(⟨(p0.getD (Int.toNat xt4_17h) z_workflowref50_File).Name, (([] : List UInt8) ++ (p0.getD (Int.toNat xt4_17h) z_workflowref50_File).Data), (p0.getD (Int.toNat xt4_17h) z_workflowref50_File).Safe⟩ : workflowref50_File)] : List workflowref50_File).length) * 48 ≤ 140737488355328, True, (x23501.length + ([(⟨(p0.getD (Int.toNat xt4_17h) z_workflowref50_File).Name, (([] : List UInt8) ++ (p0.getD (Int.toNat xt4_17h) z_workflowref50_File).Data), (p0.getD (Int.toNat xt4_17h) z_workflowref50_File).Safe⟩ : workflowref50_File)] : List workflowref50_File).length) * 48 ≤ 140737488355328, True, (x23501.length + ([(⟨(p0.getD (Int.toNat xt4_17h) z_workflowref50_File).Name, (([] : List UInt8) ++ (p0.getD (Int.toNat xt4_17h) z_workflowref50_File).Data), (p0.getD (Int.toNat xt4_17h) z_workflowref50_File).Safe⟩ : workflowref50_File)] : List workflowref50_File).length) * 48 ≤ 140737488355328, True, (x23501.length + ([(⟨(p0.getD (Int.toNat xt4_17h) z_workflowref50_File).Name, (([] : List UInt8) ++ (p0.getD (Int.toNat xt4_17h) z_workflowref50_File).Data), (p0.getD (Int.toNat xt4_17h) z_workflowref50_File).Safe⟩ : workflowref50_File)] : List workflowref50_File).length) * 48 ≤ 140737488355328, True, (x23501.length + ([(⟨(p0.getD (Int.toNat xt4_17h) z_workflowref50_File).Name, (([] : List UInt8) ++ (p0.getD (Int.toNat xt4_17h) z_workflowref50_File).Data), (p0.getD (Int.toNat xt4_17h) z_workflowref50_File).Safe⟩ : workflowref50_File)] : List workflowref50_File).length) * 48 ≤ 140737488355328, True, (x23501.length + ([(⟨(p0.getD (Int.toNat xt4_17h) z_workflowref50_File).Name, (([] : List UInt8) ++ (p0.getD (Int.toNat xt4_17h) z_workflowref50_File).Data), (p0.getD (Int.toNat xt4_17h) z_workflowref50_File).Safe⟩ : workflowref50_File)] : List workflowref50_File).length) * 48 ≤ 140737488355328, True, (x23501.length + ([(⟨(p0.getD (Int.toNat xt4_17h) z_workflowref50_File).Name, (([] : List UInt8) ++ (p0.getD (Int.toNat xt4_17h) z_workflowref50_File).Data), (p0.getD (Int.toNat xt4_17h) z_workflowref50_File).Safe⟩ : workflowref50_File)] : List workflowref50_File).length) * 48 ≤ 140737488355328, True, (x23501.length + ([(⟨(p0.getD (Int.toNat xt4_17h) z_workflowref50_File).Name, (([] : List UInt8) ++ (p0.getD (Int.toNat xt4_17h) z_workflowref50_File).Data), (p0.getD (Int.toNat xt4_17h) z_workflowref50_File).Safe⟩ : workflowref50_File)] : List workflowref50_File).length) * 48 ≤ 140737488355328, True, (x23501.length + ([(⟨(p0.getD (Int.toNat xt4_17h) z_workflowref50_File).Name, (([] : List UInt8) ++ (p0.getD (Int.toNat xt4_17h) z_workflowref50_File).Data), (p0.getD (Int.toNat xt4_17h) z_workflowref50_File).Safe⟩ : workflowref50_File)] : List workflowref50_File).length) * 48 ≤ 140737488355328, True, (x23501.length + ([(⟨(p0.getD (Int.toNat xt4_17h) z_workflowref50_File).Name, (([] : List UInt8) ++ (p0.getD (Int.toNat xt4_17h) z_workflowref50_File).Data), (p0.getD (Int.toNat xt4_17h) z_workflowref50_File).Safe⟩ : workflowref50_File)] : List workflowref50_File).length) * 48 ≤ 140737488355328, True, (x23501.length + ([(⟨(p0.getD (Int.toNat xt4_17h) z_workflowref50_File).Name, (([] : List UInt8) ++ (p0.getD (Int.toNat xt4_17h) z_workflowref50_File).Data), (p0.getD (Int.toNat xt4_17h) z_workflowref50_File).Safe⟩ : workflowref50_File)] : List workflowref50_File).length) * 48 ≤ 140737488355328, True, (x23501.length + ([(⟨(p0.getD (Int.toNat xt4_17h) z_workflowref50_File).Name, (([] : List UInt8) ++ (p0.getD (Int.toNat xt4_17h) z_workflowref50_File).Data), (p0.getD (Int.toNat xt4_17h) z_workflowref50_File).Safe⟩ : workflowref50_File)] : List workflowref50_File).length) * 48 ≤ 140737488355328, True, (x23501.length + ([(⟨(p0.getD (Int.toNat xt4_17h) z_workflowref50_File).Name, (([] : List UInt8) ++ (p0.getD (Int.toNat xt4_17h) z_workflowref50_File).Data), (p0.getD (Int.toNat xt4_17h) z_workflowref50_File).Safe⟩ : workflowref50_File)] : List workflowref50_File).length) * 48 ≤ 140737488355328, True, (x23501.length + ([(⟨(p0.getD (Int.toNat xt4_17h) z_workflowref50_File).Name, (([] : List UInt8) ++ (p0.getD (Int.toNat xt4_17h) z_workflowref50_File).Data), (p0.getD (Int.toNat xt4_17h) z_workflowref50_File).Safe⟩ : workflowref50_File)] : List workflowref50_File).length) * 48 ≤ 140737488355328, True, (x23501.length + ([(⟨(p0.getD (Int.toNat xt4_17h) z_workflowref50_File).Name, (([] : List UInt8) ++ (p0.getD (Int.toNat xt4_17h) z_workflowref50_File).Data), (p0.getD (Int.toNat xt4_17h) z_workflowref50_File).Safe⟩ : workflowref50_File)] : List workflowref50_File).length) * 48 ≤ 140737488355328, True, (x23501.length + ([(⟨(p0.getD (Int.toNat xt4_17h) z_workflowref50_File).Name, (([] : List UInt8) ++ (p0.getD (Int.toNat xt4_17h) z_workflowref50_File).Data), (p0.getD (Int.toNat xt4_17h) z_workflowref50_File).Safe⟩ : workflowref50_File)] : List workflowref50_File).length) * 48 ≤ 140737488355328, True, (x23501.length + ([(⟨(p0.getD (Int.toNat xt4_17h) z_workflowref50_File).Name, (([] : List UInt8) ++ (p0.getD (Int.toNat xt4_17h) z_workflowref50_File).Data), (p0.getD (Int.toNat xt4_17h) z_workflowref50_File).Safe⟩ : workflowref50_File)] : List workflowref50_File).length) * 48 ≤ 140737488355328, True, (x23501.length + ([(⟨(p0.getD (Int.toNat xt4_17h) z_workflowref50_File).Name, (([] : List UInt8) ++ (p0.getD (Int.toNat xt4_17h) z_workflowref50_File).Data), (p0.getD (Int.toNat xt4_17h) z_workflowref50_File).Safe⟩ : workflowref50_File)] : List workflowref50_File).length) * 48 ≤ 140737488355328, True, (x23501.length + ([(⟨(p0.getD (Int.toNat xt4_17h) z_workflowref50_File).Name, (([] : List UInt8) ++ (p0.getD (Int.toNat xt4_17h) z_workflowref50_File).Data), (p0.getD (Int.toNat xt4_17h) z_workflowref50_File).Safe⟩ : workflowref50_File)] : List workflowref50_File).length) * 48 ≤ 140737488355328, True, (x23501.length + ([(⟨(p0.getD (Int.toNat xt4_17h) z_workflowref50_File).Name, (([] : List UInt8) ++ (p0.getD (Int.toNat xt4_17h) z_workflowref50_File).Data), (p0.getD (Int.toNat xt4_17h) z_workflowref50_File).Safe⟩ : workflowref50_File)] : List workflowref50_File).length) * 48 ≤ 140737488355328, True, (x23501.length + ([(⟨(p0.getD (Int.toNat xt4_17h) z_workflowref50_File).Name, (([] : List UInt8) ++ (p0.getD (Int.toNat xt4_17h) z_workflowref50_File).Data), (p0.getD (Int.toNat xt4_17h) z_workflowref50_File).Safe⟩ : workflowref50_File)] : List workflowref50_File).length) * 48 ≤ 140737488355328, True, (x23501.length + ([(⟨(p0.getD (Int.toNat xt4_17h) z_workflowref50_File).Name, (([] : List UInt8) ++ (p0.getD (Int.toNat xt4_17h) z_workflowref50_File).Data), (p0.getD (Int.toNat xt4_17h) z_workflowref50_File).Safe⟩ : workflowref50_File)] : List workflowref50_File).length) * 48 ≤ 140737488355328, True, (x23501.length + ([(⟨(p0.getD (Int.toNat xt4_17h) z_workflowref50_File).Name, (([] : List UInt8) ++ (p0.getD (Int.toNat xt4_17h) z_workflowref50_File).Data), (p0.getD (Int.toNat xt4_17h) z_workflowref50_File).Safe⟩ : workflowref50_File)] : List workflowref50_File).length) * 48 ≤ 140737488355328, True, (x23501.length + ([(⟨(p0.getD (Int.toNat xt4_17h) z_workflowref50_File).Name, (([] : List UInt8) ++ (p0.getD (Int.toNat xt4_17h) z_workflowref50_File).Data), (p0.getD (Int.toNat xt4_17h) z_workflowref50_File).Safe⟩ : workflowref50_File)] : List workflowref50_File).length) * 48 ≤ 140737488355328, True, (x23501.length + ([(⟨(p0.getD (Int.toNat xt4_17h) z_workflowref50_File).Name, (([] : List UInt8) ++ (p0.getD (Int.toNat xt4_17h) z_workflowref50_File).Data), (p0.getD (Int.toNat xt4_17h) z_workflowref50_File).Safe⟩ : workflowref50_File)] : List workflowref50_File).length) * 48 ≤ 140737488355328, True, (x23501.length + ([(⟨(p0.getD (Int.toNat xt4_17h) z_workflowref50_File).Name, (([] : List UInt8) ++ (p0.getD (Int.toNat xt4_17h) z_workflowref50_File).Data), (p0.getD (Int.toNat xt4_17h) z_workflowref50_File).Safe⟩ : workflowref50_File)] : List workflowref50_File).length) * 48 ≤ 140737488355328, True, (x23501.length + ([(⟨(p0.getD (Int.toNat xt4_17h) z_workflowref50_File).Name, (([] : List UInt8) ++ (p0.getD (Int.toNat xt4_17h) z_workflowref50_File).Data), (p0.getD (Int.toNat xt4_17h) z_workflowref50_File).Safe⟩ : workflowref50_File)] : List workflowref50_File).length) * 48 ≤ 140737488355328, True, (x23501.length + ([(⟨(p0.getD (Int.toNat xt4_17h) z_workflowref50_File).Name, (([] : List UInt8) ++ (p0.getD (Int.toNat xt4_17h) z_workflowref50_File).Data), (p0.getD (Int.toNat xt4_17h) z_workflowref50_File).Safe⟩ : workflowref50_File)] : List workflowref50_File).length) * 48 ≤ 140737488355328, True, (x23501.length + ([(⟨(p0.getD (Int.toNat xt4_17h) z_workflowref50_File).Name, (([] : List UInt8) ++ (p0.getD (Int.toNat xt4_17h) z_workflowref50_File).Data), (p0.getD (Int.toNat xt4_17h) z_workflowref50_File).Safe⟩ : workflowref50_File)] : List workflowref50_File).length) * 48 ≤ 140737488355328, True, (x23501.length + ([(⟨(p0.getD (Int.toNat xt4_17h) z_workflowref50_File).Name, (([] : List UInt8) ++ (p0.getD (Int.toNat xt4_17h) z_workflowref50_File).Data), (p0.getD (Int.toNat xt4_17h) z_workflowref50_File).Safe⟩ : workflowref50_File)] : List workflowref50_File).length) * 48 ≤ 140737488355328, True, (x23501.length + ([(⟨(p0.getD (Int.toNat xt4_17h) z_workflowref50_File).Name, (([] : List UInt8) ++ (p0.getD (Int.toNat xt4_17h) z_workflowref50_File).Data), (p0.getD (Int.toNat xt4_17h) z_workflowref50_File).Safe⟩ : workflowref50_File)] : List workflowref50_File).length) * 48 ≤ 140737488355328, True, (x23501.length + ([(⟨(p0.getD (Int.toNat xt4_17h) z_workflowref50_File).Name, (([] : List UInt8) ++ (p0.getD (Int.toNat xt4_17h) z_workflowref50_File).Data), (p0.getD (Int.toNat xt4_17h) z_workflowref50_File).Safe⟩ : workflowref50_File)] : List workflowref50_File).length) * 48 ≤ 140737488355328, True, (x23501.length + ([(⟨(p0.getD (Int.toNat xt4_17h) z_workflowref50_File).Name, (([] : List UInt8) ++ (p0.getD (Int.toNat xt4_17h) z_workflowref50_File).Data), (p0.getD (Int.toNat xt4_17h) z_workflowref50_File).Safe⟩ : workflowref50_File)] : List workflowref50_File).length) * 48 ≤ 140737488355328, True, (x23501.length + ([(⟨(p0.getD (Int.toNat xt4_17h) z_workflowref50_File).Name, (([] : List UInt8) ++ (p0.getD (Int.toNat xt4_17h) z_workflowref50_File).Data), (p0.getD (Int.toNat xt4_17h) z_workflowref50_File).Safe⟩ : workflowref50_File)] : List workflowref50_File).length) * 48 ≤ 140737488355328, True, (x23501.length + ([(⟨(p0.getD (Int.toNat xt4_17h) z_workflowref50_File).Name, (([] : List UInt8) ++ (p0.getD (Int.toNat xt4_17h) z_workflowref50_File).Data), (p0.getD (Int.toNat xt4_17h) z_workflowref50_File).Safe⟩ : workflowref50_File)] : List workflowref50_File).length) * 48 ≤ 140737488355328, True, (x23501.length + ([(⟨(p0.getD (Int.toNat xt4_17h) z_workflowref50_File).Name, (([] : List UInt8) ++ (p0.getD (Int.toNat xt4_17h) z_workflowref50_File).Data), (p0.getD (Int.toNat xt4_17h) z_workflowref50_File).Safe⟩ : workflowref50_File)] : List workflowref50_File).length) * 48 ≤ 140737488355328, True, (x23501.length + ([(⟨(p0.getD (Int.toNat xt4_17h) z_workflowref50_File).Name, (([] : List UInt8) ++ (p0.getD (Int.toNat xt4_17h) z_workflowref50_File).Data), (p0.getD (Int.toNat xt4_17h) z_workflowref50_File).Safe⟩ : workflowref50_File)] : List workflowref50_File).length) * 48 ≤ 140737488355328, True, (x23501.length + ([(⟨(p0.getD (Int.toNat xt4_17h) z_workflowref50_File).Name, (([] : List UInt8) ++ (p0.getD (Int.toNat xt4_17h) z_workflowref50_File).Data), (p0.getD (Int.toNat xt4_17h) z_workflowref50_File).Safe⟩ : workflowref50_File)] : List workflowref50_File).length) * 48 ≤ 140737488355328, True, (x23501.length + ([(⟨(p0.getD (Int.toNat xt4_17h) z_workflowref50_File).Name, (([] : List UInt8) ++ (p0.getD (Int.toNat xt4_17h) z_workflowref50_File).Data), (p0.getD (Int.toNat xt4_17h) z_workflowref50_File).Safe⟩ : workflowref50_File)] : List workflowref50_File).length) * 48 ≤ 140737488355328, True, (x23501.length + ([(⟨(p0.getD (Int.toNat xt4_17h) z_workflowref50_File).Name, (([] : List UInt8) ++ (p0.getD (Int.toNat xt4_17h) z_workflowref50_File).Data), (p0.getD (Int.toNat xt4_17h) z_workflowref50_File).Safe⟩ : workflowref50_File)] : List workflowref50_File).length) * 48 ≤ 140737488355328, True, (x23501.length + ([(⟨(p0.getD (Int.toNat xt4_17h) z_workflowref50_File).Name, (([] : List UInt8) ++ (p0.getD (Int.toNat xt4_17h) z_workflowref50_File).Data), (p0.getD (Int.toNat xt4_17h) z_workflowref50_File).Safe⟩ : workflowref50_File)] : List workflowref50_File).length) * 48 ≤ 140737488355328, True, (x23501.length + ([(⟨(p0.getD (Int.toNat xt4_17h) z_workflowref50_File).Name, (([] : List UInt8) ++ (p0.getD (Int.toNat xt4_17h) z_workflowref50_File).Data), (p0.getD (Int.toNat xt4_17h) z_workflowref50_File).Safe⟩ : workflowref50_File)] : List workflowref50_File).length) * 48 ≤ 140737488355328, True, (x23501.length + ([(⟨(p0.getD (Int.toNat xt4_17h) z_workflowref50_File).Name, (([] : List UInt8) ++ (p0.getD (Int.toNat xt4_17h) z_workflowref50_File).Data), (p0.getD (Int.toNat xt4_17h) z_workflowref50_File).Safe⟩ : workflowref50_File)] : List workflowref50_File).length) * 48 ≤ 140737488355328, True, (x23501.length + ([(⟨(p0.getD (Int.toNat xt4_17h) z_workflowref50_File).Name, (([] : List UInt8) ++ (p0.getD (Int.toNat xt4_17h) z_workflowref50_File).Data), (p0.getD (Int.toNat xt4_17h) z_workflowref50_File).Safe⟩ : workflowref50_File)] : List workflowref50_File).length) * 48 ≤ 140737488355328, True, (x23501.length + ([(⟨(p0.getD (Int.toNat xt4_17h) z_workflowref50_File).Name, (([] : List UInt8) ++ (p0.getD (Int.toNat xt4_17h) z_workflowref50_File).Data), (p0.getD (Int.toNat xt4_17h) z_workflowref50_File).Safe⟩ : workflowref50_File)] : List workflowref50_File).length) * 48 ≤ 140737488355328, True, (x23501.length + ([(⟨(p0.getD (Int.toNat xt4_17h) z_workflowref50_File).Name, (([] : List UInt8) ++ (p0.getD (Int.toNat xt4_17h) z_workflowref50_File).Data), (p0.getD (Int.toNat xt4_17h) z_workflowref50_File).Safe⟩ : workflowref50_File)] : List workflowref50_File).length) * 48 ≤ 140737488355328, True, (x23501.length + ([(⟨(p0.getD (Int.toNat xt4_17h) z_workflowref50_File).Name, (([] : List UInt8) ++ (p0.getD (Int.toNat xt4_17h) z_workflowref50_File).Data), (p0.getD (Int.toNat xt4_17h) z_workflowref50_File).Safe⟩ : workflowref50_File)] : List workflowref50_File).length) * 48 ≤ 140737488355328, True, (x23501.length + ([(⟨(p0.getD (Int.toNat xt4_17h) z_workflowref50_File).Name, (([] : List UInt8) ++ (p0.getD (Int.toNat xt4_17h) z_workflowref50_File).Data), (p0.getD (Int.toNat xt4_17h) z_workflowref50_File).Safe⟩ : workflowref50_File)] : List workflowref50_File).length) * 48 ≤ 140737488355328, True, (x23501.length + ([(⟨(p0.getD (Int.toNat xt4_17h) z_workflowref50_File).Name, (([] : List UInt8) ++ (p0.getD (Int.toNat xt4_17h) z_workflowref50_File).Data), (p0.getD (Int.toNat xt4_17h) z_workflowref50_File).Safe⟩ : workflowref50_File)] : List workflowref50_File).length) * 48 ≤ 140737488355328, True, (x23501.length + ([(⟨(p0.getD (Int.toNat xt4_17h) z_workflowref50_File).Name, (([] : List UInt8) ++ (p0.getD (Int.toNat xt4_17h) z_workflowref50_File).Data), (p0.getD (Int.toNat xt4_17h) z_workflowref50_File).Safe⟩ : workflowref50_File)] : List workflowref50_File).length) * 48 ≤ 140737488355328, True, (x23501.length + ([(⟨(p0.getD (Int.toNat xt4_17h) z_workflowref50_File).Name, (([] : List UInt8) ++ (p0.getD (Int.toNat xt4_17h) z_workflowref50_File).Data), (p0.getD (Int.toNat xt4_17h) z_workflowref50_File).Safe⟩ : workflowref50_File)] : List workflowref50_File).length) * 48 ≤ 140737488355328, True, (x23501.length + ([(⟨(p0.getD (Int.toNat xt4_17h) z_workflowref50_File).Name, (([] : List UInt8) ++ (p0.getD (Int.toNat xt4_17h) z_workflowref50_File).Data), (p0.getD (Int.toNat xt4_17h) z_workflowref50_File).Safe⟩ : workflowref50_File)] : List workflowref50_File).length) * 48 ≤ 140737488355328, True, (x23501.length + ([(⟨(p0.getD (Int.toNat xt4_17h) z_workflowref50_File).Name, (([] : List UInt8) ++ (p0.getD (Int.toNat xt4_17h) z_workflowref50_File).Data), (p0.getD (Int.toNat xt4_17h) z_workflowref50_File).Safe⟩ : workflowref50_File)] : List workflowref50_File).length) * 48 ≤ 140737488355328, True, (x23501.length + ([(⟨(p0.getD (Int.toNat xt4_17h) z_workflowref50_File).Name, (([] : List UInt8) ++ (p0.getD (Int.toNat xt4_17h) z_workflowref50_File).Data), (p0.getD (Int.toNat xt4_17h) z_workflowref50_File).Safe⟩ : workflowref50_File)] : List workflowref50_File).length) * 48 ≤ 140737488355328, True, (x23501.length + ([(⟨(p0.getD (Int.toNat xt4_17h) z_workflowref50_File).Name, (([] : List UInt8) ++ (p0.getD (Int.toNat xt4_17h) z_workflowref50_File).Data), (p0.getD (Int.toNat xt4_17h) z_workflowref50_File).Safe⟩ : workflowref50_File)] : List workflowref50_File).length) * 48 ≤ 140737488355328, True, (x23501.length + ([(⟨(p0.getD (Int.toNat xt4_17h) z_workflowref50_File).Name, (([] : List UInt8) ++ (p0.getD (Int.toNat xt4_17h) z_workflowref50_File).Data), (p0.getD (Int.toNat xt4_17h) z_workflowref50_File).Safe⟩ : workflowref50_File)] : List workflowref50_File).length) * 48 ≤ 140737488355328, True, (x23501.length + ([(⟨(p0.getD (Int.toNat xt4_17h) z_workflowref50_File).Name, (([] : List UInt8) ++ (p0.getD (Int.toNat xt4_17h) z_workflowref50_File).Data), (p0.getD (Int.toNat xt4_17h) z_workflowref50_File).Safe⟩ : workflowref50_File)] : List workflowref50_File).length) * 48 ≤ 140737488355328, True, (x23501.length + ([(⟨(p0.getD (Int.toNat xt4_17h) z_workflowref50_File).Name, (([] : List UInt8) ++ (p0.getD (Int.toNat xt4_17h) z_workflowref50_File).Data), (p0.getD (Int.toNat xt4_17h) z_workflowref50_File).Safe⟩ : workflowref50_File)] : List workflowref50_File).length) * 48 ≤ 140737488355328, True, (x23501.length + ([(⟨(p0.getD (Int.toNat xt4_17h) z_workflowref50_File).Name, (([] : List UInt8) ++ (p0.getD (Int.toNat xt4_17h) z_workflowref50_File).Data), (p0.getD (Int.toNat xt4_17h) z_workflowref50_File).Safe⟩ : workflowref50_File)] : List workflowref50_File).length) * 48 ≤ 140737488355328, True, (x23501.length + ([(⟨(p0.getD (Int.toNat xt4_17h) z_workflowref50_File).Name, (([] : List UInt8) ++ (p0.getD (Int.toNat xt4_17h) z_workflowref50_File).Data), (p0.getD (Int.toNat xt4_17h) z_workflowref50_File).Safe⟩ : workflowref50_File)] : List workflowref50_File).length) * 48 ≤ 140737488355328, True, (x23501.length + ([(⟨(p0.getD (Int.toNat xt4_17h) z_workflowref50_File).Name, (([] : List UInt8) ++ (p0.getD (Int.toNat xt4_17h) z_workflowref50_File).Data), (p0.getD (Int.toNat xt4_17h) z_workflowref50_File).Safe⟩ : workflowref50_File)] : List workflowref50_File).length) * 48 ≤ 140737488355328, True, (x23501.length + ([(⟨(p0.getD (Int.toNat xt4_17h) z_workflowref50_File).Name, (([] : List UInt8) ++ (p0.getD (Int.toNat xt4_17h) z_workflowref50_File).Data), (p0.getD (Int.toNat xt4_17h) z_workflowref50_File).Safe⟩ : workflowref50_File)] : List workflowref50_File).length) * 48 ≤ 140737488355328, True, (x23501.length + ([(⟨(p0.getD (Int.toNat xt4_17h) z_workflowref50_File).Name, (([] : List UInt8) ++ (p0.getD (Int.toNat xt4_17h) z_workflowref50_File).Data), (p0.getD (Int.toNat xt4_17h) z_workflowref50_File).Safe⟩ : workflowref50_File)] : List workflowref50_File).length) * 48 ≤ 140737488355328, True, (x23501.length + ([(⟨(p0.getD (Int.toNat xt4_17h) z_workflowref50_File).Name, (([] : List UInt8) ++ (p0.getD (Int.toNat xt4_17h) z_workflowref50_File).Data), (p0.getD (Int.toNat xt4_17h) z_workflowref50_File).Safe⟩ : workflowref50_File)] : List workflowref50_File).length) * 48 ≤ 140737488355328, True, (x23501.length + ([(⟨(p0.getD (Int.toNat xt4_17h) z_workflowref50_File).Name, (([] : List UInt8) ++ (p0.getD (Int.toNat xt4_17h) z_workflowref50_File).Data), (p0.getD (Int.toNat xt4_17h) z_workflowref50_File).Safe⟩ : workflowref50_File)] : List workflowref50_File).length) * 48 ≤ 140737488355328, True, (x23501.length + ([(⟨(p0.getD (Int.toNat xt4_17h) z_workflowref50_File).Name, (([] : List UInt8) ++ (p0.getD (Int.toNat xt4_17h) z_workflowref50_File).Data), (p0.getD (Int.toNat xt4_17h) z_workflowref50_File).Safe⟩ : workflowref50_File)] : List workflowref50_File).length) * 48 ≤ 140737488355328, True, (x23501.length + ([(⟨(p0.getD (Int.toNat xt4_17h) z_workflowref50_File).Name, (([] : List UInt8) ++ (p0.getD (Int.toNat xt4_17h) z_workflowref50_File).Data), (p0.getD (Int.toNat xt4_17h) z_workflowref50_File).Safe⟩ : workflowref50_File)] : List workflowref50_File).length) * 48 ≤ 140737488355328, True, (x23501.length + ([(⟨(p0.getD (Int.toNat xt4_17h) z_workflowref50_File).Name, (([] : List UInt8) ++ (p0.getD (Int.toNat xt4_17h) z_workflowref50_File).Data), (p0.getD (Int.toNat xt4_17h) z_workflowref50_File).Safe⟩ : workflowref50_File)] : List workflowref50_File).length) * 48 ≤ 140737488355328, True, (x23501.length + ([(⟨(p0.getD (Int.toNat xt4_17h) z_workflowref50_File).Name, (([] : List UInt8) ++ (p0.getD (Int.toNat xt4_17h) z_workflowref50_File).Data), (p0.getD (Int.toNat xt4_17h) z_workflowref50_File).Safe⟩ : workflowref50_File)] : List workflowref50_File).length) * 48 ≤ 140737488355328, True, (x23501.length + ([(⟨(p0.getD (Int.toNat xt4_17h) z_workflowref50_File).Name, (([] : List UInt8) ++ (p0.getD (Int.toNat xt4_17h) z_workflowref50_File).Data), (p0.getD (Int.toNat xt4_17h) z_workflowref50_File).Safe⟩ : workflowref50_File)] : List workflowref50_File).length) * 48 ≤ 140737488355328, True, (x23501.length + ([(⟨(p0.getD (Int.toNat xt4_17h) z_workflowref50_File).Name, (([] : List UInt8) ++ (p0.getD (Int.toNat xt4_17h) z_workflowref50_File).Data), (p0.getD (Int.toNat xt4_17h) z_workflowref50_File).Safe⟩ : workflowref50_File)] : List workflowref50_File).length) * 48 ≤ 140737488355328, True, (x23501.length + ([(⟨(p0.getD (Int.toNat xt4_17h) z_workflowref50_File).Name, (([] : List UInt8) ++ (p0.getD (Int.toNat xt4_17h) z_workflowref50_File).Data), (p0.getD (Int.toNat xt4_17h) z_workflowref50_File).Safe⟩ : workflowref50_File)] : List workflowref50_File).length) * 48 ≤ 140737488355328, True, (x23501.length + ([(⟨(p0.getD (Int.toNat xt4_17h) z_workflowref50_File).Name, (([] : List UInt8) ++ (p0.getD (Int.toNat xt4_17h) z_workflowref50_File).Data), (p0.getD (Int.toNat xt4_17h) z_workflowref50_File).Safe⟩ : workflowref50_File)] : List workflowref50_File).length) * 48 ≤ 140737488355328, True, (x23501.length + ([(⟨(p0.getD (Int.toNat xt4_17h) z_workflowref50_File).Name, (([] : List UInt8) ++ (p0.getD (Int.toNat xt4_17h) z_workflowref50_File).Data), (p0.getD (Int.toNat xt4_17h) z_workflowref50_File).Safe⟩ : workflowref50_File)] : List workflowref50_File).length) * 48 ≤ 140737488355328, True, (x23501.length + ([(⟨(p0.getD (Int.toNat xt4_17h) z_workflowref50_File).Name, (([] : List UInt8) ++ (p0.getD (Int.toNat xt4_17h) z_workflowref50_File).Data), (p0.getD (Int.toNat xt4_17h) z_workflowref50_File).Safe⟩ : workflowref50_File)] : List workflowref50_File).length) * 48 ≤ 140737488355328, True, (x23501.length + ([(⟨(p0.getD (Int.toNat xt4_17h) z_workflowref50_File).Name, (([] : List UInt8) ++ (p0.getD (Int.toNat xt4_17h) z_workflowref50_File).Data), (p0.getD (Int.toNat xt4_17h) z_workflowref50_File).Safe⟩ : workflowref50_File)] : List workflowref50_File).length) * 48 ≤ 140737488355328, True, (x23501.length + ([(⟨(p0.getD (Int.toNat xt4_17h) z_workflowref50_File).Name, (([] : List UInt8) ++ (p0.getD (Int.toNat xt4_17h) z_workflowref50_File).Data), (p0.getD (Int.toNat xt4_17h) z_workflowref50_File).Safe⟩ : workflowref50_File)] : List workflowref50_File).length) * 48 ≤ 140737488355328, True, (x23501.length + ([(⟨(p0.getD (Int.toNat xt4_17h) z_workflowref50_File).Name, (([] : List UInt8) ++ (p0.getD (Int.toNat xt4_17h) z_workflowref50_File).Data), (p0.getD (Int.toNat xt4_17h) z_workflowref50_File).Safe⟩ : workflowref50_File)] : List workflowref50_File).length) * 48 ≤ 140737488355328, True, (x23501.length + ([(⟨(p0.getD (Int.toNat xt4_17h) z_workflowref50_File).Name, (([] : List UInt8) ++ (p0.getD (Int.toNat xt4_17h) z_workflowref50_File).Data), (p0.getD (Int.toNat xt4_17h) z_workflowref50_File).Safe⟩ : workflowref50_File)] : List workflowref50_File).length) * 48 ≤ 140737488355328, True, (x23501.length + ([(⟨(p0.getD (Int.toNat xt4_17h) z_workflowref50_File).Name, (([] : List UInt8) ++ (p0.getD (Int.toNat xt4_17h) z_workflowref50_File).Data), (p0.getD (Int.toNat xt4_17h) z_workflowref50_File).Safe⟩ : workflowref50_File)] : List workflowref50_File).length) * 48 ≤ 140737488355328, True, (x23501.length + ([(⟨(p0.getD (Int.toNat xt4_17h) z_workflowref50_File).Name, (([] : List UInt8) ++ (p0.getD (Int.toNat xt4_17h) z_workflowref50_File).Data), (p0.getD (Int.toNat xt4_17h) z_workflowref50_File).Safe⟩ : workflowref50_File)] : List workflowref50_File).length) * 48 ≤ 140737488355328, True, (x23501.length + ([(⟨(p0.getD (Int.toNat xt4_17h) z_workflowref50_File).Name, (([] : List UInt8) ++ (p0.getD (Int.toNat xt4_17h) z_workflowref50_File).Data), (p0.getD (Int.toNat xt4_17h) z_workflowref50_File).Safe⟩ : workflowref50_File)] : List workflowref50_File).length) * 48 ≤ 140737488355328, True, (x23501.length + ([(⟨(p0.getD (Int.toNat xt4_17h) z_workflowref50_File).Name, (([] : List UInt8) ++ (p0.getD (Int.toNat xt4_17h) z_workflowref50_File).Data), (p0.getD (Int.toNat xt4_17h) z_workflowref50_File).Safe⟩ : workflowref50_File)] : List workflowref50_File).length) * 48 ≤ 140737488355328, True, (x23501.length + ([(⟨(p0.getD (Int.toNat xt4_17h) z_workflowref50_File).Name, (([] : List UInt8) ++ (p0.getD (Int.toNat xt4_17h) z_workflowref50_File).Data), (p0.getD (Int.toNat xt4_17h) z_workflowref50_File).Safe⟩ : workflowref50_File)] : List workflowref50_File).length) * 48 ≤ 140737488355328, True, (x23501.length + ([(⟨(p0.getD (Int.toNat xt4_17h) z_workflowref50_File).Name, (([] : List UInt8) ++ (p0.getD (Int.toNat xt4_17h) z_workflowref50_File).Data), (p0.getD (Int.toNat xt4_17h) z_workflowref50_File).Safe⟩ : workflowref50_File)] : List workflowref50_File).length) * 48 ≤ 140737488355328, True, (x23501.length + ([(⟨(p0.getD (Int.toNat xt4_17h) z_workflowref50_File).Name, (([] : List UInt8) ++ (p0.getD (Int.toNat xt4_17h) z_workflowref50_File).Data), (p0.getD (Int.toNat xt4_17h) z_workflowref50_File).Safe⟩ : workflowref50_File)] : List workflowref50_File).length) * 48 ≤ 140737488355328, True, (x23501.length + ([(⟨(p0.getD (Int.toNat xt4_17h) z_workflowref50_File).Name, (([] : List UInt8) ++ (p0.getD (Int.toNat xt4_17h) z_workflowref50_File).Data), (p0.getD (Int.toNat xt4_17h) z_workflowref50_File).Safe⟩ : workflowref50_File)] : List workflowref50_File).length) * 48 ≤ 140737488355328, True, (x23501.length + ([(⟨(p0.getD (Int.toNat xt4_17h) z_workflowref50_File).Name, (([] : List UInt8) ++ (p0.getD (Int.toNat xt4_17h) z_workflowref50_File).Data), (p0.getD (Int.toNat xt4_17h) z_workflowref50_File).Safe⟩ : workflowref50_File)] : List workflowref50_File).length) * 48 ≤ 140737488355328, True, (x23501.length + ([(⟨(p0.getD (Int.toNat xt4_17h) z_workflowref50_File).Name, (([] : List UInt8) ++ (p0.getD (Int.toNat xt4_17h) z_workflowref50_File).Data), (p0.getD (Int.toNat xt4_17h) z_workflowref50_File).Safe⟩ : workflowref50_File)] : List workflowref50_File).length) * 48 ≤ 140737488355328, True, (x23501.length + ([(⟨(p0.getD (Int.toNat xt4_17h) z_workflowref50_File).Name, (([] : List UInt8) ++ (p0.getD (Int.toNat xt4_17h) z_workflowref50_File).Data), (p0.getD (Int.toNat xt4_17h) z_workflowref50_File).Safe⟩ : workflowref50_File)] : List workflowref50_File).length) * 48 ≤ 140737488355328, True, (x23501.length + ([(⟨(p0.getD (Int.toNat xt4_17h) z_workflowref50_File).Name, (([] : List UInt8) ++ (p0.getD (Int.toNat xt4_17h) z_workflowref50_File).Data), (p0.getD (Int.toNat xt4_17h) z_workflowref50_File).Safe⟩ : workflowref50_File)] : List workflowref50_File).length) * 48 ≤ 140737488355328, True, (x23501.length + ([(⟨(p0.getD (Int.toNat xt4_17h) z_workflowref50_File).Name, (([] : List UInt8) ++ (p0.getD (Int.toNat xt4_17h) z_workflowref50_File).Data), (p0.getD (Int.toNat xt4_17h) z_workflowref50_File).Safe⟩ : workflowref50_File)] : List workflowref50_File).length) * 48 ≤ 140737488355328, True, (x23501.length + ([(⟨(p0.getD (Int.toNat xt4_17h) z_workflowref50_File).Name, (([] : List UInt8) ++ (p0.getD (Int.toNat xt4_17h) z_workflowref50_File).Data), (p0.getD (Int.toNat xt4_17h) z_workflowref50_File).Safe⟩ : workflowref50_File)] : List workflowref50_File).length) * 48 ≤ 140737488355328, True, (x23501.length + ([(⟨(p0.getD (Int.toNat xt4_17h) z_workflowref50_File).Name, (([] : List UInt8) ++ (p0.getD (Int.toNat xt4_17h) z_workflowref50_File).Data), (p0.getD (Int.toNat xt4_17h) z_workflowref50_File).Safe⟩ : workflowref50_File)] : List workflowref50_File).length) * 48 ≤ 140737488355328, True, (x23501.length + ([(⟨(p0.getD (Int.toNat xt4_17h) z_workflowref50_File).Name, (([] : List UInt8) ++ (p0.getD (Int.toNat xt4_17h) z_workflowref50_File).Data), (p0.getD (Int.toNat xt4_17h) z_workflowref50_File).Safe⟩ : workflowref50_File)] : List workflowref50_File).length) * 48 ≤ 140737488355328, True, (x23501.length + ([(⟨(p0.getD (Int.toNat xt4_17h) z_workflowref50_File).Name, (([] : List UInt8) ++ (p0.getD (Int.toNat xt4_17h) z_workflowref50_File).Data), (p0.getD (Int.toNat xt4_17h) z_workflowref50_File).Safe⟩ : workflowref50_File)] : List workflowref50_File).length) * 48 ≤ 140737488355328, True, (x23501.length + ([(⟨(p0.getD (Int.toNat xt4_17h) z_workflowref50_File).Name, (([] : List UInt8) ++ (p0.getD (Int.toNat xt4_17h) z_workflowref50_File).Data), (p0.getD (Int.toNat xt4_17h) z_workflowref50_File).Safe⟩ : workflowref50_File)] : List workflowref50_File).length) * 48 ≤ 140737488355328, True, (x23501.length + ([(⟨(p0.getD (Int.toNat xt4_17h) z_workflowref50_File).Name, (([] : List UInt8) ++ (p0.getD (Int.toNat xt4_17h) z_workflowref50_File).Data), (p0.getD (Int.toNat xt4_17h) z_workflowref50_File).Safe⟩ : workflowref50_File)] : List workflowref50_File).length) * 48 ≤ 140737488355328, True, (x23501.length + ([(⟨(p0.getD (Int.toNat xt4_17h) z_workflowref50_File).Name, (([] : List UInt8) ++ (p0.getD (Int.toNat xt4_17h) z_workflowref50_File).Data), (p0.getD (Int.toNat xt4_17h) z_workflowref50_File).Safe⟩ : workflowref50_File)] : List workflowref50_File).length) * 48 ≤ 140737488355328, True, (x23501.length + ([(⟨(p0.getD (Int.toNat xt4_17h) z_workflowref50_File).Name, (([] : List UInt8) ++ (p0.getD (Int.toNat xt4_17h) z_workflowref50_File).Data), (p0.getD (Int.toNat xt4_17h) z_workflowref50_File).Safe⟩ : workflowref50_File)] : List workflowref50_File).length) * 48 ≤ 140737488355328, True, (x23501.length + ([(⟨(p0.getD (Int.toNat xt4_17h) z_workflowref50_File).Name, (([] : List UInt8) ++ (p0.getD (Int.toNat xt4_17h) z_workflowref50_File).Data), (p0.getD (Int.toNat xt4_17h) z_workflowref50_File).Safe⟩ : workflowref50_File)] : List workflowref50_File).length) * 48 ≤ 140737488355328, True, (x23501.length + ([(⟨(p0.getD (Int.toNat xt4_17h) z_workflowref50_File).Name, (([] : List UInt8) ++ (p0.getD (Int.toNat xt4_17h) z_workflowref50_File).Data), (p0.getD (Int.toNat xt4_17h) z_workflowref50_File).Safe⟩ : workflowref50_File)] : List workflowref50_File).length) * 48 ≤ 140737488355328, True, (x23501.length + ([(⟨(p0.getD (Int.toNat xt4_17h) z_workflowref50_File).Name, (([] : List UInt8) ++ (p0.getD (Int.toNat xt4_17h) z_workflowref50_File).Data), (p0.getD (Int.toNat xt4_17h) z_workflowref50_File).Safe⟩ : workflowref50_File)] : List workflowref50_File).length) * 48 ≤ 140737488355328, True, (x23501.length + ([(⟨(p0.getD (Int.toNat xt4_17h) z_workflowref50_File).Name, (([] : List UInt8) ++ (p0.getD (Int.toNat xt4_17h) z_workflowref50_File).Data), (p0.getD (Int.toNat xt4_17h) z_workflowref50_File).Safe⟩ : workflowref50_File)] : List workflowref50_File).length) * 48 ≤ 140737488355328, True, (x23501.length + ([(⟨(p0.getD (Int.toNat xt4_17h) z_workflowref50_File).Name, (([] : List UInt8) ++ (p0.getD (Int.toNat xt4_17h) z_workflowref50_File).Data), (p0.getD (Int.toNat xt4_17h) z_workflowref50_File).Safe⟩ : workflowref50_File)] : List workflowref50_File).length) * 48 ≤ 140737488355328, True, (x23501.length + ([(⟨(p0.getD (Int.toNat xt4_17h) z_workflowref50_File).Name, (([] : List UInt8) ++ (p0.getD (Int.toNat xt4_17h) z_workflowref50_File).Data), (p0.getD (Int.toNat xt4_17h) z_workflowref50_File).Safe⟩ : workflowref50_File)] : List workflowref50_File).length) * 48 ≤ 140737488355328, True, (x23501.length + ([(⟨(p0.getD (Int.toNat xt4_17h) z_workflowref50_File).Name, (([] : List UInt8) ++ (p0.getD (Int.toNat xt4_17h) z_workflowref50_File).Data), (p0.getD (Int.toNat xt4_17h) z_workflowref50_File).Safe⟩ : workflowref50_File)] : List workflowref50_File).length) * 48 ≤ 140737488355328, True, (x23501.length + ([(⟨(p0.getD (Int.toNat xt4_17h) z_workflowref50_File).Name, (([] : List UInt8) ++ (p0.getD (Int.toNat xt4_17h) z_workflowref50_File).Data), (p0.getD (Int.toNat xt4_17h) z_workflowref50_File).Safe⟩ : workflowref50_File)] : List workflowref50_File).length) * 48 ≤ 140737488355328, True, (x23501.length + ([(⟨(p0.getD (Int.toNat xt4_17h) z_workflowref50_File).Name, (([] : List UInt8) ++ (p0.getD (Int.toNat xt4_17h) z_workflowref50_File).Data), (p0.getD (Int.toNat xt4_17h) z_workflowref50_File).Safe⟩ : workflowref50_File)] : List workflowref50_File).length) * 48 ≤ 140737488355328, True, (x23501.length + ([(⟨(p0.getD (Int.toNat xt4_17h) z_workflowref50_File).Name, (([] : List UInt8) ++ (p0.getD (Int.toNat xt4_17h) z_workflowref50_File).Data), (p0.getD (Int.toNat xt4_17h) z_workflowref50_File).Safe⟩ : workflowref50_File)] : List workflowref50_File).length) * 48 ≤ 140737488355328, True, (x23501.length + ([(⟨(p0.getD (Int.toNat xt4_17h) z_workflowref50_File).Name, (([] : List UInt8) ++ (p0.getD (Int.toNat xt4_17h) z_workflowref50_File).Data), (p0.getD (Int.toNat xt4_17h) z_workflowref50_File).Safe⟩ : workflowref50_File)] : List workflowref50_File).length) * 48 ≤ 140737488355328, True, (x23501.length + ([(⟨(p0.getD (Int.toNat xt4_17h) z_workflowref50_File).Name, (([] : List UInt8) ++ (p0.getD (Int.toNat xt4_17h) z_workflowref50_File).Data), (p0.getD (Int.toNat xt4_17h) z_workflowref50_File).Safe⟩ : workflowref50_File)] : List workflowref50_File).length) * 48 ≤ 140737488355328, True, (x23501.length + ([(⟨(p0.getD (Int.toNat xt4_17h) z_workflowref50_File).Name, (([] : List UInt8) ++ (p0.getD (Int.toNat xt4_17h) z_workflowref50_File).Data), (p0.getD (Int.toNat xt4_17h) z_workflowref50_File).Safe⟩ : workflowref50_File)] : List workflowref50_File).length) * 48 ≤ 140737488355328, True, (x23501.length + ([(⟨(p0.getD (Int.toNat xt4_17h) z_workflowref50_File).Name, (([] : List UInt8) ++ (p0.getD (Int.toNat xt4_17h) z_workflowref50_File).Data), (p0.getD (Int.toNat xt4_17h) z_workflowref50_File).Safe⟩ : workflowref50_File)] : List workflowref50_File).length) * 48 ≤ 140737488355328, True, (x23501.length + ([(⟨(p0.getD (Int.toNat xt4_17h) z_workflowref50_File).Name, (([] : List UInt8) ++ (p0.getD (Int.toNat xt4_17h) z_workflowref50_File).Data), (p0.getD (Int.toNat xt4_17h) z_workflowref50_File).Safe⟩ : workflowref50_File)] : List workflowref50_File).length) * 48 ≤ 140737488355328, True, (x23501.length + ([(⟨(p0.getD (Int.toNat xt4_17h) z_workflowref50_File).Name, (([] : List UInt8) ++ (p0.getD (Int.toNat xt4_17h) z_workflowref50_File).Data), (p0.getD (Int.toNat xt4_17h) z_workflowref50_File).Safe⟩ : workflowref50_File)] : List workflowref50_File).length) * 48 ≤ 140737488355328, True, (x23501.length + ([(⟨(p0.getD (Int.toNat xt4_17h) z_workflowref50_File).Name, (([] : List UInt8) ++ (p0.getD (Int.toNat xt4_17h) z_workflowref50_File).Data), (p0.getD (Int.toNat xt4_17h) z_workflowref50_File).Safe⟩ : workflowref50_File)] : List workflowref50_File).length) * 48 ≤ 140737488355328, True, (x23501.length + ([(⟨(p0.getD (Int.toNat xt4_17h) z_workflowref50_File).Name, (([] : List UInt8) ++ (p0.getD (Int.toNat xt4_17h) z_workflowref50_File).Data), (p0.getD (Int.toNat xt4_17h) z_workflowref50_File).Safe⟩ : workflowref50_File)] : List workflowref50_File).length) * 48 ≤ 140737488355328, True, (x23501.length + ([(⟨(p0.getD (Int.toNat xt4_17h) z_workflowref50_File).Name, (([] : List UInt8) ++ (p0.getD (Int.toNat xt4_17h) z_workflowref50_File).Data), (p0.getD (Int.toNat xt4_17h) z_workflowref50_File).Safe⟩ : workflowref50_File)] : List workflowref50_File).length) * 48 ≤ 140737488355328, True]) (S' := ⟨[(0, .cv (.pcs [.ro .t_workflowref50_File p0, .I p1, .I p2, .B p3, .B true] 0)), (3, .P 23500), (4, .I xt4_17h)], [(23500, .raw [.own .t_workflowref50_File 23501, .I p1, .I p2, .B p3, .B true]), (23501, .lst .t_workflowref50_File ((x23501 ++ ([(⟨(p0.getD (Int.toNat xt4_17h) z_workflowref50_File).Name, (([] : List UInt8) ++ (p0.getD (Int.toNat xt4_17h) z_workflowref50_File).Data), (p0.getD (Int.toNat xt4_17h) z_workflowref50_File).Safe⟩ : workflowref50_File)] : List workflowref50_File))))]⟩) (And.intro g3 (And.intro trivial (And.intro g3 (And.intro trivial (And.intro g3 (And.intro trivial (And.intro g3 (And.intro trivial (And.intro g3 (And.intro trivial (And.intro g3 (And.intro trivial (And.intro g3 (And.intro trivial (And.intro g3 (And.intro trivial (And.intro g3 (And.intro trivial (And.intro g3 (And.intro trivial (And.intro g3 (And.intro trivial (And.intro g3 (And.intro trivial (And.intro g3 (And.intro trivial (And.intro g3 (And.intro trivial (And.intro g3 (And.intro trivial (And.intro g3 (And.intro trivial (And.intro g3 (And.intro trivial (And.intro g3 (And.intro trivial (And.intro g3 (And.intro trivial (And.intro g3 (And.intro trivial (And.intro g3 (And.intro trivial (And.intro g3 (And.intro trivial (And.intro g3 (And.intro trivial (And.intro g3 (And.intro trivial (And.intro g3 (And.intro trivial (And.intro g3 (And.intro trivial (And.intro g3 (And.intro trivial (And.intro g3 (And.intro trivial (And.intro g3 (And.intro trivial (And.intro g3 (And.intro trivial (And.intro g3 (And.intro trivial (And.intro g3 (And.intro trivial (And.intro g3 (And.intro trivial (And.intro g3 (And.intro trivial (And.intro g3 (And.intro trivial (And.intro g3 (And.intro trivial (And.intro g3 (And.intro trivial (And.intro g3 (And.intro trivial (And.intro g3 (And.intro trivial (And.intro g3 (And.intro trivial (And.intro g3 (And.intro trivial (And.intro g3 (And.intro trivial (And.intro g3 (And.intro trivial (And.intro g3 (And.intro trivial (And.intro g3 (And.intro trivial (And.intro g3 (And.intro trivial (And.intro g3 (And.intro trivial (And.intro g3 (And.intro trivial (And.intro g3 (And.intro trivial (And.intro g3 (And.intro trivial (And.intro g3 (And.intro trivial (And.intro g3 (And.intro trivial (And.intro g3 (And.intro trivial (And.intro g3 (And.intro trivial (And.intro g3 (And.intro trivial (And.intro g3 (And.intro trivial (And.intro g3 (And.intro trivial (And.intro g3 (And.intro trivial (And.intro g3 (And.intro trivial (And.intro g3 (And.intro trivial (And.intro g3 (And.intro trivial (And.intro g3 (And.intro trivial (And.intro g3 (And.intro trivial (And.intro g3 (And.intro trivial (And.intro g3 (And.intro trivial (And.intro g3 (And.intro trivial (And.intro g3 (And.intro trivial (And.intro g3 (And.intro trivial (And.intro g3 (And.intro trivial (And.intro g3 (And.intro trivial (And.intro g3 (And.intro trivial (And.intro g3 (And.intro trivial (And.intro g3 (And.intro trivial (And.intro g3 (And.intro trivial (And.intro g3 (And.intro trivial (And.intro g3 (And.intro trivial (And.intro g3 (And.intro trivial (And.intro g3 (And.intro trivial (And.intro g3 (And.intro trivial (And.intro g3 (And.intro trivial (And.intro g3 (And.intro trivial (And.intro g3 (And.intro trivial (And.intro g3 (And.intro trivial (And.intro g3 (And.intro trivial (And.intro g3 (And.intro trivial (And.intro g3 (And.intro trivial (And.intro g3 (And.intro trivial (And.intro g3 (And.intro trivial (And.intro g3 (And.intro trivial (And.intro g3 (And.intro trivial (And.intro g3 (And.intro trivial (And.intro g3 (And.intro trivial (And.intro g3 (And.intro trivial (And.intro g3 (And.intro trivial (And.intro g3 (And.intro trivial (And.intro g3 (And.intro trivial (And.intro g3 (And.intro trivial (And.intro g3 (And.intro trivial (And.intro g3 (And.intro trivial (And.intro g3 (And.intro trivial (And.intro g3 (And.intro trivial (And.intro g3 (And.intro trivial (And.intro g3 (And.intro trivial (And.intro g3 (And.intro trivial (And.intro g3 (And.intro trivial (And.intro g3 (And.intro trivial (And.intro g3 (And.intro trivial (And.intro g3 (And.intro trivial (And.intro g3 (And.intro trivial (And.intro g3 (And.intro trivial (And.intro g3 (And.intro trivial (And.intro g3 (And.intro trivial (And.intro g3 (And.intro trivial (And.intro g3 (And.intro trivial (And.intro g3 (And.intro trivial (And.intro g3 (And.intro trivial (And.intro g3 (And.intro trivial (And.intro g3 (And.intro trivial (And.intro g3 (And.intro trivial (And.intro g3 trivial))))))))))))))))))))))))))))))))))))))))))))))))))))))))))))))))))))))))))))))))))))))))))))))))))))))))))))))))))))))))))))))))))))))))))))))))))))))))))))))))))))))))))))))))))))))))))))))))))))))))))))))))))))))))))))))))))))))))))))))) ?_
   refine ar0 L 262 [] [] [] (S' := ⟨[(0, .cv (.pcs [.ro .t_workflowref50_File p0, .I p1, .I p2, .B p3, .B true] 0)), (3, .P 23500), (4, .I (IntKind.i64.wrap (xt4_17h + 1)))], [(23500, .raw [.own .t_workflowref50_File 23501, .I p1, .I p2, .B p3, .B true]), (23501, .lst .t_workflowref50_File ((x23501 ++ ([(⟨(p0.getD (Int.toNat xt4_17h) z_workflowref50_File).Name, (([] : List UInt8) ++ (p0.getD (Int.toNat xt4_17h) z_workflowref50_File).Data), (p0.getD (Int.toNat xt4_17h) z_workflowref50_File).Safe⟩ : workflowref50_File)] : List workflowref50_File))))]⟩) ?_
   exact ⟨k, Nat.lt_succ_self k, _, _, rfl, h⟩
  refine ff (b := (decide (xt4_17h < (p0.length : Int)))) (decide_eq_false c1) ?_
  refine awp_turn (Turns.trans (Turns.kp (S' := ⟨[(3, .P 23500)], [(23500, .raw [.own .t_workflowref50_File 23501, .I p1, .I p2, .B p3, .B true]), (23501, .lst .t_workflowref50_File x23501)]⟩)) (Turns.rn [(23500, 23400), (23501, 23401)] (S' := ⟨[(3, .P 23400)], [(23400, .raw [.own .t_workflowref50_File 23401, .I p1, .I p2, .B p3, .B true]), (23401, .lst .t_workflowref50_File x23501)]⟩))) ?_
  refine ex (S' := ⟨[(3, .P 23400)], [(23400, .raw [.own .t_workflowref50_File 23401, .I p1, .I p2, .B p3, .B true]), (23401, .lst .t_workflowref50_File x23501)]⟩) ?_
  obtain rfl := Option.some.inj h
  exact ⟨rfl, _, rfl, rfl⟩
 ·rintro e S ⟨rfl, x23401, rfl, rfl⟩
  refine ⟨_, Turns.refl, ?_⟩
  refine sr0 L 266 [] [] [] (S' := ⟨[(2, .P 23400)], [(23400, .raw [.own .t_workflowref50_File 23401, .I p1, .I p2, .B p3, .B true]), (23401, .lst .t_workflowref50_File x23401)]⟩) ?_
  refine awp_turn (Turns.rn [(23400, 100), (23401, 101)] (S' := ⟨[(2, .P 100)], [(100, .raw [.own .t_workflowref50_File 101, .I p1, .I p2, .B p3, .B true]), (101, .lst .t_workflowref50_File x23401)]⟩)) ?_
  refine awp_ret ?_
  obtain rfl := Option.some.inj h
  exact er (.P 100)
theorem workflowref50_Disk_Copy.okE {K : Nat} {p0 : List workflowref50_File} {p1 : Int} {p2 : Int} {p3 : Bool} {r : List workflowref50_File} (h : workflowref50_Disk_Copy K p0 p1 p2 p3 = some r) : ECall V P 41 [.cv (.pcs [.ro .t_workflowref50_File p0, .I p1, .I p2, .B p3, .B true] 0)] [] [] (.P 100) [(100, .raw [.own .t_workflowref50_File 101, .I p1, .I p2, .B p3, .B true]), (101, .lst .t_workflowref50_File r)] :=
 eo (fn := Try.f41) (n := 54) (m := 100) fun Γ => workflowref50_Disk_Copy.body h
def workflowref50_Disk_Copy_v2.l17 (K : Nat) : Nat → Option Unit
 | 0 => none
 | k + 1 => some ()
def workflowref50_Disk_Copy_v2 (K : Nat) (p0 : Int) (p1 : Int) (p2 : Bool) : Option Unit := (Option.bind (workflowref50_none K ([] : List workflowref50_File) p0 p1 p2) (fun _ => (Option.bind (workflowref50_Disk_Copy_v2.l17 K K : Option Unit) (fun _ => some ()))))
theorem workflowref50_Disk_Copy_v2.body {Γ : Ent} {K : Nat} {p0 : Int} {p1 : Int} {p2 : Bool} {r : Unit} (h : workflowref50_Disk_Copy_v2 K p0 p1 p2 = some r) : AWp V P 54 100 Γ (Try.f41.body.getD .skip) (EndsE P V Try.f41 (.P 100) [(0, .raw [.N, .I p0, .I p1, .B p2, .B true]), (100, .raw [.N, .I p0, .I p1, .B p2, .B true])]) ⟨args0 0 [.P 0], [(0, .raw [.N, .I p0, .I p1, .B p2, .B true])]⟩ := by
 unfold workflowref50_Disk_Copy_v2 at h
 refine sr0 L 200 [] [] [] (S' := ⟨[(0, .P 0)], [(0, .raw [.N, .I p0, .I p1, .B p2, .B true])]⟩) ?_
 refine awp_seq ?_
 refine awp_seq ?_
 obtain ⟨⟨⟩, h1, h⟩ := bind_some h
 refine ar L 202 [] [(1, .B false)] [] (cs := [PCall V P 57 [.cv (.pcs [.N, .I p0, .I p1, .B p2, .B true] 0)] (.B false), True]) (S' := ⟨[(0, .P 0), (7, .B false)], [(0, .raw [.N, .I p0, .I p1, .B p2, .B true])]⟩) (And.intro (PCall.co V (workflowref50_none.ok h1) (by kernel_rfl)) trivial) ?_
 refine ff (b := false) (rfl) ?_
 refine awp_skip' ?_
 refine sd L mixed 207 [] [] [] [] 15 (cs := []) (S' := ⟨[(0, .P 0), (3, .P 220)], [(0, .raw [.N, .I p0, .I p1, .B p2, .B true]), (220, .raw [.N, .I p0, .I p1, .B p2, .B true])]⟩) trivial ?_
 refine awp_seq ?_
 refine sr0 L 223 [] [] [] (S' := ⟨[(0, .P 0), (3, .P 220), (4, .I 0)], [(0, .raw [.N, .I p0, .I p1, .B p2, .B true]), (220, .raw [.N, .I p0, .I p1, .B p2, .B true])]⟩) ?_
 refine awp_block ?_
 refine awp_turn (Turns.trans (Turns.kp (S' := ⟨[(0, .P 0), (3, .P 220), (4, .I 0)], [(0, .raw [.N, .I p0, .I p1, .B p2, .B true]), (220, .raw [.N, .I p0, .I p1, .B p2, .B true])]⟩)) (Turns.rn [(0, 0), (220, 23500)] (S' := ⟨[(0, .P 0), (3, .P 23500), (4, .I 0)], [(0, .raw [.N, .I p0, .I p1, .B p2, .B true]), (23500, .raw [.N, .I p0, .I p1, .B p2, .B true])]⟩))) ?_
 refine kp (S' := ⟨[(0, .P 0), (3, .P 23500), (4, .I 0)], [(0, .raw [.N, .I p0, .I p1, .B p2, .B true]), (23500, .raw [.N, .I p0, .I p1, .B p2, .B true])]⟩) ?_
 obtain ⟨o1, hp1, h⟩ := bind_some h
 refine awp_conseq (Q' := fun e S => (e = .exit 0 ∧ S = ⟨[(3, .P 23400)], [(0, .raw [.N, .I p0, .I p1, .B p2, .B true]), (23400, .raw [.N, .I p0, .I p1, .B p2, .B true])]⟩ ∧ () = o1)) (awp_loop (fun k S => S = ⟨[(0, .P 0), (3, .P 23500), (4, .I 0)], [(0, .raw [.N, .I p0, .I p1, .B p2, .B true]), (23500, .raw [.N, .I p0, .I p1, .B p2, .B true])]⟩ ∧ workflowref50_Disk_Copy_v2.l17 K k = some o1) ?_ ⟨rfl, hp1⟩) ?_
 ·clear h hp1
  intro k S hS
  obtain ⟨rfl, h⟩ := hS
  cases k with
  | zero => cases h
  | succ k =>
  unfold workflowref50_Disk_Copy_v2.l17 at h
  refine awp_seq ?_
  refine sr0 L 225 [] [] [] (S' := ⟨[(0, .P 0), (3, .P 23500), (4, .I 0), (28, .B false)], [(0, .raw [.N, .I p0, .I p1, .B p2, .B true]), (23500, .raw [.N, .I p0, .I p1, .B p2, .B true])]⟩) ?_
  refine ff (b := false) (rfl) ?_
  refine awp_turn (Turns.trans (Turns.kp (S' := ⟨[(3, .P 23500)], [(0, .raw [.N, .I p0, .I p1, .B p2, .B true]), (23500, .raw [.N, .I p0, .I p1, .B p2, .B true])]⟩)) (Turns.rn [(0, 0), (23500, 23400)] (S' := ⟨[(3, .P 23400)], [(0, .raw [.N, .I p0, .I p1, .B p2, .B true]), (23400, .raw [.N, .I p0, .I p1, .B p2, .B true])]⟩))) ?_
  refine ex (S' := ⟨[(3, .P 23400)], [(0, .raw [.N, .I p0, .I p1, .B p2, .B true]), (23400, .raw [.N, .I p0, .I p1, .B p2, .B true])]⟩) ?_
  obtain rfl := Option.some.inj h
  exact ⟨rfl, rfl, rfl⟩
 ·rintro e S ⟨rfl, rfl, rfl⟩
  refine ⟨_, Turns.refl, ?_⟩
  refine sr0 L 266 [] [] [] (S' := ⟨[(2, .P 23400)], [(0, .raw [.N, .I p0, .I p1, .B p2, .B true]), (23400, .raw [.N, .I p0, .I p1, .B p2, .B true])]⟩) ?_
  refine awp_turn (Turns.rn [(0, 0), (23400, 100)] (S' := ⟨[(2, .P 100)], [(0, .raw [.N, .I p0, .I p1, .B p2, .B true]), (100, .raw [.N, .I p0, .I p1, .B p2, .B true])]⟩)) ?_
  refine awp_ret ?_
  obtain rfl := Option.some.inj h
  exact er (.P 100)
theorem workflowref50_Disk_Copy_v2.okE {K : Nat} {p0 : Int} {p1 : Int} {p2 : Bool} {r : Unit} (h : workflowref50_Disk_Copy_v2 K p0 p1 p2 = some r) : ECall V P 41 [.P 0] [(0, .raw [.N, .I p0, .I p1, .B p2, .B true])] [0] (.P 100) [(0, .raw [.N, .I p0, .I p1, .B p2, .B true]), (100, .raw [.N, .I p0, .I p1, .B p2, .B true])] :=
 eo (fn := Try.f41) (n := 54) (m := 100) fun Γ => workflowref50_Disk_Copy_v2.body h
def workflowlaw50_means_v2 (K : Nat) (p0 : workflowlaw50_Step) (p1 : Int) (p2 : Int) (p3 : Bool) : Option ((Int × Int × Bool) ⊕ ((Int × Bool × (List workflowref50_File)) ⊕ Unit)) := (if p0.Kind = 0 then (Option.bind (workflowref50_Disk_Append_v2 K p0.Name p0.Data p1 p2 p3) (fun a1 => match a1 with | (Sum.inl (a1_0, a1_1, a1_2)) => some (Sum.inl (a1_0, a1_1, a1_2)) | (Sum.inr (a1_0, a1_1, a1_2)) => some (Sum.inr (Sum.inl (a1_0, a1_1, a1_2))))) else (if p0.Kind = 1 then (Option.bind (workflowref50_Disk_Sync_v2 K p0.Name p1 p2 p3) (fun (a2_0, a2_1, a2_2) => some (Sum.inl (a2_0, a2_1, a2_2)))) else (if p0.Kind = 2 then (Option.bind (workflowref50_Disk_Rename_v2 K p0.Name p0.To p1 p2 p3) (fun (a3_0, a3_1, a3_2) => some (Sum.inl (a3_0, a3_1, a3_2)))) else (if p0.Kind = 3 then (Option.bind (workflowref50_Disk_Remove_v2 K p0.Name p1 p2 p3) (fun (a4_0, a4_1, a4_2) => some (Sum.inl (a4_0, a4_1, a4_2)))) else (if p0.Kind = 4 then (Option.bind (workflowref50_Disk_Read_v2 K p0.Name p1 p2 p3) (fun a5 => some (Sum.inl (a5, p2, p3)))) else (if p0.Kind = 5 then (Option.bind (workflowref50_Disk_Fuse_v2 K p0.N p1 p2 p3) (fun (a6_0, a6_1) => some (Sum.inl (a6_0, a6_1, p3)))) else (if p0.Kind = 6 then (Option.bind (workflowref50_Disk_Crash_v2 K p0.N p1 p2 p3) (fun (a7_0, a7_1, a7_2) => some (Sum.inl (a7_0, a7_1, a7_2)))) else (Option.bind (workflowref50_Disk_Copy_v2 K p1 p2 p3) (fun _ => some (Sum.inr (Sum.inr ())))))))))))
def workflowlaw50_means_v2.rep (p0 : workflowlaw50_Step) (p1 : Int) (p2 : Int) (p3 : Bool) : (Int × Int × Bool) ⊕ ((Int × Bool × (List workflowref50_File)) ⊕ Unit) → AV T
 | (Sum.inl (v0, v1, v2)) => .tup [.P 0, .I v0, .cv (.ro .t_uint8 ([] : List UInt8))]
 | (Sum.inr (Sum.inl (v0, v1, v2))) => .tup [.P 0, .I 0, .cv (.ro .t_uint8 ([] : List UInt8))]
 | (Sum.inr (Sum.inr ())) => .tup [.P 100, .I 0, .cv (.ro .t_uint8 ([] : List UInt8))]
def workflowlaw50_means_v2.post (p0 : workflowlaw50_Step) (p1 : Int) (p2 : Int) (p3 : Bool) : (Int × Int × Bool) ⊕ ((Int × Bool × (List workflowref50_File)) ⊕ Unit) → List (Nat × Blk T)
 | (Sum.inl (v0, v1, v2)) => [(0, .raw [.N, .I p1, .I v1, .B v2, .B true])]
 | (Sum.inr (Sum.inl (v0, v1, v2))) => [(0, .raw [.own .t_workflowref50_File 100, .I p1, .I v0, .B v1, .B true]), (100, .lst .t_workflowref50_File v2)]
 | (Sum.inr (Sum.inr ())) => [(0, .raw [.N, .I p1, .I p2, .B p3, .B true]), (100, .raw [.N, .I p1, .I p2, .B p3, .B true])]
theorem workflowlaw50_means_v2.body {Γ : Ent} {K : Nat} {p0 : workflowlaw50_Step} {p1 : Int} {p2 : Int} {p3 : Bool} {r : (Int × Int × Bool) ⊕ ((Int × Bool × (List workflowref50_File)) ⊕ Unit)} (h : workflowlaw50_means_v2 K p0 p1 p2 p3 = some r) : AWp V P 71 100 Γ (Try.f20.body.getD .skip) (EndsE P V Try.f20 (workflowlaw50_means_v2.rep p0 p1 p2 p3 r) (workflowlaw50_means_v2.post p0 p1 p2 p3 r)) ⟨args0 0 [.P 0, .agg (d_workflowlaw50_Step p0)], [(0, .raw [.N, .I p1, .I p2, .B p3, .B true])]⟩ := by
 unfold workflowlaw50_means_v2 at h
 refine sr0 L 200 [] [] [] (S' := ⟨[(0, .P 0), (3, .P 200)], [(0, .raw [.N, .I p1, .I p2, .B p3, .B true]), (200, .raw (d_workflowlaw50_Step p0))]⟩) ?_
 refine awp_seq ?_
 refine sr0 L 205 [] [] [] (S' := ⟨[(0, .P 0), (3, .P 200), (10, .I p0.Kind)], [(0, .raw [.N, .I p1, .I p2, .B p3, .B true]), (200, .raw (d_workflowlaw50_Step p0))]⟩) ?_
 refine awp_block ?_
 refine sr0 L 208 [] [] [] (S' := ⟨[(0, .P 0), (3, .P 200), (10, .I p0.Kind), (11, .B (decide (p0.Kind = 0)))], [(0, .raw [.N, .I p1, .I p2, .B p3, .B true]), (200, .raw (d_workflowlaw50_Step p0))]⟩) ?_
 rcases ite_some h with ⟨c1, h⟩ | ⟨c1, h⟩
 ·refine tt (b := (decide (p0.Kind = 0))) (decide_eq_true c1) ?_
  refine awp_seq ?_
  obtain ⟨a1, h1, h⟩ := bind_some h
  rcases a1 with ⟨a1_0, a1_1, a1_2⟩ | a1
  ·dsimp only at h
   refine ar L 211 [] [] [(6, { hids := [0], fx := [0], r := .I a1_0, H' := [(0, .raw [.N, .I p1, .I a1_1, .B a1_2, .B true])], σ := [(0, 0)] })] (cs := [ECall V P 34 [.P 0, .cv (.str p0.Name), .cv (.ro .t_uint8 p0.Data)] [(0, .raw [.N, .I p1, .I p2, .B p3, .B true])] [0] (.I a1_0) [(0, .raw [.N, .I p1, .I a1_1, .B a1_2, .B true])]]) (S' := ⟨[(4, .P 0), (5, .I a1_0), (6, .N)], [(0, .raw [.N, .I p1, .I a1_1, .B a1_2, .B true])]⟩) (workflowref50_Disk_Append_v2.okE h1) ?_
   refine awp_ret ?_
   obtain rfl := Option.some.inj h
   exact er (.tup [.P 0, .I a1_0, .N])
  ·obtain ⟨a1_0, a1_1, a1_2⟩ := a1
   dsimp only at h
   refine ar L 211 [] [] [(6, { hids := [0], fx := [0], r := .I 0, H' := [(0, .raw [.own .t_workflowref50_File 100, .I p1, .I a1_0, .B a1_1, .B true]), (100, .lst .t_workflowref50_File a1_2)], σ := [(0, 0), (100, 5136)] })] (cs := [ECall V P 34 [.P 0, .cv (.str p0.Name), .cv (.ro .t_uint8 p0.Data)] [(0, .raw [.N, .I p1, .I p2, .B p3, .B true])] [0] (.I 0) [(0, .raw [.own .t_workflowref50_File 100, .I p1, .I a1_0, .B a1_1, .B true]), (100, .lst .t_workflowref50_File a1_2)]]) (S' := ⟨[(4, .P 0), (5, .I 0), (6, .N)], [(0, .raw [.own .t_workflowref50_File 5136, .I p1, .I a1_0, .B a1_1, .B true]), (5136, .lst .t_workflowref50_File a1_2)]⟩) (workflowref50_Disk_Append_v2.okE h1) ?_
   refine awp_turn (Turns.rn [(0, 0), (5136, 100)] (S' := ⟨[(4, .P 0), (5, .I 0), (6, .N)], [(0, .raw [.own .t_workflowref50_File 100, .I p1, .I a1_0, .B a1_1, .B true]), (100, .lst .t_workflowref50_File a1_2)]⟩)) ?_
   refine awp_ret ?_
   obtain rfl := Option.some.inj h
   exact er (.tup [.P 0, .I 0, .N])
 refine ff (b := (decide (p0.Kind = 0))) (decide_eq_false c1) ?_
 refine sr0 L 222 [] [] [] (S' := ⟨[(0, .P 0), (3, .P 200), (10, .I p0.Kind), (20, .B (decide (p0.Kind = 1)))], [(0, .raw [.N, .I p1, .I p2, .B p3, .B true]), (200, .raw (d_workflowlaw50_Step p0))]⟩) ?_
 rcases ite_some h with ⟨c2, h⟩ | ⟨c2, h⟩
 ·refine tt (b := (decide (p0.Kind = 1))) (decide_eq_true c2) ?_
  refine awp_seq ?_
  obtain ⟨⟨a2_0, a2_1, a2_2⟩, h2, h⟩ := bind_some h
  dsimp only at h
  refine ar L 225 [] [] [(4, { hids := [0], fx := [0], r := .I a2_0, H' := [(0, .raw [.N, .I p1, .I a2_1, .B a2_2, .B true])], σ := [(0, 0)] })] (cs := [ECall V P 35 [.P 0, .cv (.str p0.Name)] [(0, .raw [.N, .I p1, .I p2, .B p3, .B true])] [0] (.I a2_0) [(0, .raw [.N, .I p1, .I a2_1, .B a2_2, .B true])]]) (S' := ⟨[(4, .P 0), (5, .I a2_0), (6, .N)], [(0, .raw [.N, .I p1, .I a2_1, .B a2_2, .B true])]⟩) (workflowref50_Disk_Sync_v2.okE h2) ?_
  refine awp_ret ?_
  obtain rfl := Option.some.inj h
  exact er (.tup [.P 0, .I a2_0, .N])
 refine ff (b := (decide (p0.Kind = 1))) (decide_eq_false c2) ?_
 refine sr0 L 234 [] [] [] (S' := ⟨[(0, .P 0), (3, .P 200), (10, .I p0.Kind), (27, .B (decide (p0.Kind = 2)))], [(0, .raw [.N, .I p1, .I p2, .B p3, .B true]), (200, .raw (d_workflowlaw50_Step p0))]⟩) ?_
 rcases ite_some h with ⟨c3, h⟩ | ⟨c3, h⟩
 ·refine tt (b := (decide (p0.Kind = 2))) (decide_eq_true c3) ?_
  refine awp_seq ?_
  obtain ⟨⟨a3_0, a3_1, a3_2⟩, h3, h⟩ := bind_some h
  dsimp only at h
  refine ar L 237 [] [] [(6, { hids := [0], fx := [0], r := .I a3_0, H' := [(0, .raw [.N, .I p1, .I a3_1, .B a3_2, .B true])], σ := [(0, 0)] })] (cs := [ECall V P 36 [.P 0, .cv (.str p0.Name), .cv (.str p0.To)] [(0, .raw [.N, .I p1, .I p2, .B p3, .B true])] [0] (.I a3_0) [(0, .raw [.N, .I p1, .I a3_1, .B a3_2, .B true])]]) (S' := ⟨[(4, .P 0), (5, .I a3_0), (6, .N)], [(0, .raw [.N, .I p1, .I a3_1, .B a3_2, .B true])]⟩) (workflowref50_Disk_Rename_v2.okE h3) ?_
  refine awp_ret ?_
  obtain rfl := Option.some.inj h
  exact er (.tup [.P 0, .I a3_0, .N])
 refine ff (b := (decide (p0.Kind = 2))) (decide_eq_false c3) ?_
 refine sr0 L 248 [] [] [] (S' := ⟨[(0, .P 0), (3, .P 200), (10, .I p0.Kind), (36, .B (decide (p0.Kind = 3)))], [(0, .raw [.N, .I p1, .I p2, .B p3, .B true]), (200, .raw (d_workflowlaw50_Step p0))]⟩) ?_
 rcases ite_some h with ⟨c4, h⟩ | ⟨c4, h⟩
 ·refine tt (b := (decide (p0.Kind = 3))) (decide_eq_true c4) ?_
  refine awp_seq ?_
  obtain ⟨⟨a4_0, a4_1, a4_2⟩, h4, h⟩ := bind_some h
  dsimp only at h
  refine ar L 251 [] [] [(4, { hids := [0], fx := [0], r := .I a4_0, H' := [(0, .raw [.N, .I p1, .I a4_1, .B a4_2, .B true])], σ := [(0, 0)] })] (cs := [ECall V P 37 [.P 0, .cv (.str p0.Name)] [(0, .raw [.N, .I p1, .I p2, .B p3, .B true])] [0] (.I a4_0) [(0, .raw [.N, .I p1, .I a4_1, .B a4_2, .B true])]]) (S' := ⟨[(4, .P 0), (5, .I a4_0), (6, .N)], [(0, .raw [.N, .I p1, .I a4_1, .B a4_2, .B true])]⟩) (workflowref50_Disk_Remove_v2.okE h4) ?_
  refine awp_ret ?_
  obtain rfl := Option.some.inj h
  exact er (.tup [.P 0, .I a4_0, .N])
 refine ff (b := (decide (p0.Kind = 3))) (decide_eq_false c4) ?_
 refine sr0 L 260 [] [] [] (S' := ⟨[(0, .P 0), (3, .P 200), (10, .I p0.Kind), (43, .B (decide (p0.Kind = 4)))], [(0, .raw [.N, .I p1, .I p2, .B p3, .B true]), (200, .raw (d_workflowlaw50_Step p0))]⟩) ?_
 rcases ite_some h with ⟨c5, h⟩ | ⟨c5, h⟩
 ·refine tt (b := (decide (p0.Kind = 4))) (decide_eq_true c5) ?_
  refine awp_seq ?_
  obtain ⟨a5, h5, h⟩ := bind_some h
  refine ar L 263 [] [] [(3, { hids := [0], fx := [0], r := .tup [.cv (.ro .t_uint8 ([] : List UInt8)), .I a5], H' := [(0, .raw [.N, .I p1, .I p2, .B p3, .B true])], σ := [(0, 0)] })] (cs := [ECall V P 38 [.P 0, .cv (.str p0.Name)] [(0, .raw [.N, .I p1, .I p2, .B p3, .B true])] [0] (.tup [.cv (.ro .t_uint8 ([] : List UInt8)), .I a5]) [(0, .raw [.N, .I p1, .I p2, .B p3, .B true])]]) (S' := ⟨[(0, .P 0), (7, .cv (.ro .t_uint8 ([] : List UInt8))), (8, .I a5)], [(0, .raw [.N, .I p1, .I p2, .B p3, .B true])]⟩) (workflowref50_Disk_Read_v2.okE h5) ?_
  refine sr0 L 273 [] [] [] (S' := ⟨[(4, .P 0), (5, .I a5), (6, .cv (.ro .t_uint8 ([] : List UInt8)))], [(0, .raw [.N, .I p1, .I p2, .B p3, .B true])]⟩) ?_
  refine awp_ret ?_
  obtain rfl := Option.some.inj h
  exact er (.tup [.P 0, .I a5, .cv (.ro .t_uint8 ([] : List UInt8))])
 refine ff (b := (decide (p0.Kind = 4))) (decide_eq_false c5) ?_
 refine sr0 L 280 [] [] [] (S' := ⟨[(0, .P 0), (3, .P 200), (10, .I p0.Kind), (55, .B (decide (p0.Kind = 5)))], [(0, .raw [.N, .I p1, .I p2, .B p3, .B true]), (200, .raw (d_workflowlaw50_Step p0))]⟩) ?_
 rcases ite_some h with ⟨c6, h⟩ | ⟨c6, h⟩
 ·refine tt (b := (decide (p0.Kind = 5))) (decide_eq_true c6) ?_
  refine awp_seq ?_
  obtain ⟨⟨a6_0, a6_1⟩, h6, h⟩ := bind_some h
  dsimp only at h
  refine ar L 283 [] [] [(4, { hids := [0], fx := [0], r := .I a6_0, H' := [(0, .raw [.N, .I p1, .I a6_1, .B p3, .B true])], σ := [(0, 0)] })] (cs := [ECall V P 39 [.P 0, .I p0.N] [(0, .raw [.N, .I p1, .I p2, .B p3, .B true])] [0] (.I a6_0) [(0, .raw [.N, .I p1, .I a6_1, .B p3, .B true])]]) (S' := ⟨[(4, .P 0), (5, .I a6_0), (6, .N)], [(0, .raw [.N, .I p1, .I a6_1, .B p3, .B true])]⟩) (workflowref50_Disk_Fuse_v2.okE h6) ?_
  refine awp_ret ?_
  obtain rfl := Option.some.inj h
  exact er (.tup [.P 0, .I a6_0, .N])
 refine ff (b := (decide (p0.Kind = 5))) (decide_eq_false c6) ?_
 refine sr0 L 292 [] [] [] (S' := ⟨[(0, .P 0), (3, .P 200), (62, .B (decide (p0.Kind = 6)))], [(0, .raw [.N, .I p1, .I p2, .B p3, .B true]), (200, .raw (d_workflowlaw50_Step p0))]⟩) ?_
 rcases ite_some h with ⟨c7, h⟩ | ⟨c7, h⟩
 ·refine tt (b := (decide (p0.Kind = 6))) (decide_eq_true c7) ?_
  refine awp_seq ?_
  obtain ⟨⟨a7_0, a7_1, a7_2⟩, h7, h⟩ := bind_some h
  dsimp only at h
  refine ar L 295 [] [] [(4, { hids := [0], fx := [0], r := .I a7_0, H' := [(0, .raw [.N, .I p1, .I a7_1, .B a7_2, .B true])], σ := [(0, 0)] })] (cs := [ECall V P 40 [.P 0, .I p0.N] [(0, .raw [.N, .I p1, .I p2, .B p3, .B true])] [0] (.I a7_0) [(0, .raw [.N, .I p1, .I a7_1, .B a7_2, .B true])]]) (S' := ⟨[(4, .P 0), (5, .I a7_0), (6, .N)], [(0, .raw [.N, .I p1, .I a7_1, .B a7_2, .B true])]⟩) (workflowref50_Disk_Crash_v2.okE h7) ?_
  refine awp_ret ?_
  obtain rfl := Option.some.inj h
  exact er (.tup [.P 0, .I a7_0, .N])
 refine ff (b := (decide (p0.Kind = 6))) (decide_eq_false c7) ?_
 refine awp_skip' ?_
 refine awp_seq ?_
 obtain ⟨⟨⟩, h8, h⟩ := bind_some h
 refine ar L 304 [] [] [(1, { hids := [0], fx := [0], r := .P 100, H' := [(0, .raw [.N, .I p1, .I p2, .B p3, .B true]), (100, .raw [.N, .I p1, .I p2, .B p3, .B true])], σ := [(0, 0), (100, 5840)] })] (cs := [ECall V P 41 [.P 0] [(0, .raw [.N, .I p1, .I p2, .B p3, .B true])] [0] (.P 100) [(0, .raw [.N, .I p1, .I p2, .B p3, .B true]), (100, .raw [.N, .I p1, .I p2, .B p3, .B true])]]) (S' := ⟨[(4, .P 5840), (5, .I 0), (6, .N)], [(0, .raw [.N, .I p1, .I p2, .B p3, .B true]), (5840, .raw [.N, .I p1, .I p2, .B p3, .B true])]⟩) (workflowref50_Disk_Copy_v2.okE h8) ?_
 refine awp_turn (Turns.rn [(0, 0), (5840, 100)] (S' := ⟨[(4, .P 100), (5, .I 0), (6, .N)], [(0, .raw [.N, .I p1, .I p2, .B p3, .B true]), (100, .raw [.N, .I p1, .I p2, .B p3, .B true])]⟩)) ?_
 refine awp_ret ?_
 obtain rfl := Option.some.inj h
 exact er (.tup [.P 100, .I 0, .N])
theorem workflowlaw50_means_v2.okE {K : Nat} {p0 : workflowlaw50_Step} {p1 : Int} {p2 : Int} {p3 : Bool} {r : (Int × Int × Bool) ⊕ ((Int × Bool × (List workflowref50_File)) ⊕ Unit)} (h : workflowlaw50_means_v2 K p0 p1 p2 p3 = some r) : ECall V P 20 [.P 0, .agg (d_workflowlaw50_Step p0)] [(0, .raw [.N, .I p1, .I p2, .B p3, .B true])] [0] (workflowlaw50_means_v2.rep p0 p1 p2 p3 r) (workflowlaw50_means_v2.post p0 p1 p2 p3 r) :=
 eo (fn := Try.f20) (n := 71) (m := 100) fun Γ => workflowlaw50_means_v2.body h
def workflowref50_Disk_Names.l17 (K : Nat) (p0 : List workflowref50_File) : Nat → Int → (List (List UInt8)) → Option (List (List UInt8))
 | 0, _, _ => none
 | k + 1, xt4_17h, x23500 => (if xt4_17h < (p0.length : Int) then (if (0 : Int) ≤ xt4_17h ∧ (xt4_17h : Int) < (p0.length : Int) then (if (x23500.length + ([(p0.getD (Int.toNat xt4_17h) z_workflowref50_File).Name] : List (List UInt8)).length) * 16 ≤ 140737488355328 then workflowref50_Disk_Names.l17 K p0 k (IntKind.i64.wrap (xt4_17h + 1)) (x23500 ++ ([(p0.getD (Int.toNat xt4_17h) z_workflowref50_File).Name] : List (List UInt8))) else none) else none) else some x23500)
def workflowref50_Disk_Names (K : Nat) (p0 : List workflowref50_File) (p1 : Int) (p2 : Int) (p3 : Bool) : Option (List (List UInt8)) := (Option.bind (workflowref50_none K p0 p1 p2 p3) (fun _ => (Option.bind (workflowref50_Disk_Names.l17 K p0 K 0 ([] : List (List UInt8)) : Option (List (List UInt8))) (fun x23400 => some x23400))))
theorem workflowref50_Disk_Names.body {Γ : Ent} {K : Nat} {p0 : List workflowref50_File} {p1 : Int} {p2 : Int} {p3 : Bool} {r : List (List UInt8)} (h : workflowref50_Disk_Names K p0 p1 p2 p3 = some r) : AWp V P 28 100 Γ (Try.f42.body.getD .skip) (EndsE P V Try.f42 (.cv (.ro .t_string r)) []) ⟨args0 0 [.cv (.pcs [.ro .t_workflowref50_File p0, .I p1, .I p2, .B p3, .B true] 0)], []⟩ := by
 unfold workflowref50_Disk_Names at h
 refine sr0 L 200 [] [] [] (S' := ⟨[(0, .cv (.pcs [.ro .t_workflowref50_File p0, .I p1, .I p2, .B p3, .B true] 0))], []⟩) ?_
 refine awp_seq ?_
 refine awp_seq ?_
 obtain ⟨⟨⟩, h1, h⟩ := bind_some h
 refine ar L 202 [] [(1, .B false)] [] (cs := [PCall V P 57 [.cv (.pcs [.ro .t_workflowref50_File p0, .I p1, .I p2, .B p3, .B true] 0)] (.B false), True]) (S' := ⟨[(0, .cv (.pcs [.ro .t_workflowref50_File p0, .I p1, .I p2, .B p3, .B true] 0)), (6, .B false)], []⟩) (And.intro (workflowref50_none.ok h1) trivial) ?_
 refine ff (b := false) (rfl) ?_
 refine awp_skip' ?_
 refine sr0 L 207 [] [] [] (S' := ⟨[(0, .cv (.pcs [.ro .t_workflowref50_File p0, .I p1, .I p2, .B p3, .B true] 0)), (3, .N)], []⟩) ?_
 refine awp_seq ?_
 refine sr0 L 209 [] [] [] (S' := ⟨[(0, .cv (.pcs [.ro .t_workflowref50_File p0, .I p1, .I p2, .B p3, .B true] 0)), (3, .N), (4, .I 0)], []⟩) ?_
 refine awp_block ?_
 refine awp_turn (Turns.trans (Turns.kp (S' := ⟨[(0, .cv (.pcs [.ro .t_workflowref50_File p0, .I p1, .I p2, .B p3, .B true] 0)), (3, .N), (4, .I 0)], []⟩)) (Turns.trans (Turns.nilown 3 9500 Tag.t_string (by kernel_rfl) (by kernel_rfl) (S' := ⟨[(3, .cv (.own .t_string 9500)), (0, .cv (.pcs [.ro .t_workflowref50_File p0, .I p1, .I p2, .B p3, .B true] 0)), (4, .I 0)], [(9500, .lst .t_string ([] : List (List UInt8)))]⟩) (by kernel_rfl)) (Turns.trans (Turns.kp (S' := ⟨[(0, .cv (.pcs [.ro .t_workflowref50_File p0, .I p1, .I p2, .B p3, .B true] 0)), (3, .cv (.own .t_string 9500)), (4, .I 0)], [(9500, .lst .t_string ([] : List (List UInt8)))]⟩)) (Turns.rn [(9500, 23500)] (S' := ⟨[(0, .cv (.pcs [.ro .t_workflowref50_File p0, .I p1, .I p2, .B p3, .B true] 0)), (3, .cv (.own .t_string 23500)), (4, .I 0)], [(23500, .lst .t_string ([] : List (List UInt8)))]⟩))))) ?_
 refine kp (S' := ⟨[(0, .cv (.pcs [.ro .t_workflowref50_File p0, .I p1, .I p2, .B p3, .B true] 0)), (3, .cv (.own .t_string 23500)), (4, .I 0)], [(23500, .lst .t_string ([] : List (List UInt8)))]⟩) ?_
 obtain ⟨o1, hp1, h⟩ := bind_some h
 refine awp_conseq (Q' := fun e S => (e = .exit 0 ∧ ∃ x23400 : List (List UInt8), S = ⟨[(3, .cv (.own .t_string 23400))], [(23400, .lst .t_string x23400)]⟩ ∧ x23400 = o1)) (awp_loop (fun k S => ∃ xt4_17h : Int, ∃ x23500 : List (List UInt8), S = ⟨[(0, .cv (.pcs [.ro .t_workflowref50_File p0, .I p1, .I p2, .B p3, .B true] 0)), (3, .cv (.own .t_string 23500)), (4, .I xt4_17h)], [(23500, .lst .t_string x23500)]⟩ ∧ workflowref50_Disk_Names.l17 K p0 k xt4_17h x23500 = some o1) ?_ ⟨_, _, rfl, hp1⟩) ?_
 ·clear h hp1
  intro k S hS
  obtain ⟨xt4_17h, x23500, rfl, h⟩ := hS
  cases k with
  | zero => cases h
  | succ k =>
  unfold workflowref50_Disk_Names.l17 at h
  refine awp_seq ?_
  refine sr0 L 211 [] [] [] (S' := ⟨[(0, .cv (.pcs [.ro .t_workflowref50_File p0, .I p1, .I p2, .B p3, .B true] 0)), (3, .cv (.own .t_string 23500)), (4, .I xt4_17h), (13, .B (decide (xt4_17h < (p0.length : Int))))], [(23500, .lst .t_string x23500)]⟩) ?_
  rcases ite_some h with ⟨c1, h⟩ | ⟨c1, h⟩
  ·refine tt (b := (decide (xt4_17h < (p0.length : Int)))) (decide_eq_true c1) ?_
   refine awp_skip' ?_
   refine awp_seq ?_
   refine awp_block ?_
   obtain ⟨g1, h⟩ := guard_some h
   obtain ⟨g2, h⟩ := guard_some h
   refine ar L 219 [] [] [] (cs := [(0 : Int) ≤ xt4_17h, (xt4_17h : Int) < (p0.length : Int), (x23500.length + ([(p0.getD (Int.toNat xt4_17h) z_workflowref50_File).Name] : List (List UInt8)).length) * 16 ≤ 140737488355328, True]) (S' := ⟨[(0, .cv (.pcs [.ro .t_workflowref50_File p0, .I p1, .I p2, .B p3, .B true] 0)), (3, .cv (.own .t_string 23500)), (4, .I xt4_17h)], [(23500, .lst .t_string (x23500 ++ ([(p0.getD (Int.toNat xt4_17h) z_workflowref50_File).Name] : List (List UInt8))))]⟩) (And.intro g1.1 (And.intro g1.2 (And.intro g2 trivial))) ?_
   refine ar0 L 232 [] [] [] (S' := ⟨[(0, .cv (.pcs [.ro .t_workflowref50_File p0, .I p1, .I p2, .B p3, .B true] 0)), (3, .cv (.own .t_string 23500)), (4, .I (IntKind.i64.wrap (xt4_17h + 1)))], [(23500, .lst .t_string (x23500 ++ ([(p0.getD (Int.toNat xt4_17h) z_workflowref50_File).Name] : List (List UInt8))))]⟩) ?_
   exact ⟨k, Nat.lt_succ_self k, _, _, rfl, h⟩
  refine ff (b := (decide (xt4_17h < (p0.length : Int)))) (decide_eq_false c1) ?_
  refine awp_turn (Turns.trans (Turns.kp (S' := ⟨[(3, .cv (.own .t_string 23500))], [(23500, .lst .t_string x23500)]⟩)) (Turns.rn [(23500, 23400)] (S' := ⟨[(3, .cv (.own .t_string 23400))], [(23400, .lst .t_string x23500)]⟩))) ?_
  refine ex (S' := ⟨[(3, .cv (.own .t_string 23400))], [(23400, .lst .t_string x23500)]⟩) ?_
  obtain rfl := Option.some.inj h
  exact ⟨rfl, _, rfl, rfl⟩
 ·rintro e S ⟨rfl, x23400, rfl, rfl⟩
  refine ⟨_, Turns.refl, ?_⟩
  refine sr0 L 236 [] [] [] (S' := ⟨[(2, .cv (.own .t_string 23400))], [(23400, .lst .t_string x23400)]⟩) ?_
  refine awp_turn (Turns.frz 23400 (blk0 := .lst .t_string x23400) (by kernel_rfl) (by kernel_rfl) (S' := ⟨[(2, .cv (.ro .t_string x23400))], []⟩) (by kernel_rfl)) ?_
  refine awp_ret ?_
  obtain rfl := Option.some.inj h
  exact er (.cv (.ro .t_string x23400))
theorem workflowref50_Disk_Names.ok {K : Nat} {p0 : List workflowref50_File} {p1 : Int} {p2 : Int} {p3 : Bool} {r : List (List UInt8)} (h : workflowref50_Disk_Names K p0 p1 p2 p3 = some r) : PCall V P 42 [.cv (.pcs [.ro .t_workflowref50_File p0, .I p1, .I p2, .B p3, .B true] 0)] (.cv (.ro .t_string r)) := ECall.pcall (eo (fn := Try.f42) (n := 28) (m := 100) fun Γ => workflowref50_Disk_Names.body h) (by kernel_rfl)
def workflowref50_Disk_Dead (K : Nat) (p0 : List workflowref50_File) (p1 : Int) (p2 : Int) (p3 : Bool) : Option Unit := (Option.bind (workflowref50_none K p0 p1 p2 p3) (fun _ => some ()))
theorem workflowref50_Disk_Dead.body {Γ : Ent} {K : Nat} {p0 : List workflowref50_File} {p1 : Int} {p2 : Int} {p3 : Bool} {r : Unit} (h : workflowref50_Disk_Dead K p0 p1 p2 p3 = some r) : AWp V P 12 100 Γ (Try.f43.body.getD .skip) (EndsE P V Try.f43 (.B p3) []) ⟨args0 0 [.cv (.pcs [.ro .t_workflowref50_File p0, .I p1, .I p2, .B p3, .B true] 0)], []⟩ := by
 unfold workflowref50_Disk_Dead at h
 refine sr0 L 200 [] [] [] (S' := ⟨[(0, .cv (.pcs [.ro .t_workflowref50_File p0, .I p1, .I p2, .B p3, .B true] 0))], []⟩) ?_
 refine awp_seq ?_
 obtain ⟨⟨⟩, h1, h⟩ := bind_some h
 refine ar L 202 [] [(1, .B false)] [] (cs := [PCall V P 57 [.cv (.pcs [.ro .t_workflowref50_File p0, .I p1, .I p2, .B p3, .B true] 0)] (.B false), True]) (S' := ⟨[(2, .B p3)], []⟩) (And.intro (workflowref50_none.ok h1) trivial) ?_
 refine awp_ret ?_
 obtain rfl := Option.some.inj h
 exact er (.B p3)
theorem workflowref50_Disk_Dead.ok {K : Nat} {p0 : List workflowref50_File} {p1 : Int} {p2 : Int} {p3 : Bool} {r : Unit} (h : workflowref50_Disk_Dead K p0 p1 p2 p3 = some r) : PCall V P 43 [.cv (.pcs [.ro .t_workflowref50_File p0, .I p1, .I p2, .B p3, .B true] 0)] (.B p3) := ECall.pcall (eo (fn := Try.f43) (n := 12) (m := 100) fun Γ => workflowref50_Disk_Dead.body h) (by kernel_rfl)
def workflowlaw50_names.l15 (K : Nat) (p0 : List (List UInt8)) (p1 : List (List UInt8)) : Nat → Int → Option (Out Bool Unit)
 | 0, _ => none
 | k + 1, xt5_15h => (if xt5_15h < (p0.length : Int) then (if (0 : Int) ≤ xt5_15h ∧ (xt5_15h : Int) < (p0.length : Int) then (if (xt5_15h : Int) < (p1.length : Int) then (if (p0.getD (Int.toNat xt5_15h) ([] : List UInt8)) ≠ (p1.getD (Int.toNat xt5_15h) ([] : List UInt8)) then some (Out.done false) else workflowlaw50_names.l15 K p0 p1 k (IntKind.i64.wrap (xt5_15h + 1))) else none) else none) else some (Out.go ()))
def workflowlaw50_names (K : Nat) (p0 : List (List UInt8)) (p1 : List (List UInt8)) : Option Bool := (if (p0.length : Int) ≠ (p1.length : Int) then some false else (obind (workflowlaw50_names.l15 K p0 p1 K 0 : Option (Out Bool Unit)) (fun r => r) (fun _ => some true)))
theorem workflowlaw50_names.body {Γ : Ent} {K : Nat} {p0 : List (List UInt8)} {p1 : List (List UInt8)} {r : Bool} (h : workflowlaw50_names K p0 p1 = some r) : AWp V P 26 100 Γ (Try.f45.body.getD .skip) (EndsE P V Try.f45 (.B r) []) ⟨args0 0 [.cv (.ro .t_string p0), .cv (.ro .t_string p1)], []⟩ := by
 unfold workflowlaw50_names at h
 refine sr0 L 200 [] [] [] (S' := ⟨[(0, .cv (.ro .t_string p0)), (1, .cv (.ro .t_string p1))], []⟩) ?_
 refine awp_seq ?_
 refine sr0 L 202 [] [] [] (S' := ⟨[(0, .cv (.ro .t_string p0)), (1, .cv (.ro .t_string p1)), (10, .B (decide ((p0.length : Int) ≠ (p1.length : Int))))], []⟩) ?_
 rcases ite_some h with ⟨c1, h⟩ | ⟨c1, h⟩
 ·refine tt (b := (decide ((p0.length : Int) ≠ (p1.length : Int)))) (decide_eq_true c1) ?_
  refine sr0 L 208 [] [] [] (S' := ⟨[(4, .B false)], []⟩) ?_
  refine awp_ret ?_
  obtain rfl := Option.some.inj h
  exact er (.B false)
 refine ff (b := (decide ((p0.length : Int) ≠ (p1.length : Int)))) (decide_eq_false c1) ?_
 refine awp_skip' ?_
 refine awp_seq ?_
 refine sr0 L 210 [] [] [] (S' := ⟨[(0, .cv (.ro .t_string p0)), (1, .cv (.ro .t_string p1)), (5, .I 0)], []⟩) ?_
 refine awp_block ?_
 refine kp (S' := ⟨[(0, .cv (.ro .t_string p0)), (1, .cv (.ro .t_string p1)), (5, .I 0)], []⟩) ?_
 obtain ⟨o1, hp1, h⟩ := obind_some h
 refine awp_conseq (Q' := fun e S => (e = .exit 0 ∧ S = ⟨[], []⟩ ∧ Out.go () = o1) ∨ (e = .ret ∧ ∃ a, Out.done a = o1 ∧ EndsE P V Try.f45 (.B a) [] .ret S)) (awp_loop (fun k S => ∃ xt5_15h : Int, S = ⟨[(0, .cv (.ro .t_string p0)), (1, .cv (.ro .t_string p1)), (5, .I xt5_15h)], []⟩ ∧ workflowlaw50_names.l15 K p0 p1 k xt5_15h = some o1) ?_ ⟨_, rfl, hp1⟩) ?_
 ·clear h hp1
  intro k S hS
  obtain ⟨xt5_15h, rfl, h⟩ := hS
  cases k with
  | zero => cases h
  | succ k =>
  unfold workflowlaw50_names.l15 at h
  refine awp_seq ?_
  refine sr0 L 212 [] [] [] (S' := ⟨[(0, .cv (.ro .t_string p0)), (1, .cv (.ro .t_string p1)), (5, .I xt5_15h), (14, .B (decide (xt5_15h < (p0.length : Int))))], []⟩) ?_
  rcases ite_some h with ⟨c2, h⟩ | ⟨c2, h⟩
  ·refine tt (b := (decide (xt5_15h < (p0.length : Int)))) (decide_eq_true c2) ?_
   refine awp_skip' ?_
   refine awp_seq ?_
   refine awp_block ?_
   refine awp_seq ?_
   obtain ⟨g1, h⟩ := guard_some h
   obtain ⟨g2, h⟩ := guard_some h
   refine ad L mixed 217 [] [] [] [] 9 (cs := [(0 : Int) ≤ xt5_15h, (xt5_15h : Int) < (p0.length : Int), (0 : Int) ≤ xt5_15h, (xt5_15h : Int) < (p1.length : Int)]) (S' := ⟨[(0, .cv (.ro .t_string p0)), (1, .cv (.ro .t_string p1)), (5, .I xt5_15h), (25, .B (decide ((p0.getD (Int.toNat xt5_15h) ([] : List UInt8)) ≠ (p1.getD (Int.toNat xt5_15h) ([] : List UInt8)))))], []⟩) (And.intro g1.1 (And.intro g1.2 (And.intro g1.1 g2))) ?_
   rcases ite_some h with ⟨c3, h⟩ | ⟨c3, h⟩
   ·refine tt (b := (decide ((p0.getD (Int.toNat xt5_15h) ([] : List UInt8)) ≠ (p1.getD (Int.toNat xt5_15h) ([] : List UInt8))))) (decide_eq_true c3) ?_
    refine sr0 L 227 [] [] [] (S' := ⟨[(4, .B false)], []⟩) ?_
    refine awp_ret ?_
    obtain rfl := Option.some.inj h
    exact .inr ⟨rfl, _, rfl, er (.B false)⟩
   refine ff (b := (decide ((p0.getD (Int.toNat xt5_15h) ([] : List UInt8)) ≠ (p1.getD (Int.toNat xt5_15h) ([] : List UInt8))))) (decide_eq_false c3) ?_
   refine awp_skip' ?_
   refine ar0 L 229 [] [] [] (S' := ⟨[(0, .cv (.ro .t_string p0)), (1, .cv (.ro .t_string p1)), (5, .I (IntKind.i64.wrap (xt5_15h + 1)))], []⟩) ?_
   exact ⟨k, Nat.lt_succ_self k, _, rfl, h⟩
  refine ff (b := (decide (xt5_15h < (p0.length : Int)))) (decide_eq_false c2) ?_
  refine ex (S' := ⟨[], []⟩) ?_
  obtain rfl := Option.some.inj h
  exact .inl ⟨rfl, rfl, rfl⟩
 ·rintro e S (⟨rfl, rfl, rfl⟩ | ⟨rfl, a, rfl, hr⟩)
  ·rcases h with ⟨_, e1, h⟩ | ⟨_, e1, h⟩
   ·cases e1
   ·have e2 := Out.go.inj e1
    subst e2
    refine ⟨_, Turns.refl, ?_⟩
    refine sr0 L 233 [] [] [] (S' := ⟨[(4, .B true)], []⟩) ?_
    refine awp_ret ?_
    obtain rfl := Option.some.inj h
    exact er (.B true)
  ·rcases h with ⟨_, e1, h⟩ | ⟨_, e1, h⟩
   ·have e2 := Out.done.inj e1
    subst e2
    subst h
    exact ⟨_, Turns.refl, hr⟩
   ·cases e1
theorem workflowlaw50_names.ok {K : Nat} {p0 : List (List UInt8)} {p1 : List (List UInt8)} {r : Bool} (h : workflowlaw50_names K p0 p1 = some r) : PCall V P 45 [.cv (.ro .t_string p0), .cv (.ro .t_string p1)] (.B r) := ECall.pcall (eo (fn := Try.f45) (n := 26) (m := 100) fun Γ => workflowlaw50_names.body h) (by kernel_rfl)
def workflowlaw50_same.l17 (K : Nat) (p0 : Int) (p1 : List (List UInt8 × disk_file)) (p2 : Bool) (p3 : Bool) (p4 : Int) (p5 : List workflowref50_File) (p6 : Int) (p7 : Int) (p8 : Bool) (a1 : List (List UInt8)) : Nat → Int → Option (Out Bool Unit)
 | 0, _ => none
 | k + 1, xt6_17h => (if xt6_17h < (a1.length : Int) then (if (0 : Int) ≤ xt6_17h ∧ (xt6_17h : Int) < (a1.length : Int) then (Option.bind (disk_Disk_Read K p0 p1 p2 p3 p4 (a1.getD (Int.toNat xt6_17h) ([] : List UInt8))) (fun (a8_0, a8_1) => (Option.bind (workflowref50_Disk_Read K p5 p6 p7 p8 (a1.getD (Int.toNat xt6_17h) ([] : List UInt8))) (fun (a9_0, a9_1) => (if a8_1 ≠ a9_1 then some (Out.done false) else (Option.bind (workflowlaw50_equal K a8_0 a9_0) (fun a10 => (if a10 = true then workflowlaw50_same.l17 K p0 p1 p2 p3 p4 p5 p6 p7 p8 a1 k (IntKind.i64.wrap (xt6_17h + 1)) else some (Out.done false))))))))) else none) else some (Out.go ()))
def workflowlaw50_same (K : Nat) (p0 : Int) (p1 : List (List UInt8 × disk_file)) (p2 : Bool) (p3 : Bool) (p4 : Int) (p5 : List workflowref50_File) (p6 : Int) (p7 : Int) (p8 : Bool) : Option Bool := (Option.bind (workflowref50_Disk_Names K p5 p6 p7 p8) (fun a1 => (Option.bind (disk_Disk_Dead K p0 p1 p2 p3 p4) (fun _ => (Option.bind (workflowref50_Disk_Dead K p5 p6 p7 p8) (fun _ => (if (p2 == p8) = true then (Option.bind (disk_Disk_Used K p0 p1 p2 p3 p4) (fun a4 => (Option.bind (workflowref50_Disk_Used K p5 p6 p7 p8) (fun a5 => (if a4 ≠ a5 then some false else (Option.bind (disk_Disk_Names K p0 p1 p2 p3 p4) (fun a6 => (Option.bind (workflowlaw50_names K a6 a1) (fun a7 => (if a7 = true then (obind (workflowlaw50_same.l17 K p0 p1 p2 p3 p4 p5 p6 p7 p8 a1 K 0 : Option (Out Bool Unit)) (fun r => r) (fun _ => some true)) else some false)))))))))) else some false)))))))
theorem workflowlaw50_same.body {Γ : Ent} {K : Nat} {p0 : Int} {p1 : List (List UInt8 × disk_file)} {p2 : Bool} {p3 : Bool} {p4 : Int} {p5 : List workflowref50_File} {p6 : Int} {p7 : Int} {p8 : Bool} {r : Bool} (h : workflowlaw50_same K p0 p1 p2 p3 p4 p5 p6 p7 p8 = some r) : AWp V P 65 100 Γ (Try.f22.body.getD .skip) (EndsE P V Try.f22 (.B r) []) ⟨args0 0 [.cv (.pcs [.B true, .I p0, .rom .t_disk_file p1, .B p2, .B p3, .I p4] 0), .cv (.pcs [.ro .t_workflowref50_File p5, .I p6, .I p7, .B p8, .B true] 0)], []⟩ := by
 unfold workflowlaw50_same at h
 refine sr0 L 200 [] [] [] (S' := ⟨[(0, .cv (.pcs [.B true, .I p0, .rom .t_disk_file p1, .B p2, .B p3, .I p4] 0)), (1, .cv (.pcs [.ro .t_workflowref50_File p5, .I p6, .I p7, .B p8, .B true] 0))], []⟩) ?_
 refine awp_seq ?_
 obtain ⟨a1, h1, h⟩ := bind_some h
 refine ar L 202 [] [(1, .cv (.ro .t_string a1))] [] (cs := [PCall V P 42 [.cv (.pcs [.ro .t_workflowref50_File p5, .I p6, .I p7, .B p8, .B true] 0)] (.cv (.ro .t_string a1)), True]) (S' := ⟨[(0, .cv (.pcs [.B true, .I p0, .rom .t_disk_file p1, .B p2, .B p3, .I p4] 0)), (1, .cv (.pcs [.ro .t_workflowref50_File p5, .I p6, .I p7, .B p8, .B true] 0)), (5, .cv (.ro .t_string a1))], []⟩) (And.intro (workflowref50_Disk_Names.ok h1) trivial) ?_
 refine awp_seq ?_
 refine awp_seq ?_
 obtain ⟨⟨⟩, h2, h⟩ := bind_some h
 obtain ⟨⟨⟩, h3, h⟩ := bind_some h
 rcases ite_some h with ⟨c1, h⟩ | ⟨c1, h⟩
 ·obtain ⟨a4, h4, h⟩ := bind_some h
  obtain ⟨a5, h5, h⟩ := bind_some h
  rcases ite_some h with ⟨c2, h⟩ | ⟨c2, h⟩
  ·refine ar L 206 [(5, false), (12, true)] [(1, .B p2), (3, .B p8), (7, .I a4), (9, .I a5)] [] (cs := [PCall V P 12 [.cv (.pcs [.B true, .I p0, .rom .t_disk_file p1, .B p2, .B p3, .I p4] 0)] (.B p2), True, PCall V P 43 [.cv (.pcs [.ro .t_workflowref50_File p5, .I p6, .I p7, .B p8, .B true] 0)] (.B p8), True, (!(p2 == p8)) = false, PCall V P 14 [.cv (.pcs [.B true, .I p0, .rom .t_disk_file p1, .B p2, .B p3, .I p4] 0)] (.I a4), True, PCall V P 44 [.cv (.pcs [.ro .t_workflowref50_File p5, .I p6, .I p7, .B p8, .B true] 0)] (.I a5), True, (decide (a4 ≠ a5)) = true]) (S' := ⟨[(0, .cv (.pcs [.B true, .I p0, .rom .t_disk_file p1, .B p2, .B p3, .I p4] 0)), (1, .cv (.pcs [.ro .t_workflowref50_File p5, .I p6, .I p7, .B p8, .B true] 0)), (5, .cv (.ro .t_string a1)), (31, .B true)], []⟩) (And.intro (disk_Disk_Dead.ok h2) (And.intro trivial (And.intro (workflowref50_Disk_Dead.ok h3) (And.intro trivial (And.intro (congrArg Bool.not (c1)) (And.intro (disk_Disk_Used.ok h4) (And.intro trivial (And.intro (workflowref50_Disk_Used.ok h5) (And.intro trivial (decide_eq_true c2)))))))))) ?_
   refine tt (b := true) (rfl) ?_
   refine sr0 L 226 [] [] [] (S' := ⟨[(4, .B false)], []⟩) ?_
   refine awp_ret ?_
   obtain rfl := Option.some.inj h
   exact er (.B false)
  obtain ⟨a6, h6, h⟩ := bind_some h
  obtain ⟨a7, h7, h⟩ := bind_some h
  refine ar L 206 [(5, false), (12, false)] [(1, .B p2), (3, .B p8), (7, .I a4), (9, .I a5), (14, .cv (.ro .t_string a6)), (16, .B a7)] [] (cs := [PCall V P 12 [.cv (.pcs [.B true, .I p0, .rom .t_disk_file p1, .B p2, .B p3, .I p4] 0)] (.B p2), True, PCall V P 43 [.cv (.pcs [.ro .t_workflowref50_File p5, .I p6, .I p7, .B p8, .B true] 0)] (.B p8), True, (!(p2 == p8)) = false, PCall V P 14 [.cv (.pcs [.B true, .I p0, .rom .t_disk_file p1, .B p2, .B p3, .I p4] 0)] (.I a4), True, PCall V P 44 [.cv (.pcs [.ro .t_workflowref50_File p5, .I p6, .I p7, .B p8, .B true] 0)] (.I a5), True, (decide (a4 ≠ a5)) = false, PCall V P 32 [.cv (.pcs [.B true, .I p0, .rom .t_disk_file p1, .B p2, .B p3, .I p4] 0)] (.cv (.ro .t_string a6)), True, PCall V P 45 [.cv (.ro .t_string a6), .cv (.ro .t_string a1)] (.B a7), True]) (S' := ⟨[(0, .cv (.pcs [.B true, .I p0, .rom .t_disk_file p1, .B p2, .B p3, .I p4] 0)), (1, .cv (.pcs [.ro .t_workflowref50_File p5, .I p6, .I p7, .B p8, .B true] 0)), (5, .cv (.ro .t_string a1)), (31, .B (!a7))], []⟩) (And.intro (disk_Disk_Dead.ok h2) (And.intro trivial (And.intro (workflowref50_Disk_Dead.ok h3) (And.intro trivial (And.intro (congrArg Bool.not (c1)) (And.intro (disk_Disk_Used.ok h4) (And.intro trivial (And.intro (workflowref50_Disk_Used.ok h5) (And.intro trivial (And.intro (decide_eq_false c2) (And.intro (disk_Disk_Names.ok h6) (And.intro trivial (And.intro (workflowlaw50_names.ok h7) trivial))))))))))))) ?_
  rcases ite_some h with ⟨c3, h⟩ | ⟨c3, h⟩
  ·refine ff (b := (!a7)) (congrArg Bool.not (c3)) ?_
   refine awp_skip' ?_
   refine awp_seq ?_
   refine sr0 L 228 [] [] [] (S' := ⟨[(0, .cv (.pcs [.B true, .I p0, .rom .t_disk_file p1, .B p2, .B p3, .I p4] 0)), (1, .cv (.pcs [.ro .t_workflowref50_File p5, .I p6, .I p7, .B p8, .B true] 0)), (5, .cv (.ro .t_string a1)), (6, .I 0)], []⟩) ?_
   refine awp_block ?_
   refine kp (S' := ⟨[(0, .cv (.pcs [.B true, .I p0, .rom .t_disk_file p1, .B p2, .B p3, .I p4] 0)), (1, .cv (.pcs [.ro .t_workflowref50_File p5, .I p6, .I p7, .B p8, .B true] 0)), (5, .cv (.ro .t_string a1)), (6, .I 0)], []⟩) ?_
   obtain ⟨o1, hp1, h⟩ := obind_some h
   refine awp_conseq (Q' := fun e S => (e = .exit 0 ∧ S = ⟨[], []⟩ ∧ Out.go () = o1) ∨ (e = .ret ∧ ∃ a, Out.done a = o1 ∧ EndsE P V Try.f22 (.B a) [] .ret S)) (awp_loop (fun k S => ∃ xt6_17h : Int, S = ⟨[(0, .cv (.pcs [.B true, .I p0, .rom .t_disk_file p1, .B p2, .B p3, .I p4] 0)), (1, .cv (.pcs [.ro .t_workflowref50_File p5, .I p6, .I p7, .B p8, .B true] 0)), (5, .cv (.ro .t_string a1)), (6, .I xt6_17h)], []⟩ ∧ workflowlaw50_same.l17 K p0 p1 p2 p3 p4 p5 p6 p7 p8 a1 k xt6_17h = some o1) ?_ ⟨_, rfl, hp1⟩) ?_
   ·clear h hp1
    intro k S hS
    obtain ⟨xt6_17h, rfl, h⟩ := hS
    cases k with
    | zero => cases h
    | succ k =>
    unfold workflowlaw50_same.l17 at h
    refine awp_seq ?_
    refine sr0 L 230 [] [] [] (S' := ⟨[(0, .cv (.pcs [.B true, .I p0, .rom .t_disk_file p1, .B p2, .B p3, .I p4] 0)), (1, .cv (.pcs [.ro .t_workflowref50_File p5, .I p6, .I p7, .B p8, .B true] 0)), (5, .cv (.ro .t_string a1)), (6, .I xt6_17h), (35, .B (decide (xt6_17h < (a1.length : Int))))], []⟩) ?_
    rcases ite_some h with ⟨c4, h⟩ | ⟨c4, h⟩
    ·refine tt (b := (decide (xt6_17h < (a1.length : Int)))) (decide_eq_true c4) ?_
     refine awp_skip' ?_
     refine awp_seq ?_
     refine awp_block ?_
     refine awp_seq ?_
     obtain ⟨g1, h⟩ := guard_some h
     obtain ⟨⟨a8_0, a8_1⟩, h8, h⟩ := bind_some h
     dsimp only at h
     refine ar L 235 [] [(5, .tup [.cv (.ro .t_uint8 a8_0), .I a8_1])] [] (cs := [(0 : Int) ≤ xt6_17h, (xt6_17h : Int) < (a1.length : Int), PCall V P 15 [.cv (.pcs [.B true, .I p0, .rom .t_disk_file p1, .B p2, .B p3, .I p4] 0), .cv (.str (a1.getD (Int.toNat xt6_17h) ([] : List UInt8)))] (.tup [.cv (.ro .t_uint8 a8_0), .I a8_1]), True]) (S' := ⟨[(0, .cv (.pcs [.B true, .I p0, .rom .t_disk_file p1, .B p2, .B p3, .I p4] 0)), (1, .cv (.pcs [.ro .t_workflowref50_File p5, .I p6, .I p7, .B p8, .B true] 0)), (5, .cv (.ro .t_string a1)), (6, .I xt6_17h), (7, .cv (.ro .t_uint8 a8_0)), (8, .I a8_1)], []⟩) (And.intro g1.1 (And.intro g1.2 (And.intro (disk_Disk_Read.ok h8) trivial))) ?_
     refine awp_seq ?_
     obtain ⟨⟨a9_0, a9_1⟩, h9, h⟩ := bind_some h
     dsimp only at h
     refine ar L 247 [] [(5, .tup [.cv (.ro .t_uint8 a9_0), .I a9_1])] [] (cs := [(0 : Int) ≤ xt6_17h, (xt6_17h : Int) < (a1.length : Int), PCall V P 38 [.cv (.pcs [.ro .t_workflowref50_File p5, .I p6, .I p7, .B p8, .B true] 0), .cv (.str (a1.getD (Int.toNat xt6_17h) ([] : List UInt8)))] (.tup [.cv (.ro .t_uint8 a9_0), .I a9_1]), True]) (S' := ⟨[(0, .cv (.pcs [.B true, .I p0, .rom .t_disk_file p1, .B p2, .B p3, .I p4] 0)), (1, .cv (.pcs [.ro .t_workflowref50_File p5, .I p6, .I p7, .B p8, .B true] 0)), (5, .cv (.ro .t_string a1)), (6, .I xt6_17h), (7, .cv (.ro .t_uint8 a8_0)), (8, .I a8_1), (9, .cv (.ro .t_uint8 a9_0)), (10, .I a9_1)], []⟩) (And.intro g1.1 (And.intro g1.2 (And.intro (workflowref50_Disk_Read.ok h9) trivial))) ?_
     refine awp_seq ?_
     rcases ite_some h with ⟨c5, h⟩ | ⟨c5, h⟩
     ·refine ar L 259 [(3, true)] [] [] (cs := [(decide (a8_1 ≠ a9_1)) = true]) (S' := ⟨[(0, .cv (.pcs [.B true, .I p0, .rom .t_disk_file p1, .B p2, .B p3, .I p4] 0)), (1, .cv (.pcs [.ro .t_workflowref50_File p5, .I p6, .I p7, .B p8, .B true] 0)), (5, .cv (.ro .t_string a1)), (6, .I xt6_17h), (64, .B true)], []⟩) (decide_eq_true c5) ?_
      refine tt (b := true) (rfl) ?_
      refine sr0 L 269 [] [] [] (S' := ⟨[(4, .B false)], []⟩) ?_
      refine awp_ret ?_
      obtain rfl := Option.some.inj h
      exact .inr ⟨rfl, _, rfl, er (.B false)⟩
     obtain ⟨a10, h10, h⟩ := bind_some h
     refine ar L 259 [(3, false)] [(6, .B a10)] [] (cs := [(decide (a8_1 ≠ a9_1)) = false, PCall V P 21 [.cv (.ro .t_uint8 a8_0), .cv (.ro .t_uint8 a9_0)] (.B a10), True]) (S' := ⟨[(0, .cv (.pcs [.B true, .I p0, .rom .t_disk_file p1, .B p2, .B p3, .I p4] 0)), (1, .cv (.pcs [.ro .t_workflowref50_File p5, .I p6, .I p7, .B p8, .B true] 0)), (5, .cv (.ro .t_string a1)), (6, .I xt6_17h), (64, .B (!a10))], []⟩) (And.intro (decide_eq_false c5) (And.intro (workflowlaw50_equal.ok h10) trivial)) ?_
     rcases ite_some h with ⟨c6, h⟩ | ⟨c6, h⟩
     ·refine ff (b := (!a10)) (congrArg Bool.not (c6)) ?_
      refine awp_skip' ?_
      refine ar0 L 271 [] [] [] (S' := ⟨[(0, .cv (.pcs [.B true, .I p0, .rom .t_disk_file p1, .B p2, .B p3, .I p4] 0)), (1, .cv (.pcs [.ro .t_workflowref50_File p5, .I p6, .I p7, .B p8, .B true] 0)), (5, .cv (.ro .t_string a1)), (6, .I (IntKind.i64.wrap (xt6_17h + 1)))], []⟩) ?_
      exact ⟨k, Nat.lt_succ_self k, _, rfl, h⟩
     refine tt (b := (!a10)) (congrArg Bool.not (eq_false_of_ne_true c6)) ?_
     refine sr0 L 269 [] [] [] (S' := ⟨[(4, .B false)], []⟩) ?_
     refine awp_ret ?_
     obtain rfl := Option.some.inj h
     exact .inr ⟨rfl, _, rfl, er (.B false)⟩
    refine ff (b := (decide (xt6_17h < (a1.length : Int)))) (decide_eq_false c4) ?_
    refine ex (S' := ⟨[], []⟩) ?_
    obtain rfl := Option.some.inj h
    exact .inl ⟨rfl, rfl, rfl⟩
   ·rintro e S (⟨rfl, rfl, rfl⟩ | ⟨rfl, a, rfl, hr⟩)
    ·rcases h with ⟨_, e1, h⟩ | ⟨_, e1, h⟩
     ·cases e1
     ·have e2 := Out.go.inj e1
      subst e2
      refine ⟨_, Turns.refl, ?_⟩
      refine sr0 L 275 [] [] [] (S' := ⟨[(4, .B true)], []⟩) ?_
      refine awp_ret ?_
      obtain rfl := Option.some.inj h
      exact er (.B true)
    ·rcases h with ⟨_, e1, h⟩ | ⟨_, e1, h⟩
     ·have e2 := Out.done.inj e1
      subst e2
      subst h
      exact ⟨_, Turns.refl, hr⟩
     ·cases e1
  refine tt (b := (!a7)) (congrArg Bool.not (eq_false_of_ne_true c3)) ?_
  refine sr0 L 226 [] [] [] (S' := ⟨[(4, .B false)], []⟩) ?_
  refine awp_ret ?_
  obtain rfl := Option.some.inj h
  exact er (.B false)
 refine ar L 206 [(5, true)] [(1, .B p2), (3, .B p8)] [] (cs := [PCall V P 12 [.cv (.pcs [.B true, .I p0, .rom .t_disk_file p1, .B p2, .B p3, .I p4] 0)] (.B p2), True, PCall V P 43 [.cv (.pcs [.ro .t_workflowref50_File p5, .I p6, .I p7, .B p8, .B true] 0)] (.B p8), True, (!(p2 == p8)) = true]) (S' := ⟨[(0, .cv (.pcs [.B true, .I p0, .rom .t_disk_file p1, .B p2, .B p3, .I p4] 0)), (1, .cv (.pcs [.ro .t_workflowref50_File p5, .I p6, .I p7, .B p8, .B true] 0)), (5, .cv (.ro .t_string a1)), (31, .B true)], []⟩) (And.intro (disk_Disk_Dead.ok h2) (And.intro trivial (And.intro (workflowref50_Disk_Dead.ok h3) (And.intro trivial (congrArg Bool.not (eq_false_of_ne_true c1)))))) ?_
 refine tt (b := true) (rfl) ?_
 refine sr0 L 226 [] [] [] (S' := ⟨[(4, .B false)], []⟩) ?_
 refine awp_ret ?_
 obtain rfl := Option.some.inj h
 exact er (.B false)
theorem workflowlaw50_same.ok {K : Nat} {p0 : Int} {p1 : List (List UInt8 × disk_file)} {p2 : Bool} {p3 : Bool} {p4 : Int} {p5 : List workflowref50_File} {p6 : Int} {p7 : Int} {p8 : Bool} {r : Bool} (h : workflowlaw50_same K p0 p1 p2 p3 p4 p5 p6 p7 p8 = some r) : PCall V P 22 [.cv (.pcs [.B true, .I p0, .rom .t_disk_file p1, .B p2, .B p3, .I p4] 0), .cv (.pcs [.ro .t_workflowref50_File p5, .I p6, .I p7, .B p8, .B true] 0)] (.B r) := ECall.pcall (eo (fn := Try.f22) (n := 65) (m := 100) fun Γ => workflowlaw50_same.body h) (by kernel_rfl)
def workflowref50_Disk_spent_v3 (K : Nat) (p0 : Int) (p1 : Int) (p2 : Bool) (p3 : List workflowref50_File) : Option (Bool × Int × Bool × (List workflowref50_File)) := (if p1 = 0 then some (true, p1, true, p3) else (if p1 > 0 then some (false, (IntKind.i64.wrap (p1 - 1)), p2, p3) else some (false, p1, p2, p3)))
theorem workflowref50_Disk_spent_v3.body {Γ : Ent} {K : Nat} {p0 : Int} {p1 : Int} {p2 : Bool} {p3 : List workflowref50_File} {r : Bool × Int × Bool × (List workflowref50_File)} (h : workflowref50_Disk_spent_v3 K p0 p1 p2 p3 = some r) : AWp V P 23 100 Γ (Try.f52.body.getD .skip) (EndsE P V Try.f52 (.B r.1) [(0, .raw [.own .t_workflowref50_File 1, .I p0, .I r.2.1, .B r.2.2.1, .B true]), (1, .lst .t_workflowref50_File r.2.2.2)]) ⟨args0 0 [.P 0], [(0, .raw [.own .t_workflowref50_File 1, .I p0, .I p1, .B p2, .B true]), (1, .lst .t_workflowref50_File p3)]⟩ := by
 unfold workflowref50_Disk_spent_v3 at h
 refine sr0 L 200 [] [] [] (S' := ⟨[(0, .P 0)], [(0, .raw [.own .t_workflowref50_File 1, .I p0, .I p1, .B p2, .B true]), (1, .lst .t_workflowref50_File p3)]⟩) ?_
 refine awp_seq ?_
 refine sr0 L 202 [] [] [] (S' := ⟨[(0, .P 0), (7, .B (decide (p1 = 0)))], [(0, .raw [.own .t_workflowref50_File 1, .I p0, .I p1, .B p2, .B true]), (1, .lst .t_workflowref50_File p3)]⟩) ?_
 rcases ite_some h with ⟨c1, h⟩ | ⟨c1, h⟩
 ·refine tt (b := (decide (p1 = 0))) (decide_eq_true c1) ?_
  refine sr0 L 208 [] [] [] (S' := ⟨[], [(0, .raw [.own .t_workflowref50_File 1, .I p0, .I p1, .B true, .B true]), (1, .lst .t_workflowref50_File p3)]⟩) ?_
  refine sr0 L 213 [] [] [] (S' := ⟨[(2, .B true)], [(0, .raw [.own .t_workflowref50_File 1, .I p0, .I p1, .B true, .B true]), (1, .lst .t_workflowref50_File p3)]⟩) ?_
  refine awp_ret ?_
  obtain rfl := Option.some.inj h
  exact er (.B true)
 refine ff (b := (decide (p1 = 0))) (decide_eq_false c1) ?_
 refine awp_skip' ?_
 refine awp_seq ?_
 refine sr0 L 215 [] [] [] (S' := ⟨[(0, .P 0), (15, .B (decide (p1 > 0)))], [(0, .raw [.own .t_workflowref50_File 1, .I p0, .I p1, .B p2, .B true]), (1, .lst .t_workflowref50_File p3)]⟩) ?_
 rcases ite_some h with ⟨c2, h⟩ | ⟨c2, h⟩
 ·refine tt (b := (decide (p1 > 0))) (decide_eq_true c2) ?_
  refine ar0 L 221 [] [] [] (S' := ⟨[], [(0, .raw [.own .t_workflowref50_File 1, .I p0, .I (IntKind.i64.wrap (p1 - 1)), .B p2, .B true]), (1, .lst .t_workflowref50_File p3)]⟩) ?_
  refine sr0 L 230 [] [] [] (S' := ⟨[(2, .B false)], [(0, .raw [.own .t_workflowref50_File 1, .I p0, .I (IntKind.i64.wrap (p1 - 1)), .B p2, .B true]), (1, .lst .t_workflowref50_File p3)]⟩) ?_
  refine awp_ret ?_
  obtain rfl := Option.some.inj h
  exact er (.B false)
 refine ff (b := (decide (p1 > 0))) (decide_eq_false c2) ?_
 refine awp_skip' ?_
 refine sr0 L 230 [] [] [] (S' := ⟨[(2, .B false)], [(0, .raw [.own .t_workflowref50_File 1, .I p0, .I p1, .B p2, .B true]), (1, .lst .t_workflowref50_File p3)]⟩) ?_
 refine awp_ret ?_
 obtain rfl := Option.some.inj h
 exact er (.B false)
theorem workflowref50_Disk_spent_v3.okE {K : Nat} {p0 : Int} {p1 : Int} {p2 : Bool} {p3 : List workflowref50_File} {r : Bool × Int × Bool × (List workflowref50_File)} (h : workflowref50_Disk_spent_v3 K p0 p1 p2 p3 = some r) : ECall V P 52 [.P 0] [(0, .raw [.own .t_workflowref50_File 1, .I p0, .I p1, .B p2, .B true]), (1, .lst .t_workflowref50_File p3)] [0, 1] (.B r.1) [(0, .raw [.own .t_workflowref50_File 1, .I p0, .I r.2.1, .B r.2.2.1, .B true]), (1, .lst .t_workflowref50_File r.2.2.2)] :=
 eo (fn := Try.f52) (n := 23) (m := 100) fun Γ => workflowref50_Disk_spent_v3.body h
def workflowref50_Disk_cut_v3.l7 (K : Nat) (p0 : List UInt8) (p4 : List workflowref50_File) : Nat → Int → (List workflowref50_File) → Option (List workflowref50_File)
 | 0, _, _ => none
 | k + 1, xt5_7h, x21500 => (if xt5_7h < (p4.length : Int) then (if (0 : Int) ≤ xt5_7h ∧ (xt5_7h : Int) < (p4.length : Int) then (if (Int.toNat xt5_7h) < p4.length then (if (p4.getD (Int.toNat xt5_7h) z_workflowref50_File).Name ≠ p0 then (if (x21500.length + ([(p4.getD (Int.toNat xt5_7h) z_workflowref50_File)] : List workflowref50_File).length) * 48 ≤ 140737488355328 then workflowref50_Disk_cut_v3.l7 K p0 p4 k (IntKind.i64.wrap (xt5_7h + 1)) (x21500 ++ ([(p4.getD (Int.toNat xt5_7h) z_workflowref50_File)] : List workflowref50_File)) else none) else workflowref50_Disk_cut_v3.l7 K p0 p4 k (IntKind.i64.wrap (xt5_7h + 1)) x21500) else none) else none) else some x21500)
def workflowref50_Disk_cut_v3 (K : Nat) (p0 : List UInt8) (p1 : Int) (p2 : Int) (p3 : Bool) (p4 : List workflowref50_File) : Option ((List workflowref50_File) × (List workflowref50_File)) := (Option.bind (workflowref50_Disk_cut_v3.l7 K p0 p4 K 0 ([] : List workflowref50_File) : Option (List workflowref50_File)) (fun x21400 => some (p4, x21400)))
theorem workflowref50_Disk_cut_v3.body {Γ : Ent} {K : Nat} {p0 : List UInt8} {p1 : Int} {p2 : Int} {p3 : Bool} {p4 : List workflowref50_File} {r : (List workflowref50_File) × (List workflowref50_File)} (h : workflowref50_Disk_cut_v3 K p0 p1 p2 p3 p4 = some r) : AWp V P 39 100 Γ (Try.f56.body.getD .skip) (EndsE P V Try.f56 (.tup []) [(0, .raw [.own .t_workflowref50_File 100, .I p1, .I p2, .B p3, .B true]), (1, .lst .t_workflowref50_File r.1), (100, .lst .t_workflowref50_File r.2)]) ⟨args0 0 [.P 0, .cv (.str p0)], [(0, .raw [.own .t_workflowref50_File 1, .I p1, .I p2, .B p3, .B true]), (1, .lst .t_workflowref50_File p4)]⟩ := by
 unfold workflowref50_Disk_cut_v3 at h
 refine sr0 L 200 [] [] [] (S' := ⟨[(0, .P 0), (1, .cv (.str p0)), (4, .N)], [(0, .raw [.own .t_workflowref50_File 1, .I p1, .I p2, .B p3, .B true]), (1, .lst .t_workflowref50_File p4)]⟩) ?_
 refine awp_seq ?_
 refine sr0 L 202 [] [] [] (S' := ⟨[(0, .P 0), (1, .cv (.str p0)), (4, .N), (5, .I 0)], [(0, .raw [.own .t_workflowref50_File 1, .I p1, .I p2, .B p3, .B true]), (1, .lst .t_workflowref50_File p4)]⟩) ?_
 refine awp_block ?_
 refine awp_turn (Turns.trans (Turns.kp (S' := ⟨[(0, .P 0), (1, .cv (.str p0)), (4, .N), (5, .I 0)], [(0, .raw [.own .t_workflowref50_File 1, .I p1, .I p2, .B p3, .B true]), (1, .lst .t_workflowref50_File p4)]⟩)) (Turns.trans (Turns.nilown 4 9500 Tag.t_workflowref50_File (by kernel_rfl) (by kernel_rfl) (S' := ⟨[(4, .cv (.own .t_workflowref50_File 9500)), (0, .P 0), (1, .cv (.str p0)), (5, .I 0)], [(9500, .lst .t_workflowref50_File ([] : List workflowref50_File)), (0, .raw [.own .t_workflowref50_File 1, .I p1, .I p2, .B p3, .B true]), (1, .lst .t_workflowref50_File p4)]⟩) (by kernel_rfl)) (Turns.trans (Turns.kp (S' := ⟨[(0, .P 0), (1, .cv (.str p0)), (4, .cv (.own .t_workflowref50_File 9500)), (5, .I 0)], [(0, .raw [.own .t_workflowref50_File 1, .I p1, .I p2, .B p3, .B true]), (1, .lst .t_workflowref50_File p4), (9500, .lst .t_workflowref50_File ([] : List workflowref50_File))]⟩)) (Turns.rn [(0, 0), (1, 1), (9500, 21500)] (S' := ⟨[(0, .P 0), (1, .cv (.str p0)), (4, .cv (.own .t_workflowref50_File 21500)), (5, .I 0)], [(0, .raw [.own .t_workflowref50_File 1, .I p1, .I p2, .B p3, .B true]), (1, .lst .t_workflowref50_File p4), (21500, .lst .t_workflowref50_File ([] : List workflowref50_File))]⟩))))) ?_
 refine kp (S' := ⟨[(0, .P 0), (1, .cv (.str p0)), (4, .cv (.own .t_workflowref50_File 21500)), (5, .I 0)], [(0, .raw [.own .t_workflowref50_File 1, .I p1, .I p2, .B p3, .B true]), (1, .lst .t_workflowref50_File p4), (21500, .lst .t_workflowref50_File ([] : List workflowref50_File))]⟩) ?_
 obtain ⟨o1, hp1, h⟩ := bind_some h
 refine awp_conseq (Q' := fun e S => (e = .exit 0 ∧ ∃ x21400 : List workflowref50_File, S = ⟨[(0, .P 0), (4, .cv (.own .t_workflowref50_File 21400))], [(0, .raw [.own .t_workflowref50_File 1, .I p1, .I p2, .B p3, .B true]), (1, .lst .t_workflowref50_File p4), (21400, .lst .t_workflowref50_File x21400)]⟩ ∧ x21400 = o1)) (awp_loop (fun k S => ∃ xt5_7h : Int, ∃ x21500 : List workflowref50_File, S = ⟨[(0, .P 0), (1, .cv (.str p0)), (4, .cv (.own .t_workflowref50_File 21500)), (5, .I xt5_7h)], [(0, .raw [.own .t_workflowref50_File 1, .I p1, .I p2, .B p3, .B true]), (1, .lst .t_workflowref50_File p4), (21500, .lst .t_workflowref50_File x21500)]⟩ ∧ workflowref50_Disk_cut_v3.l7 K p0 p4 k xt5_7h x21500 = some o1) ?_ ⟨_, _, rfl, hp1⟩) ?_
 ·clear h hp1
  intro k S hS
  obtain ⟨xt5_7h, x21500, rfl, h⟩ := hS
  cases k with
  | zero => cases h
  | succ k =>
  unfold workflowref50_Disk_cut_v3.l7 at h
  refine awp_seq ?_
  refine sr0 L 204 [] [] [] (S' := ⟨[(0, .P 0), (1, .cv (.str p0)), (4, .cv (.own .t_workflowref50_File 21500)), (5, .I xt5_7h), (12, .B (decide (xt5_7h < (p4.length : Int))))], [(0, .raw [.own .t_workflowref50_File 1, .I p1, .I p2, .B p3, .B true]), (1, .lst .t_workflowref50_File p4), (21500, .lst .t_workflowref50_File x21500)]⟩) ?_
  rcases ite_some h with ⟨c1, h⟩ | ⟨c1, h⟩
  ·refine tt (b := (decide (xt5_7h < (p4.length : Int)))) (decide_eq_true c1) ?_
   refine awp_skip' ?_
   refine awp_seq ?_
   refine awp_block ?_
   refine awp_seq ?_
   obtain ⟨g1, h⟩ := guard_some h
   obtain ⟨g2, h⟩ := guard_some h
   refine ar L 212 [] [] [] (cs := [(0 : Int) ≤ xt5_7h, (xt5_7h : Int) < (p4.length : Int), (Int.toNat xt5_7h) < p4.length]) (S' := ⟨[(0, .P 0), (1, .cv (.str p0)), (4, .cv (.own .t_workflowref50_File 21500)), (5, .I xt5_7h), (24, .B (decide ((p4.getD (Int.toNat xt5_7h) z_workflowref50_File).Name ≠ p0)))], [(0, .raw [.own .t_workflowref50_File 1, .I p1, .I p2, .B p3, .B true]), (1, .lst .t_workflowref50_File p4), (21500, .lst .t_workflowref50_File x21500)]⟩) (And.intro g1.1 (And.intro g1.2 g2)) ?_
   rcases ite_some h with ⟨c2, h⟩ | ⟨c2, h⟩
   ·refine tt (b := (decide ((p4.getD (Int.toNat xt5_7h) z_workflowref50_File).Name ≠ p0))) (decide_eq_true c2) ?_
    obtain ⟨g3, h⟩ := guard_some h
    refine ar L 223 [] [] [] (cs := [(0 : Int) ≤ xt5_7h, (xt5_7h : Int) < (p4.length : Int), (Int.toNat xt5_7h) < p4.length, (x21500.length + ([(p4.getD (Int.toNat xt5_7h) z_workflowref50_File)] : List workflowref50_File).length) * 48 ≤ 140737488355328, True]) (S' := ⟨[(0, .P 0), (1, .cv (.str p0)), (4, .cv (.own .t_workflowref50_File 21500)), (5, .I xt5_7h)], [(0, .raw [.own .t_workflowref50_File 1, .I p1, .I p2, .B p3, .B true]), (1, .lst .t_workflowref50_File p4), (21500, .lst .t_workflowref50_File (x21500 ++ ([(p4.getD (Int.toNat xt5_7h) z_workflowref50_File)] : List workflowref50_File)))]⟩) (And.intro g1.1 (And.intro g1.2 (And.intro g2 (And.intro g3 trivial)))) ?_
    refine ar0 L 235 [] [] [] (S' := ⟨[(0, .P 0), (1, .cv (.str p0)), (4, .cv (.own .t_workflowref50_File 21500)), (5, .I (IntKind.i64.wrap (xt5_7h + 1)))], [(0, .raw [.own .t_workflowref50_File 1, .I p1, .I p2, .B p3, .B true]), (1, .lst .t_workflowref50_File p4), (21500, .lst .t_workflowref50_File (x21500 ++ ([(p4.getD (Int.toNat xt5_7h) z_workflowref50_File)] : List workflowref50_File)))]⟩) ?_
    exact ⟨k, Nat.lt_succ_self k, _, _, rfl, h⟩
   refine ff (b := (decide ((p4.getD (Int.toNat xt5_7h) z_workflowref50_File).Name ≠ p0))) (decide_eq_false c2) ?_
   refine awp_skip' ?_
   refine ar0 L 235 [] [] [] (S' := ⟨[(0, .P 0), (1, .cv (.str p0)), (4, .cv (.own .t_workflowref50_File 21500)), (5, .I (IntKind.i64.wrap (xt5_7h + 1)))], [(0, .raw [.own .t_workflowref50_File 1, .I p1, .I p2, .B p3, .B true]), (1, .lst .t_workflowref50_File p4), (21500, .lst .t_workflowref50_File x21500)]⟩) ?_
   exact ⟨k, Nat.lt_succ_self k, _, _, rfl, h⟩
  refine ff (b := (decide (xt5_7h < (p4.length : Int)))) (decide_eq_false c1) ?_
  refine awp_turn (Turns.trans (Turns.kp (S' := ⟨[(0, .P 0), (4, .cv (.own .t_workflowref50_File 21500))], [(0, .raw [.own .t_workflowref50_File 1, .I p1, .I p2, .B p3, .B true]), (1, .lst .t_workflowref50_File p4), (21500, .lst .t_workflowref50_File x21500)]⟩)) (Turns.rn [(0, 0), (1, 1), (21500, 21400)] (S' := ⟨[(0, .P 0), (4, .cv (.own .t_workflowref50_File 21400))], [(0, .raw [.own .t_workflowref50_File 1, .I p1, .I p2, .B p3, .B true]), (1, .lst .t_workflowref50_File p4), (21400, .lst .t_workflowref50_File x21500)]⟩))) ?_
  refine ex (S' := ⟨[(0, .P 0), (4, .cv (.own .t_workflowref50_File 21400))], [(0, .raw [.own .t_workflowref50_File 1, .I p1, .I p2, .B p3, .B true]), (1, .lst .t_workflowref50_File p4), (21400, .lst .t_workflowref50_File x21500)]⟩) ?_
  obtain rfl := Option.some.inj h
  exact ⟨rfl, _, rfl, rfl⟩
 ·rintro e S ⟨rfl, x21400, rfl, rfl⟩
  refine ⟨_, Turns.refl, ?_⟩
  refine awp_post (ar0 L 239 [] [] [] (S' := ⟨[], [(0, .raw [.own .t_workflowref50_File 21400, .I p1, .I p2, .B p3, .B true]), (1, .lst .t_workflowref50_File p4), (21400, .lst .t_workflowref50_File x21400)]⟩) ⟨rfl, rfl⟩) (Turns.trans (Turns.rn [(0, 0), (1, 1), (21400, 100)] (S' := ⟨[], [(0, .raw [.own .t_workflowref50_File 100, .I p1, .I p2, .B p3, .B true]), (1, .lst .t_workflowref50_File p4), (100, .lst .t_workflowref50_File x21400)]⟩)) (Turns.kp (S' := ⟨[], [(0, .raw [.own .t_workflowref50_File 100, .I p1, .I p2, .B p3, .B true]), (1, .lst .t_workflowref50_File p4), (100, .lst .t_workflowref50_File x21400)]⟩))) ?_
  obtain rfl := Option.some.inj h
  exact en (.tup [])
theorem workflowref50_Disk_cut_v3.okE {K : Nat} {p0 : List UInt8} {p1 : Int} {p2 : Int} {p3 : Bool} {p4 : List workflowref50_File} {r : (List workflowref50_File) × (List workflowref50_File)} (h : workflowref50_Disk_cut_v3 K p0 p1 p2 p3 p4 = some r) : ECall V P 56 [.P 0, .cv (.str p0)] [(0, .raw [.own .t_workflowref50_File 1, .I p1, .I p2, .B p3, .B true]), (1, .lst .t_workflowref50_File p4)] [0, 1] (.tup []) [(0, .raw [.own .t_workflowref50_File 100, .I p1, .I p2, .B p3, .B true]), (1, .lst .t_workflowref50_File r.1), (100, .lst .t_workflowref50_File r.2)] :=
 eo (fn := Try.f56) (n := 39) (m := 100) fun Γ => workflowref50_Disk_cut_v3.body h
end Go.Proofs.Ytegkigdobekgjaa
