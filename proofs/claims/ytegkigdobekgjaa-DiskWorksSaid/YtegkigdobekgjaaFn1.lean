/- What functions of the program compute, as Lean functions, and that they compute it. -/
import Derived.Test.YtegkigdobekgjaaSvc
set_option linter.unusedVariables false
set_option maxHeartbeats 0
namespace Go.Proofs.Ytegkigdobekgjaa
open Eng
def slices_Clone_26 (K : Nat) (p0 : List UInt8) : Option (List UInt8) := if p0.length * 1 ≤ 140737488355328 then some p0 else none
theorem slices_Clone_26.body {Γ : Ent} {K : Nat} {p0 : List UInt8} {r : List UInt8} (h : slices_Clone_26 K p0 = some r) : AWp V P 8 0 Γ (Try.f26.body.getD .skip) (EndsF P V Try.f26 Tag.t_uint8 r) ⟨args0 0 [.cv (.ro .t_uint8 p0)], []⟩ := by
 unfold slices_Clone_26 at h
 obtain ⟨g, h⟩ := guard_some h
 cases h
 refine awp_nilsplit 0 (tg := Tag.t_uint8) (xs := p0) (by kernel_rfl) (fun cap hx => ?_) ?_
 ·subst hx
  refine kp (S' := ⟨[(0, .cv (.lit (.slice none 0 cap)))], []⟩) ?_
  refine sr0 L 0 [] [] [] (S' := ⟨[(0, .cv (.lit (.slice none 0 cap))), (2, .cv (.lit (.slice none 0 0)))], []⟩) ?_
  refine awp_seq ?_
  refine sr0 L 10 [] [] [] (S' := ⟨[(4, .cv (.lit (.bool true)))], []⟩) ?_
  refine tt (b := true) rfl ?_
  refine sr0 L 20 [] [] [] (S' := ⟨[(2, .cv (.lit (.slice none 0 0)))], []⟩) ?_
  refine awp_ret ?_
  exact ⟨.inr rfl, .inl ⟨by kernel_rfl, rfl⟩⟩
 ·refine kp (S' := ⟨[(0, .cv (.ron .t_uint8 p0))], []⟩) ?_
  refine sr0 L 0 [] [] [] (S' := ⟨[(0, .cv (.ron .t_uint8 p0))], []⟩) ?_
  refine awp_seq ?_
  refine sr0 L 10 [] [] [] (S' := ⟨[(0, .cv (.ron .t_uint8 p0)), (4, .cv (.lit (.bool false)))], []⟩) ?_
  refine ff (b := false) rfl ?_
  refine sk (S' := ⟨[(0, .cv (.ron .t_uint8 p0))], []⟩) ?_
  refine sr L 30 [] [] [] (cs := [(([] : List UInt8).length + p0.length) * 1 ≤ 140737488355328, True]) (S' := ⟨[(2, .cv (.own .t_uint8 30))], [(30, .lst .t_uint8 p0)]⟩) (And.intro (by simpa using g) trivial) ?_
  refine awp_ret ?_
  exact ⟨.inr rfl, .inr ⟨30, by kernel_rfl, by kernel_rfl⟩⟩
theorem slices_Clone_26.okF {K : Nat} {p0 : List UInt8} {r : List UInt8} (h : slices_Clone_26 K p0 = some r) : FCall V P 26 [.cv (.ro .t_uint8 p0)] Tag.t_uint8 r :=
 fcall_of (fn := Try.f26) (n := 8) (by kernel_rfl) (by kernel_rfl) (by kernel_rfl) rfl (by kernel_rfl) (by kernel_rfl) fun Γ => slices_Clone_26.body h
theorem slices_Clone_26.ok {K : Nat} {p0 : List UInt8} {r : List UInt8} (h : slices_Clone_26 K p0 = some r) : PCall V P 26 [.cv (.ro .t_uint8 p0)] (.cv (.ro .t_uint8 r)) := (slices_Clone_26.okF h).pcall
def disk_New (K : Nat) (p0 : Int) : Option (Unit ⊕ Unit) := (if p0 < 0 then some (Sum.inl ()) else (if p0 > 4194304 then some (Sum.inl ()) else some (Sum.inr ())))
def disk_New.rep (p0 : Int) : Unit ⊕ Unit → AV T
 | (Sum.inl ()) => .tup [.cv (.lit (.pointer none)), .I 2]
 | (Sum.inr ()) => .tup [.P 100, .I 0]
def disk_New.post (p0 : Int) : Unit ⊕ Unit → List (Nat × Blk T)
 | (Sum.inl ()) => []
 | (Sum.inr ()) => [(100, .raw [.B true, .I p0, .mp 101, .B false, .B false, .I 0]), (101, .mpb .t_disk_file ([] : List (List UInt8 × disk_file)))]
theorem disk_New.body {Γ : Ent} {K : Nat} {p0 : Int} {r : Unit ⊕ Unit} (h : disk_New K p0 = some r) : AWp V P 14 100 Γ (Try.f8.body.getD .skip) (EndsE P V Try.f8 (disk_New.rep p0 r) (disk_New.post p0 r)) ⟨args0 0 [.I p0], []⟩ := by
 unfold disk_New at h
 refine sr0 L 200 [] [] [] (S' := ⟨[(0, .I p0)], []⟩) ?_
 refine awp_seq ?_
 refine awp_seq ?_
 rcases ite_some h with ⟨c1, h⟩ | ⟨c1, h⟩
 ·refine ar L 203 [(2, true)] [] [] (cs := [(decide (p0 < 0)) = true]) (S' := ⟨[(0, .I p0), (9, .B true)], []⟩) (decide_eq_true c1) ?_
  refine tt (b := true) (rfl) ?_
  refine sr0 L 210 [] [] [] (S' := ⟨[(2, .cv (.lit (.pointer none))), (3, .I 2)], []⟩) ?_
  refine awp_ret ?_
  obtain rfl := Option.some.inj h
  exact er (.tup [.cv (.lit (.pointer none)), .I 2])
 refine ar L 203 [(2, false)] [] [] (cs := [(decide (p0 < 0)) = false]) (S' := ⟨[(0, .I p0), (9, .B (decide (p0 > 4194304)))], []⟩) (decide_eq_false c1) ?_
 rcases ite_some h with ⟨c2, h⟩ | ⟨c2, h⟩
 ·refine tt (b := (decide (p0 > 4194304))) (decide_eq_true c2) ?_
  refine sr0 L 210 [] [] [] (S' := ⟨[(2, .cv (.lit (.pointer none))), (3, .I 2)], []⟩) ?_
  refine awp_ret ?_
  obtain rfl := Option.some.inj h
  exact er (.tup [.cv (.lit (.pointer none)), .I 2])
 refine ff (b := (decide (p0 > 4194304))) (decide_eq_false c2) ?_
 refine awp_skip' ?_
 refine sr0 L 213 [] [] [] (S' := ⟨[(2, .P 216), (3, .I 0)], [(214, .mpb .t_disk_file ([] : List (List UInt8 × disk_file))), (216, .raw [.B true, .I p0, .mp 214, .B false, .B false, .I 0])]⟩) ?_
 refine awp_turn (Turns.rn [(214, 101), (216, 100)] (S' := ⟨[(2, .P 100), (3, .I 0)], [(101, .mpb .t_disk_file ([] : List (List UInt8 × disk_file))), (100, .raw [.B true, .I p0, .mp 101, .B false, .B false, .I 0])]⟩)) ?_
 refine awp_ret ?_
 obtain rfl := Option.some.inj h
 exact er (.tup [.P 100, .I 0])
theorem disk_New.okE {K : Nat} {p0 : Int} {r : Unit ⊕ Unit} (h : disk_New K p0 = some r) : ECall V P 8 [.I p0] [] [] (disk_New.rep p0 r) (disk_New.post p0 r) :=
 eo (fn := Try.f8) (n := 14) (m := 100) fun Γ => disk_New.body h
def disk_Disk_ok (K : Nat) (p0 : Int) (p1 : List (List UInt8 × disk_file)) (p2 : Bool) (p3 : Bool) (p4 : Int) : Option Unit := some ()
theorem disk_Disk_ok.body {Γ : Ent} {K : Nat} {p0 : Int} {p1 : List (List UInt8 × disk_file)} {p2 : Bool} {p3 : Bool} {p4 : Int} {r : Unit} (h : disk_Disk_ok K p0 p1 p2 p3 p4 = some r) : AWp V P 11 100 Γ (Try.f25.body.getD .skip) (EndsE P V Try.f25 (.B true) []) ⟨args0 0 [.cv (.pcs [.B true, .I p0, .rom .t_disk_file p1, .B p2, .B p3, .I p4] 0)], []⟩ := by
 unfold disk_Disk_ok at h
 refine sr0 L 200 [] [] [] (S' := ⟨[(0, .cv (.pcs [.B true, .I p0, .rom .t_disk_file p1, .B p2, .B p3, .I p4] 0))], []⟩) ?_
 refine sr0 L 202 [] [] [] (S' := ⟨[(2, .B true)], []⟩) ?_
 refine awp_ret ?_
 obtain rfl := Option.some.inj h
 exact er (.B true)
theorem disk_Disk_ok.ok {K : Nat} {p0 : Int} {p1 : List (List UInt8 × disk_file)} {p2 : Bool} {p3 : Bool} {p4 : Int} {r : Unit} (h : disk_Disk_ok K p0 p1 p2 p3 p4 = some r) : PCall V P 25 [.cv (.pcs [.B true, .I p0, .rom .t_disk_file p1, .B p2, .B p3, .I p4] 0)] (.B true) := ECall.pcall (eo (fn := Try.f25) (n := 11) (m := 100) fun Γ => disk_Disk_ok.body h) (by kernel_rfl)
def disk_Disk_working (K : Nat) (p0 : Int) (p1 : List (List UInt8 × disk_file)) (p2 : Bool) (p3 : Bool) (p4 : Int) : Option Int := (Option.bind (disk_Disk_ok K p0 p1 p2 p3 p4) (fun _ => (if p2 = true then some 28 else some 0)))
theorem disk_Disk_working.body {Γ : Ent} {K : Nat} {p0 : Int} {p1 : List (List UInt8 × disk_file)} {p2 : Bool} {p3 : Bool} {p4 : Int} {r : Int} (h : disk_Disk_working K p0 p1 p2 p3 p4 = some r) : AWp V P 12 100 Γ (Try.f24.body.getD .skip) (EndsE P V Try.f24 (.I r) []) ⟨args0 0 [.cv (.pcs [.B true, .I p0, .rom .t_disk_file p1, .B p2, .B p3, .I p4] 0)], []⟩ := by
 unfold disk_Disk_working at h
 refine sr0 L 200 [] [] [] (S' := ⟨[(0, .cv (.pcs [.B true, .I p0, .rom .t_disk_file p1, .B p2, .B p3, .I p4] 0))], []⟩) ?_
 refine awp_seq ?_
 refine awp_block ?_
 refine awp_seq ?_
 obtain ⟨⟨⟩, h1, h⟩ := bind_some h
 refine ar L 202 [] [(1, .B true)] [] (cs := [PCall V P 25 [.cv (.pcs [.B true, .I p0, .rom .t_disk_file p1, .B p2, .B p3, .I p4] 0)] (.B true), True]) (S' := ⟨[(0, .cv (.pcs [.B true, .I p0, .rom .t_disk_file p1, .B p2, .B p3, .I p4] 0)), (3, .B false)], []⟩) (And.intro (disk_Disk_ok.ok h1) trivial) ?_
 refine ff (b := false) (rfl) ?_
 refine sr0 L 209 [] [] [] (S' := ⟨[(7, .B p2)], []⟩) ?_
 rcases ite_some h with ⟨c1, h⟩ | ⟨c1, h⟩
 ·refine tt (b := p2) (c1) ?_
  refine sr0 L 215 [] [] [] (S' := ⟨[(2, .I 28)], []⟩) ?_
  refine awp_ret ?_
  obtain rfl := Option.some.inj h
  exact er (.I 28)
 refine ff (b := p2) (eq_false_of_ne_true c1) ?_
 refine awp_skip' ?_
 refine sr0 L 217 [] [] [] (S' := ⟨[(2, .I 0)], []⟩) ?_
 refine awp_ret ?_
 obtain rfl := Option.some.inj h
 exact er (.I 0)
theorem disk_Disk_working.ok {K : Nat} {p0 : Int} {p1 : List (List UInt8 × disk_file)} {p2 : Bool} {p3 : Bool} {p4 : Int} {r : Int} (h : disk_Disk_working K p0 p1 p2 p3 p4 = some r) : PCall V P 24 [.cv (.pcs [.B true, .I p0, .rom .t_disk_file p1, .B p2, .B p3, .I p4] 0)] (.I r) := ECall.pcall (eo (fn := Try.f24) (n := 12) (m := 100) fun Γ => disk_Disk_working.body h) (by kernel_rfl)
def disk_Disk_named.l17 (K : Nat) (p5 : List (List UInt8)) : Nat → Int → Option (Out Int Unit)
 | 0, _ => none
 | k + 1, xt15_17h => (if xt15_17h < (p5.length : Int) then (if (0 : Int) ≤ xt15_17h ∧ (xt15_17h : Int) < (p5.length : Int) then (if (p5.getD (Int.toNat xt15_17h) ([] : List UInt8)) = ([] : List UInt8) then some (Out.done 8) else (if ((p5.getD (Int.toNat xt15_17h) ([] : List UInt8)).length : Int) > 64 then some (Out.done 8) else disk_Disk_named.l17 K p5 k (IntKind.i64.wrap (xt15_17h + 1)))) else none) else some (Out.go ()))
def disk_Disk_named (K : Nat) (p0 : Int) (p1 : List (List UInt8 × disk_file)) (p2 : Bool) (p3 : Bool) (p4 : Int) (p5 : List (List UInt8)) : Option Int := (Option.bind (disk_Disk_working K p0 p1 p2 p3 p4) (fun a1 => (if a1 ≠ 0 then some a1 else (obind (disk_Disk_named.l17 K p5 K 0 : Option (Out Int Unit)) (fun r => r) (fun _ => some 0)))))
theorem disk_Disk_named.body {Γ : Ent} {K : Nat} {p0 : Int} {p1 : List (List UInt8 × disk_file)} {p2 : Bool} {p3 : Bool} {p4 : Int} {p5 : List (List UInt8)} {r : Int} (h : disk_Disk_named K p0 p1 p2 p3 p4 p5 = some r) : AWp V P 27 100 Γ (Try.f27.body.getD .skip) (EndsE P V Try.f27 (.I r) []) ⟨args0 0 [.cv (.pcs [.B true, .I p0, .rom .t_disk_file p1, .B p2, .B p3, .I p4] 0), .cv (.ro .t_string p5)], []⟩ := by
 unfold disk_Disk_named at h
 refine sr0 L 200 [] [] [] (S' := ⟨[(0, .cv (.pcs [.B true, .I p0, .rom .t_disk_file p1, .B p2, .B p3, .I p4] 0)), (1, .cv (.ro .t_string p5))], []⟩) ?_
 refine awp_seq ?_
 refine awp_seq ?_
 obtain ⟨a1, h1, h⟩ := bind_some h
 refine ar L 202 [] [(1, .I a1)] [] (cs := [PCall V P 24 [.cv (.pcs [.B true, .I p0, .rom .t_disk_file p1, .B p2, .B p3, .I p4] 0)] (.I a1), True]) (S' := ⟨[(1, .cv (.ro .t_string p5)), (5, .I a1)], []⟩) (And.intro (disk_Disk_working.ok h1) trivial) ?_
 refine sr0 L 206 [] [] [] (S' := ⟨[(1, .cv (.ro .t_string p5)), (5, .I a1), (11, .B (decide (a1 ≠ 0)))], []⟩) ?_
 rcases ite_some h with ⟨c1, h⟩ | ⟨c1, h⟩
 ·refine tt (b := (decide (a1 ≠ 0))) (decide_eq_true c1) ?_
  refine sr0 L 209 [] [] [] (S' := ⟨[(4, .I a1)], []⟩) ?_
  refine awp_ret ?_
  obtain rfl := Option.some.inj h
  exact er (.I a1)
 refine ff (b := (decide (a1 ≠ 0))) (decide_eq_false c1) ?_
 refine awp_skip' ?_
 refine awp_seq ?_
 refine sr0 L 212 [] [] [] (S' := ⟨[(13, .cv (.ro .t_string p5)), (14, .I (p5.length : Int)), (15, .I 0)], []⟩) ?_
 refine awp_block ?_
 refine kp (S' := ⟨[(13, .cv (.ro .t_string p5)), (14, .I (p5.length : Int)), (15, .I 0)], []⟩) ?_
 obtain ⟨o1, hp1, h⟩ := obind_some h
 refine awp_conseq (Q' := fun e S => (e = .exit 0 ∧ S = ⟨[], []⟩ ∧ Out.go () = o1) ∨ (e = .ret ∧ ∃ a, Out.done a = o1 ∧ EndsE P V Try.f27 (.I a) [] .ret S)) (awp_loop (fun k S => ∃ xt15_17h : Int, S = ⟨[(13, .cv (.ro .t_string p5)), (14, .I (p5.length : Int)), (15, .I xt15_17h)], []⟩ ∧ disk_Disk_named.l17 K p5 k xt15_17h = some o1) ?_ ⟨_, rfl, hp1⟩) ?_
 ·clear h hp1
  intro k S hS
  obtain ⟨xt15_17h, rfl, h⟩ := hS
  cases k with
  | zero => cases h
  | succ k =>
  unfold disk_Disk_named.l17 at h
  refine sr0 L 216 [] [] [] (S' := ⟨[(13, .cv (.ro .t_string p5)), (14, .I (p5.length : Int)), (15, .I xt15_17h), (16, .B (decide (xt15_17h < (p5.length : Int))))], []⟩) ?_
  refine awp_seq ?_
  rcases ite_some h with ⟨c2, h⟩ | ⟨c2, h⟩
  ·refine tt (b := (decide (xt15_17h < (p5.length : Int)))) (decide_eq_true c2) ?_
   refine awp_skip' ?_
   refine awp_seq ?_
   refine awp_block ?_
   refine awp_seq ?_
   obtain ⟨g1, h⟩ := guard_some h
   refine ar L 218 [] [] [] (cs := [(0 : Int) ≤ xt15_17h, (xt15_17h : Int) < (p5.length : Int)]) (S' := ⟨[(7, .cv (.str (p5.getD (Int.toNat xt15_17h) ([] : List UInt8)))), (13, .cv (.ro .t_string p5)), (14, .I (p5.length : Int)), (15, .I xt15_17h)], []⟩) (And.intro g1.1 g1.2) ?_
   refine awp_seq ?_
   rcases ite_some h with ⟨c3, h⟩ | ⟨c3, h⟩
   ·refine ar L 222 [(2, true)] [] [] (cs := [(decide ((p5.getD (Int.toNat xt15_17h) ([] : List UInt8)) = ([] : List UInt8))) = true]) (S' := ⟨[(13, .cv (.ro .t_string p5)), (14, .I (p5.length : Int)), (15, .I xt15_17h), (25, .B true)], []⟩) (decide_eq_true c3) ?_
    refine tt (b := true) (rfl) ?_
    refine sr0 L 230 [] [] [] (S' := ⟨[(4, .I 8)], []⟩) ?_
    refine awp_ret ?_
    obtain rfl := Option.some.inj h
    exact .inr ⟨rfl, _, rfl, er (.I 8)⟩
   refine ar L 222 [(2, false)] [] [] (cs := [(decide ((p5.getD (Int.toNat xt15_17h) ([] : List UInt8)) = ([] : List UInt8))) = false]) (S' := ⟨[(13, .cv (.ro .t_string p5)), (14, .I (p5.length : Int)), (15, .I xt15_17h), (25, .B (decide (((p5.getD (Int.toNat xt15_17h) ([] : List UInt8)).length : Int) > 64)))], []⟩) (decide_eq_false c3) ?_
   rcases ite_some h with ⟨c4, h⟩ | ⟨c4, h⟩
   ·refine tt (b := (decide (((p5.getD (Int.toNat xt15_17h) ([] : List UInt8)).length : Int) > 64))) (decide_eq_true c4) ?_
    refine sr0 L 230 [] [] [] (S' := ⟨[(4, .I 8)], []⟩) ?_
    refine awp_ret ?_
    obtain rfl := Option.some.inj h
    exact .inr ⟨rfl, _, rfl, er (.I 8)⟩
   refine ff (b := (decide (((p5.getD (Int.toNat xt15_17h) ([] : List UInt8)).length : Int) > 64))) (decide_eq_false c4) ?_
   refine awp_skip' ?_
   refine ar0 L 232 [] [] [] (S' := ⟨[(13, .cv (.ro .t_string p5)), (14, .I (p5.length : Int)), (15, .I (IntKind.i64.wrap (xt15_17h + 1)))], []⟩) ?_
   exact ⟨k, Nat.lt_succ_self k, _, rfl, h⟩
  refine ff (b := (decide (xt15_17h < (p5.length : Int)))) (decide_eq_false c2) ?_
  refine ex (S' := ⟨[], []⟩) ?_
  obtain rfl := Option.some.inj h
  exact .inl ⟨rfl, rfl, rfl⟩
 ·rintro e S (⟨rfl, rfl, rfl⟩ | ⟨rfl, a, rfl, hr⟩)
  ·rcases h with ⟨_, e1, h⟩ | ⟨_, e1, h⟩
   ·cases e1
   ·have e2 := Out.go.inj e1
    subst e2
    refine ⟨_, Turns.refl, ?_⟩
    refine sr0 L 235 [] [] [] (S' := ⟨[(4, .I 0)], []⟩) ?_
    refine awp_ret ?_
    obtain rfl := Option.some.inj h
    exact er (.I 0)
  ·rcases h with ⟨_, e1, h⟩ | ⟨_, e1, h⟩
   ·have e2 := Out.done.inj e1
    subst e2
    subst h
    exact ⟨_, Turns.refl, hr⟩
   ·cases e1
theorem disk_Disk_named.ok {K : Nat} {p0 : Int} {p1 : List (List UInt8 × disk_file)} {p2 : Bool} {p3 : Bool} {p4 : Int} {p5 : List (List UInt8)} {r : Int} (h : disk_Disk_named K p0 p1 p2 p3 p4 p5 = some r) : PCall V P 27 [.cv (.pcs [.B true, .I p0, .rom .t_disk_file p1, .B p2, .B p3, .I p4] 0), .cv (.ro .t_string p5)] (.I r) := ECall.pcall (eo (fn := Try.f27) (n := 27) (m := 100) fun Γ => disk_Disk_named.body h) (by kernel_rfl)
def disk_Disk_Used.l17 (K : Nat) : List UInt8 × disk_file → Int → Option Int
 | xtp_17, xt3_17h => some (IntKind.i64.wrap (xt3_17h + (xtp_17.2.bytes.length : Int)))
theorem disk_Disk_Used.l17.comm (K : Nat) : MComm (disk_Disk_Used.l17 K) (fun _ => True) := ⟨fun _ _ _ _ _ => trivial, fun p q s _ _ => by unfold disk_Disk_Used.l17; simp only [Option.bind_some, Option.some.injEq, wrap64]; omega⟩
def disk_Disk_Used (K : Nat) (p0 : Int) (p1 : List (List UInt8 × disk_file)) (p2 : Bool) (p3 : Bool) (p4 : Int) : Option Int := (Option.bind (disk_Disk_ok K p0 p1 p2 p3 p4) (fun _ => (Option.bind (Option.bind (mfold (disk_Disk_Used.l17 K) p1 0) (fun xt3_17h => some xt3_17h) : Option Int) (fun xt3_17 => some xt3_17))))
theorem disk_Disk_Used.body {Γ : Ent} {K : Nat} {p0 : Int} {p1 : List (List UInt8 × disk_file)} {p2 : Bool} {p3 : Bool} {p4 : Int} {r : Int} (h : disk_Disk_Used K p0 p1 p2 p3 p4 = some r) : AWp V P 24 100 Γ (Try.f14.body.getD .skip) (EndsE P V Try.f14 (.I r) []) ⟨args0 0 [.cv (.pcs [.B true, .I p0, .rom .t_disk_file p1, .B p2, .B p3, .I p4] 0)], []⟩ := by
 unfold disk_Disk_Used at h
 refine sr0 L 200 [] [] [] (S' := ⟨[(0, .cv (.pcs [.B true, .I p0, .rom .t_disk_file p1, .B p2, .B p3, .I p4] 0))], []⟩) ?_
 refine awp_seq ?_
 refine awp_seq ?_
 obtain ⟨⟨⟩, h1, h⟩ := bind_some h
 refine ar L 202 [] [(1, .B true)] [] (cs := [PCall V P 25 [.cv (.pcs [.B true, .I p0, .rom .t_disk_file p1, .B p2, .B p3, .I p4] 0)] (.B true), True]) (S' := ⟨[(0, .cv (.pcs [.B true, .I p0, .rom .t_disk_file p1, .B p2, .B p3, .I p4] 0)), (8, .B false)], []⟩) (And.intro (disk_Disk_ok.ok h1) trivial) ?_
 refine ff (b := false) (rfl) ?_
 refine awp_skip' ?_
 refine sr0 L 208 [] [] [] (S' := ⟨[(0, .cv (.pcs [.B true, .I p0, .rom .t_disk_file p1, .B p2, .B p3, .I p4] 0)), (3, .I 0)], []⟩) ?_
 refine awp_seq ?_
 refine sr0 L 210 [] [] [] (S' := ⟨[(3, .I 0), (13, .P 214)], [(214, .itr .t_disk_file p1 none)]⟩) ?_
 refine awp_block ?_
 refine awp_turn (Turns.trans (Turns.kp (S' := ⟨[(3, .I 0), (13, .P 214)], [(214, .itr .t_disk_file p1 none)]⟩)) (Turns.rn [(214, 23500)] (S' := ⟨[(3, .I 0), (13, .P 23500)], [(23500, .itr .t_disk_file p1 none)]⟩))) ?_
 refine kp (S' := ⟨[(3, .I 0), (13, .P 23500)], [(23500, .itr .t_disk_file p1 none)]⟩) ?_
 obtain ⟨o1, hp1, h⟩ := bind_some h
 obtain ⟨r0, hm0, ho⟩ := bind_some hp1
 refine awp_map 23500 (tg := Tag.t_disk_file) (es := p1) (cur := none) (by kernel_rfl) (fun hnd0 => ?_)
 refine awp_conseq (Q' := fun e S => (e = .exit 0 ∧ ∃ xt3_17 : Int, S = ⟨[(3, .I xt3_17)], []⟩ ∧ xt3_17 = o1)) (awp_loop (fun k S => ∃ xtl_17 : List (List UInt8 × disk_file), ∃ xt3_17h : Int, S = ⟨[(3, .I xt3_17h), (13, .P 23500)], [(23500, .itr .t_disk_file xtl_17 none)]⟩ ∧ k = xtl_17.length ∧ (xtl_17.map (·.1)).Nodup ∧ (fun _ => True) xt3_17h ∧ mfold (disk_Disk_Used.l17 K) xtl_17 xt3_17h = some r0) ?_ ⟨_, _, rfl, rfl, hnd0, trivial, hm0⟩) ?_
 ·clear h hp1
  intro k S hS
  obtain ⟨xtl_17, xt3_17h, rfl, rfl, hnd, hI, h⟩ := hS
  refine awp_seq ?_
  refine an (x := .tmp 13) (d1 := 14) (d2 := 15) (it := 23500) (tg := Tag.t_disk_file) (left := xtl_17) (cur := none) ⟨[(3, .I xt3_17h), (13, .P 23500), (15, .B false)], [(23500, .itr .t_disk_file xtl_17 none)]⟩ (fun xtp_17 xtl_17 => ⟨[(3, .I xt3_17h), (13, .P 23500), (15, .B true)], [(23500, .itr .t_disk_file xtl_17 (some xtp_17))]⟩) (fun hn => ?_) (fun xtp_17 xtl_17 hp => ?_)
  ·subst hn
   obtain rfl := Option.some.inj h
   replace h := ho
   refine awp_seq ?_
   refine ff (b := false) (rfl) ?_
   refine ex (S' := ⟨[(3, .I xt3_17h)], []⟩) ?_
   obtain rfl := Option.some.inj h
   exact ⟨rfl, _, rfl, rfl⟩
  obtain ⟨s1, h, hm, hI, hnd, hlt⟩ := mfold_round (disk_Disk_Used.l17.comm K) hp hnd hI h
  unfold disk_Disk_Used.l17 at h
  refine awp_seq ?_
  refine tt (b := true) (rfl) ?_
  refine awp_skip' ?_
  refine awp_block ?_
  refine sr0 L 219 [] [] [] (S' := ⟨[(3, .I xt3_17h), (5, .P 221), (13, .P 23500)], [(221, .raw [.ro .t_uint8 xtp_17.2.bytes, .I xtp_17.2.safe]), (23500, .itr .t_disk_file xtl_17 (some xtp_17))]⟩) ?_
  refine ar0 L 224 [] [] [] (S' := ⟨[(3, .I (IntKind.i64.wrap (xt3_17h + (xtp_17.2.bytes.length : Int)))), (13, .P 23500)], [(23500, .itr .t_disk_file xtl_17 none)]⟩) ?_
  obtain rfl := Option.some.inj h
  exact ⟨_, hlt, xtl_17, _, rfl, rfl, hnd, hI, hm⟩
 ·rintro e S ⟨rfl, xt3_17, rfl, rfl⟩
  refine ⟨_, Turns.refl, ?_⟩
  refine sr0 L 231 [] [] [] (S' := ⟨[(2, .I xt3_17)], []⟩) ?_
  refine awp_ret ?_
  obtain rfl := Option.some.inj h
  exact er (.I xt3_17)
theorem disk_Disk_Used.ok {K : Nat} {p0 : Int} {p1 : List (List UInt8 × disk_file)} {p2 : Bool} {p3 : Bool} {p4 : Int} {r : Int} (h : disk_Disk_Used K p0 p1 p2 p3 p4 = some r) : PCall V P 14 [.cv (.pcs [.B true, .I p0, .rom .t_disk_file p1, .B p2, .B p3, .I p4] 0)] (.I r) := ECall.pcall (eo (fn := Try.f14) (n := 24) (m := 100) fun Γ => disk_Disk_Used.body h) (by kernel_rfl)
def disk_Disk_Append_c1 (K : Nat) (p0 : List UInt8) (p1 : List UInt8) (p2 : Int) (p3 : Bool) (p4 : Bool) (p5 : Int) (p6 : List (List UInt8 × disk_file)) : Option ((List UInt8) × (List UInt8) × (List (List UInt8 × disk_file))) := (if (((mfind p0 p6).getD z_disk_file).bytes).length * 1 ≤ 140737488355328 then (if ((((mfind p0 p6).getD z_disk_file).bytes).length + p1.length) * 1 ≤ 140737488355328 then some ((p0, p1, (mput p0 (⟨(((mfind p0 p6).getD z_disk_file).bytes ++ p1), ((mfind p0 p6).getD z_disk_file).safe⟩ : disk_file) p6))) else none) else none)
theorem disk_Disk_Append_c1.body {Γ : Ent} {K : Nat} {p0 : List UInt8} {p1 : List UInt8} {p2 : Int} {p3 : Bool} {p4 : Bool} {p5 : Int} {p6 : List (List UInt8 × disk_file)} {r : (List UInt8) × (List UInt8) × (List (List UInt8 × disk_file))} (h : disk_Disk_Append_c1 K p0 p1 p2 p3 p4 p5 p6 = some r) : AWp V P 22 100 Γ (Try.f29.body.getD .skip) (EndsE P V Try.f29 (.tup []) [(0, .raw [.P 3]), (1, .raw [.str r.1]), (2, .raw [.ro .t_uint8 r.2.1]), (3, .raw [.B true, .I p2, .mp 4, .B p3, .B p4, .I p5]), (4, .mpb .t_disk_file r.2.2)]) ⟨args0 0 [.P 0, .P 1, .P 2], [(0, .raw [.P 3]), (1, .raw [.str p0]), (2, .raw [.ro .t_uint8 p1]), (3, .raw [.B true, .I p2, .mp 4, .B p3, .B p4, .I p5]), (4, .mpb .t_disk_file p6)]⟩ := by
 unfold disk_Disk_Append_c1 at h
 refine sd L mixed 200 [] [] [] [206] 8 (cs := []) (S' := ⟨[(0, .P 0), (1, .P 1), (2, .P 2), (3, .P 206)], [(0, .raw [.P 3]), (1, .raw [.str p0]), (2, .raw [.ro .t_uint8 p1]), (3, .raw [.B true, .I p2, .mp 4, .B p3, .B p4, .I p5]), (4, .mpb .t_disk_file p6), (206, .raw (d_disk_file ((mfind p0 p6).getD z_disk_file)))]⟩) trivial ?_
 refine awp_seq ?_
 obtain ⟨g1, h⟩ := guard_some h
 obtain ⟨g2, h⟩ := guard_some h
 refine ad L mixed 209 [] [(2, .cv (.ron .t_uint8 (((mfind p0 p6).getD z_disk_file).bytes)))] [] [] 4 (cs := [FCall V P 26 [.cv (.ro .t_uint8 (((mfind p0 p6).getD z_disk_file).bytes))] Tag.t_uint8 (((mfind p0 p6).getD z_disk_file).bytes), ((((mfind p0 p6).getD z_disk_file).bytes).length + p1.length) * 1 ≤ 140737488355328, True]) (S' := ⟨[(0, .P 0), (1, .P 1), (3, .P 206)], [(0, .raw [.P 3]), (1, .raw [.str p0]), (2, .raw [.ro .t_uint8 p1]), (3, .raw [.B true, .I p2, .mp 4, .B p3, .B p4, .I p5]), (4, .mpb .t_disk_file p6), (206, .raw [.own .t_uint8 211, .I (((mfind p0 p6).getD z_disk_file).safe)]), (211, .lst .t_uint8 (((mfind p0 p6).getD z_disk_file).bytes ++ p1))]⟩) (And.intro (slices_Clone_26.okF (show slices_Clone_26 0 (((mfind p0 p6).getD z_disk_file).bytes) = some (((mfind p0 p6).getD z_disk_file).bytes) from if_pos g1)) (And.intro g2 trivial)) ?_
 refine awp_turn (Turns.frz 211 (blk0 := .lst .t_uint8 (((mfind p0 p6).getD z_disk_file).bytes ++ p1)) (by kernel_rfl) (by kernel_rfl) (S' := ⟨[(0, .P 0), (1, .P 1), (3, .P 206)], [(0, .raw [.P 3]), (1, .raw [.str p0]), (2, .raw [.ro .t_uint8 p1]), (3, .raw [.B true, .I p2, .mp 4, .B p3, .B p4, .I p5]), (4, .mpb .t_disk_file p6), (206, .raw [.ro .t_uint8 (((mfind p0 p6).getD z_disk_file).bytes ++ p1), .I (((mfind p0 p6).getD z_disk_file).safe)])]⟩) (by kernel_rfl)) ?_
 refine ad L mixed 217 [] [] [] [] 6 (cs := [True]) (S' := ⟨[], [(0, .raw [.P 3]), (1, .raw [.str p0]), (2, .raw [.ro .t_uint8 p1]), (3, .raw [.B true, .I p2, .mp 4, .B p3, .B p4, .I p5]), (4, .mpb .t_disk_file (mput p0 (⟨(((mfind p0 p6).getD z_disk_file).bytes ++ p1), ((mfind p0 p6).getD z_disk_file).safe⟩ : disk_file) p6))]⟩) trivial ?_
 obtain rfl := Option.some.inj h
 exact en (.tup [])
theorem disk_Disk_Append_c1.okE {K : Nat} {p0 : List UInt8} {p1 : List UInt8} {p2 : Int} {p3 : Bool} {p4 : Bool} {p5 : Int} {p6 : List (List UInt8 × disk_file)} {r : (List UInt8) × (List UInt8) × (List (List UInt8 × disk_file))} (h : disk_Disk_Append_c1 K p0 p1 p2 p3 p4 p5 p6 = some r) : ECall V P 29 [.P 0, .P 1, .P 2] [(0, .raw [.P 3]), (1, .raw [.str p0]), (2, .raw [.ro .t_uint8 p1]), (3, .raw [.B true, .I p2, .mp 4, .B p3, .B p4, .I p5]), (4, .mpb .t_disk_file p6)] [0, 1, 2, 3, 4] (.tup []) [(0, .raw [.P 3]), (1, .raw [.str r.1]), (2, .raw [.ro .t_uint8 r.2.1]), (3, .raw [.B true, .I p2, .mp 4, .B p3, .B p4, .I p5]), (4, .mpb .t_disk_file r.2.2)] :=
 eo (fn := Try.f29) (n := 22) (m := 100) fun Γ => disk_Disk_Append_c1.body h
def disk_Disk_change_v3 (K : Nat) (p0 : Int) (p1 : Bool) (p2 : Bool) (p3 : Int) (p4 : List UInt8) (p5 : List UInt8) (p6 : List (List UInt8 × disk_file)) : Option (Int × Bool × Int × (List UInt8) × (List UInt8) × (List (List UInt8 × disk_file))) := (if p2 = true then (if p3 = 0 then some (28, true, p3, p4, p5, p6) else (Option.bind (disk_Disk_Append_c1 K p4 p5 p0 p1 p2 (IntKind.i64.wrap (p3 - 1)) p6) (fun (a1_0, a1_1, a1_2) => some (0, p1, (IntKind.i64.wrap (p3 - 1)), a1_0, a1_1, a1_2)))) else (Option.bind (disk_Disk_Append_c1 K p4 p5 p0 p1 p2 p3 p6) (fun (a2_0, a2_1, a2_2) => some (0, p1, p3, a2_0, a2_1, a2_2))))
theorem disk_Disk_change_v3.body {Γ : Ent} {K : Nat} {p0 : Int} {p1 : Bool} {p2 : Bool} {p3 : Int} {p4 : List UInt8} {p5 : List UInt8} {p6 : List (List UInt8 × disk_file)} {r : Int × Bool × Int × (List UInt8) × (List UInt8) × (List (List UInt8 × disk_file))} (h : disk_Disk_change_v3 K p0 p1 p2 p3 p4 p5 p6 = some r) : AWp V P 26 100 Γ (Try.f28.body.getD .skip) (EndsE P V Try.f28 (.I r.1) [(0, .raw [.B true, .I p0, .mp 4, .B r.2.1, .B p2, .I r.2.2.1]), (1, .raw [.P 0]), (2, .raw [.str r.2.2.2.1]), (3, .raw [.ro .t_uint8 r.2.2.2.2.1]), (4, .mpb .t_disk_file r.2.2.2.2.2)]) ⟨args0 0 [.P 0, .cv (.fn (.func 29) [] [.P 1, .P 2, .P 3])], [(0, .raw [.B true, .I p0, .mp 4, .B p1, .B p2, .I p3]), (1, .raw [.P 0]), (2, .raw [.str p4]), (3, .raw [.ro .t_uint8 p5]), (4, .mpb .t_disk_file p6)]⟩ := by
 unfold disk_Disk_change_v3 at h
 refine sr0 L 200 [] [] [] (S' := ⟨[(0, .P 0), (1, .cv (.fn (.func 29) [] [.P 1, .P 2, .P 3]))], [(0, .raw [.B true, .I p0, .mp 4, .B p1, .B p2, .I p3]), (1, .raw [.P 0]), (2, .raw [.str p4]), (3, .raw [.ro .t_uint8 p5]), (4, .mpb .t_disk_file p6)]⟩) ?_
 refine awp_seq ?_
 refine sr0 L 202 [] [] [] (S' := ⟨[(0, .P 0), (1, .cv (.fn (.func 29) [] [.P 1, .P 2, .P 3])), (8, .B p2)], [(0, .raw [.B true, .I p0, .mp 4, .B p1, .B p2, .I p3]), (1, .raw [.P 0]), (2, .raw [.str p4]), (3, .raw [.ro .t_uint8 p5]), (4, .mpb .t_disk_file p6)]⟩) ?_
 rcases ite_some h with ⟨c1, h⟩ | ⟨c1, h⟩
 ·refine tt (b := p2) (c1) ?_
  refine awp_seq ?_
  refine sr0 L 207 [] [] [] (S' := ⟨[(0, .P 0), (1, .cv (.fn (.func 29) [] [.P 1, .P 2, .P 3])), (13, .B (decide (p3 = 0)))], [(0, .raw [.B true, .I p0, .mp 4, .B p1, .B p2, .I p3]), (1, .raw [.P 0]), (2, .raw [.str p4]), (3, .raw [.ro .t_uint8 p5]), (4, .mpb .t_disk_file p6)]⟩) ?_
  rcases ite_some h with ⟨c2, h⟩ | ⟨c2, h⟩
  ·refine tt (b := (decide (p3 = 0))) (decide_eq_true c2) ?_
   refine sr0 L 213 [] [] [] (S' := ⟨[], [(0, .raw [.B true, .I p0, .mp 4, .B true, .B p2, .I p3]), (1, .raw [.P 0]), (2, .raw [.str p4]), (3, .raw [.ro .t_uint8 p5]), (4, .mpb .t_disk_file p6)]⟩) ?_
   refine sr0 L 218 [] [] [] (S' := ⟨[(4, .I 28)], [(0, .raw [.B true, .I p0, .mp 4, .B true, .B p2, .I p3]), (1, .raw [.P 0]), (2, .raw [.str p4]), (3, .raw [.ro .t_uint8 p5]), (4, .mpb .t_disk_file p6)]⟩) ?_
   refine awp_ret ?_
   obtain rfl := Option.some.inj h
   exact er (.I 28)
  refine ff (b := (decide (p3 = 0))) (decide_eq_false c2) ?_
  refine awp_skip' ?_
  refine ar0 L 220 [] [] [] (S' := ⟨[(1, .cv (.fn (.func 29) [] [.P 1, .P 2, .P 3]))], [(0, .raw [.B true, .I p0, .mp 4, .B p1, .B p2, .I (IntKind.i64.wrap (p3 - 1))]), (1, .raw [.P 0]), (2, .raw [.str p4]), (3, .raw [.ro .t_uint8 p5]), (4, .mpb .t_disk_file p6)]⟩) ?_
  refine awp_seq ?_
  obtain ⟨⟨a1_0, a1_1, a1_2⟩, h1, h⟩ := bind_some h
  dsimp only at h
  refine ar L 229 [] [] [(1, { hids := [0, 1, 2, 3, 4], fx := [0, 1, 2, 3, 4], r := .tup [], H' := [(0, .raw [.P 3]), (1, .raw [.str a1_0]), (2, .raw [.ro .t_uint8 a1_1]), (3, .raw [.B true, .I p0, .mp 4, .B p1, .B p2, .I (IntKind.i64.wrap (p3 - 1))]), (4, .mpb .t_disk_file a1_2)], σ := [(0, 1), (1, 2), (2, 3), (3, 0), (4, 4)] })] (cs := [ECall V P 29 [.P 0, .P 1, .P 2] [(0, .raw [.P 3]), (1, .raw [.str p4]), (2, .raw [.ro .t_uint8 p5]), (3, .raw [.B true, .I p0, .mp 4, .B p1, .B p2, .I (IntKind.i64.wrap (p3 - 1))]), (4, .mpb .t_disk_file p6)] [0, 1, 2, 3, 4] (.tup []) [(0, .raw [.P 3]), (1, .raw [.str a1_0]), (2, .raw [.ro .t_uint8 a1_1]), (3, .raw [.B true, .I p0, .mp 4, .B p1, .B p2, .I (IntKind.i64.wrap (p3 - 1))]), (4, .mpb .t_disk_file a1_2)]]) (S' := ⟨[], [(0, .raw [.B true, .I p0, .mp 4, .B p1, .B p2, .I (IntKind.i64.wrap (p3 - 1))]), (1, .raw [.P 0]), (2, .raw [.str a1_0]), (3, .raw [.ro .t_uint8 a1_1]), (4, .mpb .t_disk_file a1_2)]⟩) (disk_Disk_Append_c1.okE h1) ?_
  refine sr0 L 232 [] [] [] (S' := ⟨[(4, .I 0)], [(0, .raw [.B true, .I p0, .mp 4, .B p1, .B p2, .I (IntKind.i64.wrap (p3 - 1))]), (1, .raw [.P 0]), (2, .raw [.str a1_0]), (3, .raw [.ro .t_uint8 a1_1]), (4, .mpb .t_disk_file a1_2)]⟩) ?_
  refine awp_ret ?_
  obtain rfl := Option.some.inj h
  exact er (.I 0)
 refine ff (b := p2) (eq_false_of_ne_true c1) ?_
 refine awp_skip' ?_
 refine awp_seq ?_
 obtain ⟨⟨a2_0, a2_1, a2_2⟩, h2, h⟩ := bind_some h
 dsimp only at h
 refine ar L 229 [] [] [(1, { hids := [0, 1, 2, 3, 4], fx := [0, 1, 2, 3, 4], r := .tup [], H' := [(0, .raw [.P 3]), (1, .raw [.str a2_0]), (2, .raw [.ro .t_uint8 a2_1]), (3, .raw [.B true, .I p0, .mp 4, .B p1, .B p2, .I p3]), (4, .mpb .t_disk_file a2_2)], σ := [(0, 1), (1, 2), (2, 3), (3, 0), (4, 4)] })] (cs := [ECall V P 29 [.P 0, .P 1, .P 2] [(0, .raw [.P 3]), (1, .raw [.str p4]), (2, .raw [.ro .t_uint8 p5]), (3, .raw [.B true, .I p0, .mp 4, .B p1, .B p2, .I p3]), (4, .mpb .t_disk_file p6)] [0, 1, 2, 3, 4] (.tup []) [(0, .raw [.P 3]), (1, .raw [.str a2_0]), (2, .raw [.ro .t_uint8 a2_1]), (3, .raw [.B true, .I p0, .mp 4, .B p1, .B p2, .I p3]), (4, .mpb .t_disk_file a2_2)]]) (S' := ⟨[], [(0, .raw [.B true, .I p0, .mp 4, .B p1, .B p2, .I p3]), (1, .raw [.P 0]), (2, .raw [.str a2_0]), (3, .raw [.ro .t_uint8 a2_1]), (4, .mpb .t_disk_file a2_2)]⟩) (disk_Disk_Append_c1.okE h2) ?_
 refine sr0 L 232 [] [] [] (S' := ⟨[(4, .I 0)], [(0, .raw [.B true, .I p0, .mp 4, .B p1, .B p2, .I p3]), (1, .raw [.P 0]), (2, .raw [.str a2_0]), (3, .raw [.ro .t_uint8 a2_1]), (4, .mpb .t_disk_file a2_2)]⟩) ?_
 refine awp_ret ?_
 obtain rfl := Option.some.inj h
 exact er (.I 0)
theorem disk_Disk_change_v3.okE {K : Nat} {p0 : Int} {p1 : Bool} {p2 : Bool} {p3 : Int} {p4 : List UInt8} {p5 : List UInt8} {p6 : List (List UInt8 × disk_file)} {r : Int × Bool × Int × (List UInt8) × (List UInt8) × (List (List UInt8 × disk_file))} (h : disk_Disk_change_v3 K p0 p1 p2 p3 p4 p5 p6 = some r) : ECall V P 28 [.P 0, .cv (.fn (.func 29) [] [.P 1, .P 2, .P 3])] [(0, .raw [.B true, .I p0, .mp 4, .B p1, .B p2, .I p3]), (1, .raw [.P 0]), (2, .raw [.str p4]), (3, .raw [.ro .t_uint8 p5]), (4, .mpb .t_disk_file p6)] [0, 1, 2, 3, 4] (.I r.1) [(0, .raw [.B true, .I p0, .mp 4, .B r.2.1, .B p2, .I r.2.2.1]), (1, .raw [.P 0]), (2, .raw [.str r.2.2.2.1]), (3, .raw [.ro .t_uint8 r.2.2.2.2.1]), (4, .mpb .t_disk_file r.2.2.2.2.2)] :=
 eo (fn := Try.f28) (n := 26) (m := 100) fun Γ => disk_Disk_change_v3.body h
def disk_Disk_Append_v2 (K : Nat) (p0 : List UInt8) (p1 : List UInt8) (p2 : Int) (p3 : Bool) (p4 : Bool) (p5 : Int) (p6 : List (List UInt8 × disk_file)) : Option (Int × Bool × Int × (List (List UInt8 × disk_file))) := (Option.bind (disk_Disk_named K p2 p6 p3 p4 p5 ([p0] : List (List UInt8))) (fun a1 => (if a1 ≠ 0 then some (a1, p3, p5, p6) else (Option.bind (disk_Disk_Used K p2 p6 p3 p4 p5) (fun a2 => (if (p1.length : Int) > (IntKind.i64.wrap (p2 - a2)) then some (18, p3, p5, p6) else (Option.bind (disk_Disk_change_v3 K p2 p3 p4 p5 p0 p1 p6) (fun (a3_0, a3_1, a3_2, a3_3, a3_4, a3_5) => some (a3_0, a3_1, a3_2, a3_5)))))))))
theorem disk_Disk_Append_v2.body {Γ : Ent} {K : Nat} {p0 : List UInt8} {p1 : List UInt8} {p2 : Int} {p3 : Bool} {p4 : Bool} {p5 : Int} {p6 : List (List UInt8 × disk_file)} {r : Int × Bool × Int × (List (List UInt8 × disk_file))} (h : disk_Disk_Append_v2 K p0 p1 p2 p3 p4 p5 p6 = some r) : AWp V P 28 100 Γ (Try.f11.body.getD .skip) (EndsE P V Try.f11 (.I r.1) [(0, .raw [.B true, .I p2, .mp 1, .B r.2.1, .B p4, .I r.2.2.1]), (1, .mpb .t_disk_file r.2.2.2)]) ⟨args0 0 [.P 0, .cv (.str p0), .cv (.ro .t_uint8 p1)], [(0, .raw [.B true, .I p2, .mp 1, .B p3, .B p4, .I p5]), (1, .mpb .t_disk_file p6)]⟩ := by
 unfold disk_Disk_Append_v2 at h
 refine sr0 L 200 [] [] [] (S' := ⟨[(3, .P 200), (4, .P 201), (5, .P 202)], [(0, .raw [.B true, .I p2, .mp 1, .B p3, .B p4, .I p5]), (1, .mpb .t_disk_file p6), (200, .raw [.P 0]), (201, .raw [.str p0]), (202, .raw [.ro .t_uint8 p1])]⟩) ?_
 refine awp_seq ?_
 refine awp_seq ?_
 obtain ⟨a1, h1, h⟩ := bind_some h
 refine ar L 205 [] [(3, .I a1)] [] (cs := [PCall V P 27 [.cv (.pcs [.B true, .I p2, .rom .t_disk_file p6, .B p3, .B p4, .I p5] 0), .cv (.ro .t_string ([p0] : List (List UInt8)))] (.I a1), True]) (S' := ⟨[(3, .P 200), (4, .P 201), (5, .P 202), (7, .I a1)], [(0, .raw [.B true, .I p2, .mp 1, .B p3, .B p4, .I p5]), (1, .mpb .t_disk_file p6), (200, .raw [.P 0]), (201, .raw [.str p0]), (202, .raw [.ro .t_uint8 p1])]⟩) (And.intro (disk_Disk_named.ok h1) trivial) ?_
 refine sr0 L 211 [] [] [] (S' := ⟨[(3, .P 200), (4, .P 201), (5, .P 202), (7, .I a1), (13, .B (decide (a1 ≠ 0)))], [(0, .raw [.B true, .I p2, .mp 1, .B p3, .B p4, .I p5]), (1, .mpb .t_disk_file p6), (200, .raw [.P 0]), (201, .raw [.str p0]), (202, .raw [.ro .t_uint8 p1])]⟩) ?_
 rcases ite_some h with ⟨c1, h⟩ | ⟨c1, h⟩
 ·refine tt (b := (decide (a1 ≠ 0))) (decide_eq_true c1) ?_
  refine sr0 L 214 [] [] [] (S' := ⟨[(6, .I a1)], [(0, .raw [.B true, .I p2, .mp 1, .B p3, .B p4, .I p5]), (1, .mpb .t_disk_file p6)]⟩) ?_
  refine awp_ret ?_
  obtain rfl := Option.some.inj h
  exact er (.I a1)
 refine ff (b := (decide (a1 ≠ 0))) (decide_eq_false c1) ?_
 refine awp_skip' ?_
 refine awp_seq ?_
 refine awp_seq ?_
 obtain ⟨a2, h2, h⟩ := bind_some h
 refine ad L mixed 217 [] [(7, .I a2)] [] [] 10 (cs := [PCall V P 14 [.cv (.pcs [.B true, .I p2, .rom .t_disk_file p6, .B p3, .B p4, .I p5] 0)] (.I a2), True]) (S' := ⟨[(3, .P 200), (4, .P 201), (5, .P 202), (24, .B (decide ((p1.length : Int) > (IntKind.i64.wrap (p2 - a2)))))], [(0, .raw [.B true, .I p2, .mp 1, .B p3, .B p4, .I p5]), (1, .mpb .t_disk_file p6), (200, .raw [.P 0]), (201, .raw [.str p0]), (202, .raw [.ro .t_uint8 p1])]⟩) (And.intro (disk_Disk_Used.ok h2) trivial) ?_
 rcases ite_some h with ⟨c2, h⟩ | ⟨c2, h⟩
 ·refine tt (b := (decide ((p1.length : Int) > (IntKind.i64.wrap (p2 - a2))))) (decide_eq_true c2) ?_
  refine sr0 L 228 [] [] [] (S' := ⟨[(6, .I 18)], [(0, .raw [.B true, .I p2, .mp 1, .B p3, .B p4, .I p5]), (1, .mpb .t_disk_file p6)]⟩) ?_
  refine awp_ret ?_
  obtain rfl := Option.some.inj h
  exact er (.I 18)
 refine ff (b := (decide ((p1.length : Int) > (IntKind.i64.wrap (p2 - a2))))) (decide_eq_false c2) ?_
 refine awp_skip' ?_
 refine awp_seq ?_
 obtain ⟨⟨a3_0, a3_1, a3_2, a3_3, a3_4, a3_5⟩, h3, h⟩ := bind_some h
 dsimp only at h
 refine ar L 230 [] [] [(2, { hids := [0, 1, 2, 3, 4], fx := [0, 1, 2, 3, 4], r := .I a3_0, H' := [(0, .raw [.B true, .I p2, .mp 4, .B a3_1, .B p4, .I a3_2]), (1, .raw [.P 0]), (2, .raw [.str a3_3]), (3, .raw [.ro .t_uint8 a3_4]), (4, .mpb .t_disk_file a3_5)], σ := [(0, 0), (1, 200), (2, 201), (3, 202), (4, 1)] })] (cs := [ECall V P 28 [.P 0, .cv (.fn (.func 29) [] [.P 1, .P 2, .P 3])] [(0, .raw [.B true, .I p2, .mp 4, .B p3, .B p4, .I p5]), (1, .raw [.P 0]), (2, .raw [.str p0]), (3, .raw [.ro .t_uint8 p1]), (4, .mpb .t_disk_file p6)] [0, 1, 2, 3, 4] (.I a3_0) [(0, .raw [.B true, .I p2, .mp 4, .B a3_1, .B p4, .I a3_2]), (1, .raw [.P 0]), (2, .raw [.str a3_3]), (3, .raw [.ro .t_uint8 a3_4]), (4, .mpb .t_disk_file a3_5)]]) (S' := ⟨[(6, .I a3_0)], [(0, .raw [.B true, .I p2, .mp 1, .B a3_1, .B p4, .I a3_2]), (1, .mpb .t_disk_file a3_5)]⟩) (disk_Disk_change_v3.okE h3) ?_
 refine awp_ret ?_
 obtain rfl := Option.some.inj h
 exact er (.I a3_0)
theorem disk_Disk_Append_v2.okE {K : Nat} {p0 : List UInt8} {p1 : List UInt8} {p2 : Int} {p3 : Bool} {p4 : Bool} {p5 : Int} {p6 : List (List UInt8 × disk_file)} {r : Int × Bool × Int × (List (List UInt8 × disk_file))} (h : disk_Disk_Append_v2 K p0 p1 p2 p3 p4 p5 p6 = some r) : ECall V P 11 [.P 0, .cv (.str p0), .cv (.ro .t_uint8 p1)] [(0, .raw [.B true, .I p2, .mp 1, .B p3, .B p4, .I p5]), (1, .mpb .t_disk_file p6)] [0, 1] (.I r.1) [(0, .raw [.B true, .I p2, .mp 1, .B r.2.1, .B p4, .I r.2.2.1]), (1, .mpb .t_disk_file r.2.2.2)] :=
 eo (fn := Try.f11) (n := 28) (m := 100) fun Γ => disk_Disk_Append_v2.body h
def disk_Disk_existing (K : Nat) (p0 : Int) (p1 : List (List UInt8 × disk_file)) (p2 : Bool) (p3 : Bool) (p4 : Int) (p5 : List UInt8) (p6 : List (List UInt8)) : Option (disk_file × Int) := (if (([p5] : List (List UInt8)).length + p6.length) * 16 ≤ 140737488355328 then (Option.bind (disk_Disk_named K p0 p1 p2 p3 p4 (([p5] : List (List UInt8)) ++ p6)) (fun a1 => (if a1 ≠ 0 then some ((⟨([] : List UInt8), 0⟩ : disk_file), a1) else (if ((mfind p5 p1).isSome) = true then some (((mfind p5 p1).getD z_disk_file), 0) else some ((⟨([] : List UInt8), 0⟩ : disk_file), 15))))) else none)
theorem disk_Disk_existing.body {Γ : Ent} {K : Nat} {p0 : Int} {p1 : List (List UInt8 × disk_file)} {p2 : Bool} {p3 : Bool} {p4 : Int} {p5 : List UInt8} {p6 : List (List UInt8)} {r : disk_file × Int} (h : disk_Disk_existing K p0 p1 p2 p3 p4 p5 p6 = some r) : AWp V P 34 100 Γ (Try.f30.body.getD .skip) (EndsE P V Try.f30 (.tup [.agg [.ro .t_uint8 r.1.bytes, .I r.1.safe], .I r.2]) []) ⟨args0 0 [.cv (.pcs [.B true, .I p0, .rom .t_disk_file p1, .B p2, .B p3, .I p4] 0), .cv (.str p5), .cv (.ro .t_string p6)], []⟩ := by
 unfold disk_Disk_existing at h
 refine sr0 L 200 [] [] [] (S' := ⟨[(0, .cv (.pcs [.B true, .I p0, .rom .t_disk_file p1, .B p2, .B p3, .I p4] 0)), (1, .cv (.str p5)), (2, .cv (.ro .t_string p6)), (6, .P 200)], [(200, .raw [.N, .I 0])]⟩) ?_
 refine awp_seq ?_
 refine awp_seq ?_
 obtain ⟨g1, h⟩ := guard_some h
 obtain ⟨a1, h1, h⟩ := bind_some h
 refine ar L 100203 [] [(5, .I a1)] [] (cs := [(([p5] : List (List UInt8)).length + p6.length) * 16 ≤ 140737488355328, True, PCall V P 27 [.cv (.pcs [.B true, .I p0, .rom .t_disk_file p1, .B p2, .B p3, .I p4] 0), .cv (.ro .t_string (([p5] : List (List UInt8)) ++ p6))] (.I a1), True]) (S' := ⟨[(0, .cv (.pcs [.B true, .I p0, .rom .t_disk_file p1, .B p2, .B p3, .I p4] 0)), (1, .cv (.str p5)), (6, .P 200), (8, .I a1)], [(200, .raw [.N, .I 0])]⟩) (And.intro g1 (And.intro trivial (And.intro (disk_Disk_named.ok h1) trivial))) ?_
 refine sr0 L 211 [] [] [] (S' := ⟨[(0, .cv (.pcs [.B true, .I p0, .rom .t_disk_file p1, .B p2, .B p3, .I p4] 0)), (1, .cv (.str p5)), (6, .P 200), (8, .I a1), (18, .B (decide (a1 ≠ 0)))], [(200, .raw [.N, .I 0])]⟩) ?_
 rcases ite_some h with ⟨c1, h⟩ | ⟨c1, h⟩
 ·refine tt (b := (decide (a1 ≠ 0))) (decide_eq_true c1) ?_
  refine sr0 L 214 [] [] [] (S' := ⟨[(6, .P 200), (7, .I a1)], [(200, .raw [.N, .I 0])]⟩) ?_
  refine awp_turn (Turns.rn [(200, 100)] (S' := ⟨[(6, .P 100), (7, .I a1)], [(100, .raw [.N, .I 0])]⟩)) ?_
  refine awp_ret ?_
  obtain rfl := Option.some.inj h
  exact er (.tup [.agg [.N, .I 0], .I a1])
 refine ff (b := (decide (a1 ≠ 0))) (decide_eq_false c1) ?_
 refine awp_skip' ?_
 refine sr0 L 219 [] [] [] (S' := ⟨[(6, .P 200), (9, .P 228), (10, .B ((mfind p5 p1).isSome))], [(200, .raw [.N, .I 0]), (228, .raw (d_disk_file ((mfind p5 p1).getD z_disk_file)))]⟩) ?_
 refine awp_seq ?_
 refine sr0 L 232 [] [] [] (S' := ⟨[(6, .P 200), (9, .P 228), (31, .B (!((mfind p5 p1).isSome)))], [(200, .raw [.N, .I 0]), (228, .raw (d_disk_file ((mfind p5 p1).getD z_disk_file)))]⟩) ?_
 rcases ite_some h with ⟨c2, h⟩ | ⟨c2, h⟩
 ·refine ff (b := (!((mfind p5 p1).isSome))) (congrArg Bool.not (c2)) ?_
  refine awp_skip' ?_
  refine sr0 L 239 [] [] [] (S' := ⟨[(6, .P 200), (7, .I 0)], [(200, .raw (d_disk_file ((mfind p5 p1).getD z_disk_file)))]⟩) ?_
  refine awp_turn (Turns.rn [(200, 100)] (S' := ⟨[(6, .P 100), (7, .I 0)], [(100, .raw (d_disk_file ((mfind p5 p1).getD z_disk_file)))]⟩)) ?_
  refine awp_ret ?_
  obtain rfl := Option.some.inj h
  exact er (.tup [.agg (d_disk_file ((mfind p5 p1).getD z_disk_file)), .I 0])
 refine tt (b := (!((mfind p5 p1).isSome))) (congrArg Bool.not (eq_false_of_ne_true c2)) ?_
 refine sr0 L 235 [] [] [] (S' := ⟨[(6, .P 200), (7, .I 15)], [(200, .raw [.N, .I 0])]⟩) ?_
 refine awp_turn (Turns.rn [(200, 100)] (S' := ⟨[(6, .P 100), (7, .I 15)], [(100, .raw [.N, .I 0])]⟩)) ?_
 refine awp_ret ?_
 obtain rfl := Option.some.inj h
 exact er (.tup [.agg [.N, .I 0], .I 15])
theorem disk_Disk_existing.ok {K : Nat} {p0 : Int} {p1 : List (List UInt8 × disk_file)} {p2 : Bool} {p3 : Bool} {p4 : Int} {p5 : List UInt8} {p6 : List (List UInt8)} {r : disk_file × Int} (h : disk_Disk_existing K p0 p1 p2 p3 p4 p5 p6 = some r) : PCall V P 30 [.cv (.pcs [.B true, .I p0, .rom .t_disk_file p1, .B p2, .B p3, .I p4] 0), .cv (.str p5), .cv (.ro .t_string p6)] (.tup [.agg [.ro .t_uint8 r.1.bytes, .I r.1.safe], .I r.2]) := ECall.pcall (eo (fn := Try.f30) (n := 34) (m := 100) fun Γ => disk_Disk_existing.body h) (by kernel_rfl)
def disk_Disk_existing_v2 (K : Nat) (p0 : List UInt8) (p1 : List (List UInt8)) (p2 : Int) (p3 : Bool) (p4 : Bool) (p5 : Int) (p6 : List (List UInt8 × disk_file)) : Option (disk_file × Int × (List (List UInt8 × disk_file))) := (if (([p0] : List (List UInt8)).length + p1.length) * 16 ≤ 140737488355328 then (Option.bind (disk_Disk_named K p2 p6 p3 p4 p5 (([p0] : List (List UInt8)) ++ p1)) (fun a1 => (if a1 ≠ 0 then some ((⟨([] : List UInt8), 0⟩ : disk_file), a1, p6) else (if ((mfind p0 p6).isSome) = true then some (((mfind p0 p6).getD z_disk_file), 0, p6) else some ((⟨([] : List UInt8), 0⟩ : disk_file), 15, p6))))) else none)
theorem disk_Disk_existing_v2.body {Γ : Ent} {K : Nat} {p0 : List UInt8} {p1 : List (List UInt8)} {p2 : Int} {p3 : Bool} {p4 : Bool} {p5 : Int} {p6 : List (List UInt8 × disk_file)} {r : disk_file × Int × (List (List UInt8 × disk_file))} (h : disk_Disk_existing_v2 K p0 p1 p2 p3 p4 p5 p6 = some r) : AWp V P 34 100 Γ (Try.f30.body.getD .skip) (EndsE P V Try.f30 (.tup [.agg [.ro .t_uint8 r.1.bytes, .I r.1.safe], .I r.2.1]) [(0, .raw [.B true, .I p2, .mp 1, .B p3, .B p4, .I p5]), (1, .mpb .t_disk_file r.2.2)]) ⟨args0 0 [.P 0, .cv (.str p0), .cv (.ro .t_string p1)], [(0, .raw [.B true, .I p2, .mp 1, .B p3, .B p4, .I p5]), (1, .mpb .t_disk_file p6)]⟩ := by
 unfold disk_Disk_existing_v2 at h
 refine sr0 L 200 [] [] [] (S' := ⟨[(0, .P 0), (1, .cv (.str p0)), (2, .cv (.ro .t_string p1)), (6, .P 200)], [(0, .raw [.B true, .I p2, .mp 1, .B p3, .B p4, .I p5]), (1, .mpb .t_disk_file p6), (200, .raw [.N, .I 0])]⟩) ?_
 refine awp_seq ?_
 refine awp_seq ?_
 obtain ⟨g1, h⟩ := guard_some h
 obtain ⟨a1, h1, h⟩ := bind_some h
 refine ar L 100203 [] [(5, .I a1)] [] (cs := [(([p0] : List (List UInt8)).length + p1.length) * 16 ≤ 140737488355328, True, PCall V P 27 [.cv (.pcs [.B true, .I p2, .rom .t_disk_file p6, .B p3, .B p4, .I p5] 0), .cv (.ro .t_string (([p0] : List (List UInt8)) ++ p1))] (.I a1), True]) (S' := ⟨[(0, .P 0), (1, .cv (.str p0)), (6, .P 200), (8, .I a1)], [(0, .raw [.B true, .I p2, .mp 1, .B p3, .B p4, .I p5]), (1, .mpb .t_disk_file p6), (200, .raw [.N, .I 0])]⟩) (And.intro g1 (And.intro trivial (And.intro (disk_Disk_named.ok h1) trivial))) ?_
 refine sr0 L 211 [] [] [] (S' := ⟨[(0, .P 0), (1, .cv (.str p0)), (6, .P 200), (8, .I a1), (18, .B (decide (a1 ≠ 0)))], [(0, .raw [.B true, .I p2, .mp 1, .B p3, .B p4, .I p5]), (1, .mpb .t_disk_file p6), (200, .raw [.N, .I 0])]⟩) ?_
 rcases ite_some h with ⟨c1, h⟩ | ⟨c1, h⟩
 ·refine tt (b := (decide (a1 ≠ 0))) (decide_eq_true c1) ?_
  refine sr0 L 214 [] [] [] (S' := ⟨[(6, .P 200), (7, .I a1)], [(0, .raw [.B true, .I p2, .mp 1, .B p3, .B p4, .I p5]), (1, .mpb .t_disk_file p6), (200, .raw [.N, .I 0])]⟩) ?_
  refine awp_turn (Turns.rn [(0, 0), (1, 1), (200, 100)] (S' := ⟨[(6, .P 100), (7, .I a1)], [(0, .raw [.B true, .I p2, .mp 1, .B p3, .B p4, .I p5]), (1, .mpb .t_disk_file p6), (100, .raw [.N, .I 0])]⟩)) ?_
  refine awp_ret ?_
  obtain rfl := Option.some.inj h
  exact er (.tup [.agg [.N, .I 0], .I a1])
 refine ff (b := (decide (a1 ≠ 0))) (decide_eq_false c1) ?_
 refine awp_skip' ?_
 refine sr0 L 219 [] [] [] (S' := ⟨[(6, .P 200), (9, .P 228), (10, .B ((mfind p0 p6).isSome))], [(0, .raw [.B true, .I p2, .mp 1, .B p3, .B p4, .I p5]), (1, .mpb .t_disk_file p6), (200, .raw [.N, .I 0]), (228, .raw (d_disk_file ((mfind p0 p6).getD z_disk_file)))]⟩) ?_
 refine awp_seq ?_
 refine sr0 L 232 [] [] [] (S' := ⟨[(6, .P 200), (9, .P 228), (31, .B (!((mfind p0 p6).isSome)))], [(0, .raw [.B true, .I p2, .mp 1, .B p3, .B p4, .I p5]), (1, .mpb .t_disk_file p6), (200, .raw [.N, .I 0]), (228, .raw (d_disk_file ((mfind p0 p6).getD z_disk_file)))]⟩) ?_
 rcases ite_some h with ⟨c2, h⟩ | ⟨c2, h⟩
 ·refine ff (b := (!((mfind p0 p6).isSome))) (congrArg Bool.not (c2)) ?_
  refine awp_skip' ?_
  refine sr0 L 239 [] [] [] (S' := ⟨[(6, .P 200), (7, .I 0)], [(0, .raw [.B true, .I p2, .mp 1, .B p3, .B p4, .I p5]), (1, .mpb .t_disk_file p6), (200, .raw (d_disk_file ((mfind p0 p6).getD z_disk_file)))]⟩) ?_
  refine awp_turn (Turns.rn [(0, 0), (1, 1), (200, 100)] (S' := ⟨[(6, .P 100), (7, .I 0)], [(0, .raw [.B true, .I p2, .mp 1, .B p3, .B p4, .I p5]), (1, .mpb .t_disk_file p6), (100, .raw (d_disk_file ((mfind p0 p6).getD z_disk_file)))]⟩)) ?_
  refine awp_ret ?_
  obtain rfl := Option.some.inj h
  exact er (.tup [.agg (d_disk_file ((mfind p0 p6).getD z_disk_file)), .I 0])
 refine tt (b := (!((mfind p0 p6).isSome))) (congrArg Bool.not (eq_false_of_ne_true c2)) ?_
 refine sr0 L 235 [] [] [] (S' := ⟨[(6, .P 200), (7, .I 15)], [(0, .raw [.B true, .I p2, .mp 1, .B p3, .B p4, .I p5]), (1, .mpb .t_disk_file p6), (200, .raw [.N, .I 0])]⟩) ?_
 refine awp_turn (Turns.rn [(0, 0), (1, 1), (200, 100)] (S' := ⟨[(6, .P 100), (7, .I 15)], [(0, .raw [.B true, .I p2, .mp 1, .B p3, .B p4, .I p5]), (1, .mpb .t_disk_file p6), (100, .raw [.N, .I 0])]⟩)) ?_
 refine awp_ret ?_
 obtain rfl := Option.some.inj h
 exact er (.tup [.agg [.N, .I 0], .I 15])
theorem disk_Disk_existing_v2.okE {K : Nat} {p0 : List UInt8} {p1 : List (List UInt8)} {p2 : Int} {p3 : Bool} {p4 : Bool} {p5 : Int} {p6 : List (List UInt8 × disk_file)} {r : disk_file × Int × (List (List UInt8 × disk_file))} (h : disk_Disk_existing_v2 K p0 p1 p2 p3 p4 p5 p6 = some r) : ECall V P 30 [.P 0, .cv (.str p0), .cv (.ro .t_string p1)] [(0, .raw [.B true, .I p2, .mp 1, .B p3, .B p4, .I p5]), (1, .mpb .t_disk_file p6)] [0, 1] (.tup [.agg [.ro .t_uint8 r.1.bytes, .I r.1.safe], .I r.2.1]) [(0, .raw [.B true, .I p2, .mp 1, .B p3, .B p4, .I p5]), (1, .mpb .t_disk_file r.2.2)] :=
 eo (fn := Try.f30) (n := 34) (m := 100) fun Γ => disk_Disk_existing_v2.body h
def disk_Disk_Sync_c1 (K : Nat) (p0 : disk_file) (p1 : List UInt8) (p2 : Int) (p3 : Bool) (p4 : Bool) (p5 : Int) (p6 : List (List UInt8 × disk_file)) : Option (disk_file × (List UInt8) × (List (List UInt8 × disk_file))) := some (p0, p1, (mput p1 (⟨p0.bytes, (p0.bytes.length : Int)⟩ : disk_file) p6))
theorem disk_Disk_Sync_c1.body {Γ : Ent} {K : Nat} {p0 : disk_file} {p1 : List UInt8} {p2 : Int} {p3 : Bool} {p4 : Bool} {p5 : Int} {p6 : List (List UInt8 × disk_file)} {r : disk_file × (List UInt8) × (List (List UInt8 × disk_file))} (h : disk_Disk_Sync_c1 K p0 p1 p2 p3 p4 p5 p6 = some r) : AWp V P 14 100 Γ (Try.f31.body.getD .skip) (EndsE P V Try.f31 (.tup []) [(0, .raw [.ro .t_uint8 r.1.bytes, .I r.1.safe]), (1, .raw [.P 3]), (2, .raw [.str r.2.1]), (3, .raw [.B true, .I p2, .mp 4, .B p3, .B p4, .I p5]), (4, .mpb .t_disk_file r.2.2)]) ⟨args0 0 [.P 0, .P 1, .P 2], [(0, .raw (d_disk_file p0)), (1, .raw [.P 3]), (2, .raw [.str p1]), (3, .raw [.B true, .I p2, .mp 4, .B p3, .B p4, .I p5]), (4, .mpb .t_disk_file p6)]⟩ := by
 unfold disk_Disk_Sync_c1 at h
 refine ad L mixed 200 [] [] [] [] 11 (cs := [True]) (S' := ⟨[], [(0, .raw (d_disk_file p0)), (1, .raw [.P 3]), (2, .raw [.str p1]), (3, .raw [.B true, .I p2, .mp 4, .B p3, .B p4, .I p5]), (4, .mpb .t_disk_file (mput p1 (⟨p0.bytes, (p0.bytes.length : Int)⟩ : disk_file) p6))]⟩) trivial ?_
 obtain rfl := Option.some.inj h
 exact en (.tup [])
theorem disk_Disk_Sync_c1.okE {K : Nat} {p0 : disk_file} {p1 : List UInt8} {p2 : Int} {p3 : Bool} {p4 : Bool} {p5 : Int} {p6 : List (List UInt8 × disk_file)} {r : disk_file × (List UInt8) × (List (List UInt8 × disk_file))} (h : disk_Disk_Sync_c1 K p0 p1 p2 p3 p4 p5 p6 = some r) : ECall V P 31 [.P 0, .P 1, .P 2] [(0, .raw (d_disk_file p0)), (1, .raw [.P 3]), (2, .raw [.str p1]), (3, .raw [.B true, .I p2, .mp 4, .B p3, .B p4, .I p5]), (4, .mpb .t_disk_file p6)] [0, 1, 2, 3, 4] (.tup []) [(0, .raw [.ro .t_uint8 r.1.bytes, .I r.1.safe]), (1, .raw [.P 3]), (2, .raw [.str r.2.1]), (3, .raw [.B true, .I p2, .mp 4, .B p3, .B p4, .I p5]), (4, .mpb .t_disk_file r.2.2)] :=
 eo (fn := Try.f31) (n := 14) (m := 100) fun Γ => disk_Disk_Sync_c1.body h
def disk_Disk_change_v5 (K : Nat) (p0 : Int) (p1 : Bool) (p2 : Bool) (p3 : Int) (p4 : disk_file) (p5 : List UInt8) (p6 : List (List UInt8 × disk_file)) : Option (Int × Bool × Int × disk_file × (List UInt8) × (List (List UInt8 × disk_file))) := (if p2 = true then (if p3 = 0 then some (28, true, p3, p4, p5, p6) else (Option.bind (disk_Disk_Sync_c1 K p4 p5 p0 p1 p2 (IntKind.i64.wrap (p3 - 1)) p6) (fun (a1_0, a1_1, a1_2) => some (0, p1, (IntKind.i64.wrap (p3 - 1)), a1_0, a1_1, a1_2)))) else (Option.bind (disk_Disk_Sync_c1 K p4 p5 p0 p1 p2 p3 p6) (fun (a2_0, a2_1, a2_2) => some (0, p1, p3, a2_0, a2_1, a2_2))))
theorem disk_Disk_change_v5.body {Γ : Ent} {K : Nat} {p0 : Int} {p1 : Bool} {p2 : Bool} {p3 : Int} {p4 : disk_file} {p5 : List UInt8} {p6 : List (List UInt8 × disk_file)} {r : Int × Bool × Int × disk_file × (List UInt8) × (List (List UInt8 × disk_file))} (h : disk_Disk_change_v5 K p0 p1 p2 p3 p4 p5 p6 = some r) : AWp V P 26 100 Γ (Try.f28.body.getD .skip) (EndsE P V Try.f28 (.I r.1) [(0, .raw [.B true, .I p0, .mp 4, .B r.2.1, .B p2, .I r.2.2.1]), (1, .raw [.ro .t_uint8 r.2.2.2.1.bytes, .I r.2.2.2.1.safe]), (2, .raw [.P 0]), (3, .raw [.str r.2.2.2.2.1]), (4, .mpb .t_disk_file r.2.2.2.2.2)]) ⟨args0 0 [.P 0, .cv (.fn (.func 31) [] [.P 1, .P 2, .P 3])], [(0, .raw [.B true, .I p0, .mp 4, .B p1, .B p2, .I p3]), (1, .raw (d_disk_file p4)), (2, .raw [.P 0]), (3, .raw [.str p5]), (4, .mpb .t_disk_file p6)]⟩ := by
 unfold disk_Disk_change_v5 at h
 refine sr0 L 200 [] [] [] (S' := ⟨[(0, .P 0), (1, .cv (.fn (.func 31) [] [.P 1, .P 2, .P 3]))], [(0, .raw [.B true, .I p0, .mp 4, .B p1, .B p2, .I p3]), (1, .raw (d_disk_file p4)), (2, .raw [.P 0]), (3, .raw [.str p5]), (4, .mpb .t_disk_file p6)]⟩) ?_
 refine awp_seq ?_
 refine sr0 L 202 [] [] [] (S' := ⟨[(0, .P 0), (1, .cv (.fn (.func 31) [] [.P 1, .P 2, .P 3])), (8, .B p2)], [(0, .raw [.B true, .I p0, .mp 4, .B p1, .B p2, .I p3]), (1, .raw (d_disk_file p4)), (2, .raw [.P 0]), (3, .raw [.str p5]), (4, .mpb .t_disk_file p6)]⟩) ?_
 rcases ite_some h with ⟨c1, h⟩ | ⟨c1, h⟩
 ·refine tt (b := p2) (c1) ?_
  refine awp_seq ?_
  refine sr0 L 207 [] [] [] (S' := ⟨[(0, .P 0), (1, .cv (.fn (.func 31) [] [.P 1, .P 2, .P 3])), (13, .B (decide (p3 = 0)))], [(0, .raw [.B true, .I p0, .mp 4, .B p1, .B p2, .I p3]), (1, .raw (d_disk_file p4)), (2, .raw [.P 0]), (3, .raw [.str p5]), (4, .mpb .t_disk_file p6)]⟩) ?_
  rcases ite_some h with ⟨c2, h⟩ | ⟨c2, h⟩
  ·refine tt (b := (decide (p3 = 0))) (decide_eq_true c2) ?_
   refine sr0 L 213 [] [] [] (S' := ⟨[], [(0, .raw [.B true, .I p0, .mp 4, .B true, .B p2, .I p3]), (1, .raw (d_disk_file p4)), (2, .raw [.P 0]), (3, .raw [.str p5]), (4, .mpb .t_disk_file p6)]⟩) ?_
   refine sr0 L 218 [] [] [] (S' := ⟨[(4, .I 28)], [(0, .raw [.B true, .I p0, .mp 4, .B true, .B p2, .I p3]), (1, .raw (d_disk_file p4)), (2, .raw [.P 0]), (3, .raw [.str p5]), (4, .mpb .t_disk_file p6)]⟩) ?_
   refine awp_ret ?_
   obtain rfl := Option.some.inj h
   exact er (.I 28)
  refine ff (b := (decide (p3 = 0))) (decide_eq_false c2) ?_
  refine awp_skip' ?_
  refine ar0 L 220 [] [] [] (S' := ⟨[(1, .cv (.fn (.func 31) [] [.P 1, .P 2, .P 3]))], [(0, .raw [.B true, .I p0, .mp 4, .B p1, .B p2, .I (IntKind.i64.wrap (p3 - 1))]), (1, .raw (d_disk_file p4)), (2, .raw [.P 0]), (3, .raw [.str p5]), (4, .mpb .t_disk_file p6)]⟩) ?_
  refine awp_seq ?_
  obtain ⟨⟨a1_0, a1_1, a1_2⟩, h1, h⟩ := bind_some h
  dsimp only at h
  refine ar L 229 [] [] [(1, { hids := [0, 1, 2, 3, 4], fx := [0, 1, 2, 3, 4], r := .tup [], H' := [(0, .raw (d_disk_file a1_0)), (1, .raw [.P 3]), (2, .raw [.str a1_1]), (3, .raw [.B true, .I p0, .mp 4, .B p1, .B p2, .I (IntKind.i64.wrap (p3 - 1))]), (4, .mpb .t_disk_file a1_2)], σ := [(0, 1), (1, 2), (2, 3), (3, 0), (4, 4)] })] (cs := [ECall V P 31 [.P 0, .P 1, .P 2] [(0, .raw (d_disk_file p4)), (1, .raw [.P 3]), (2, .raw [.str p5]), (3, .raw [.B true, .I p0, .mp 4, .B p1, .B p2, .I (IntKind.i64.wrap (p3 - 1))]), (4, .mpb .t_disk_file p6)] [0, 1, 2, 3, 4] (.tup []) [(0, .raw (d_disk_file a1_0)), (1, .raw [.P 3]), (2, .raw [.str a1_1]), (3, .raw [.B true, .I p0, .mp 4, .B p1, .B p2, .I (IntKind.i64.wrap (p3 - 1))]), (4, .mpb .t_disk_file a1_2)]]) (S' := ⟨[], [(0, .raw [.B true, .I p0, .mp 4, .B p1, .B p2, .I (IntKind.i64.wrap (p3 - 1))]), (1, .raw (d_disk_file a1_0)), (2, .raw [.P 0]), (3, .raw [.str a1_1]), (4, .mpb .t_disk_file a1_2)]⟩) (disk_Disk_Sync_c1.okE h1) ?_
  refine sr0 L 232 [] [] [] (S' := ⟨[(4, .I 0)], [(0, .raw [.B true, .I p0, .mp 4, .B p1, .B p2, .I (IntKind.i64.wrap (p3 - 1))]), (1, .raw (d_disk_file a1_0)), (2, .raw [.P 0]), (3, .raw [.str a1_1]), (4, .mpb .t_disk_file a1_2)]⟩) ?_
  refine awp_ret ?_
  obtain rfl := Option.some.inj h
  exact er (.I 0)
 refine ff (b := p2) (eq_false_of_ne_true c1) ?_
 refine awp_skip' ?_
 refine awp_seq ?_
 obtain ⟨⟨a2_0, a2_1, a2_2⟩, h2, h⟩ := bind_some h
 dsimp only at h
 refine ar L 229 [] [] [(1, { hids := [0, 1, 2, 3, 4], fx := [0, 1, 2, 3, 4], r := .tup [], H' := [(0, .raw (d_disk_file a2_0)), (1, .raw [.P 3]), (2, .raw [.str a2_1]), (3, .raw [.B true, .I p0, .mp 4, .B p1, .B p2, .I p3]), (4, .mpb .t_disk_file a2_2)], σ := [(0, 1), (1, 2), (2, 3), (3, 0), (4, 4)] })] (cs := [ECall V P 31 [.P 0, .P 1, .P 2] [(0, .raw (d_disk_file p4)), (1, .raw [.P 3]), (2, .raw [.str p5]), (3, .raw [.B true, .I p0, .mp 4, .B p1, .B p2, .I p3]), (4, .mpb .t_disk_file p6)] [0, 1, 2, 3, 4] (.tup []) [(0, .raw (d_disk_file a2_0)), (1, .raw [.P 3]), (2, .raw [.str a2_1]), (3, .raw [.B true, .I p0, .mp 4, .B p1, .B p2, .I p3]), (4, .mpb .t_disk_file a2_2)]]) (S' := ⟨[], [(0, .raw [.B true, .I p0, .mp 4, .B p1, .B p2, .I p3]), (1, .raw (d_disk_file a2_0)), (2, .raw [.P 0]), (3, .raw [.str a2_1]), (4, .mpb .t_disk_file a2_2)]⟩) (disk_Disk_Sync_c1.okE h2) ?_
 refine sr0 L 232 [] [] [] (S' := ⟨[(4, .I 0)], [(0, .raw [.B true, .I p0, .mp 4, .B p1, .B p2, .I p3]), (1, .raw (d_disk_file a2_0)), (2, .raw [.P 0]), (3, .raw [.str a2_1]), (4, .mpb .t_disk_file a2_2)]⟩) ?_
 refine awp_ret ?_
 obtain rfl := Option.some.inj h
 exact er (.I 0)
theorem disk_Disk_change_v5.okE {K : Nat} {p0 : Int} {p1 : Bool} {p2 : Bool} {p3 : Int} {p4 : disk_file} {p5 : List UInt8} {p6 : List (List UInt8 × disk_file)} {r : Int × Bool × Int × disk_file × (List UInt8) × (List (List UInt8 × disk_file))} (h : disk_Disk_change_v5 K p0 p1 p2 p3 p4 p5 p6 = some r) : ECall V P 28 [.P 0, .cv (.fn (.func 31) [] [.P 1, .P 2, .P 3])] [(0, .raw [.B true, .I p0, .mp 4, .B p1, .B p2, .I p3]), (1, .raw (d_disk_file p4)), (2, .raw [.P 0]), (3, .raw [.str p5]), (4, .mpb .t_disk_file p6)] [0, 1, 2, 3, 4] (.I r.1) [(0, .raw [.B true, .I p0, .mp 4, .B r.2.1, .B p2, .I r.2.2.1]), (1, .raw [.ro .t_uint8 r.2.2.2.1.bytes, .I r.2.2.2.1.safe]), (2, .raw [.P 0]), (3, .raw [.str r.2.2.2.2.1]), (4, .mpb .t_disk_file r.2.2.2.2.2)] :=
 eo (fn := Try.f28) (n := 26) (m := 100) fun Γ => disk_Disk_change_v5.body h
def disk_Disk_Sync_v2 (K : Nat) (p0 : List UInt8) (p1 : Int) (p2 : Bool) (p3 : Bool) (p4 : Int) (p5 : List (List UInt8 × disk_file)) : Option (Int × Bool × Int × (List (List UInt8 × disk_file))) := (Option.bind (disk_Disk_existing_v2 K p0 ([] : List (List UInt8)) p1 p2 p3 p4 p5) (fun (a1_0, a1_1, a1_2) => (if a1_1 ≠ 0 then some (a1_1, p2, p4, a1_2) else (Option.bind (disk_Disk_change_v5 K p1 p2 p3 p4 a1_0 p0 a1_2) (fun (a2_0, a2_1, a2_2, a2_3, a2_4, a2_5) => some (a2_0, a2_1, a2_2, a2_5))))))
theorem disk_Disk_Sync_v2.body {Γ : Ent} {K : Nat} {p0 : List UInt8} {p1 : Int} {p2 : Bool} {p3 : Bool} {p4 : Int} {p5 : List (List UInt8 × disk_file)} {r : Int × Bool × Int × (List (List UInt8 × disk_file))} (h : disk_Disk_Sync_v2 K p0 p1 p2 p3 p4 p5 = some r) : AWp V P 19 100 Γ (Try.f13.body.getD .skip) (EndsE P V Try.f13 (.I r.1) [(0, .raw [.B true, .I p1, .mp 1, .B r.2.1, .B p3, .I r.2.2.1]), (1, .mpb .t_disk_file r.2.2.2)]) ⟨args0 0 [.P 0, .cv (.str p0)], [(0, .raw [.B true, .I p1, .mp 1, .B p2, .B p3, .I p4]), (1, .mpb .t_disk_file p5)]⟩ := by
 unfold disk_Disk_Sync_v2 at h
 refine sr0 L 200 [] [] [] (S' := ⟨[(2, .P 200), (3, .P 201)], [(0, .raw [.B true, .I p1, .mp 1, .B p2, .B p3, .I p4]), (1, .mpb .t_disk_file p5), (200, .raw [.P 0]), (201, .raw [.str p0])]⟩) ?_
 refine awp_seq ?_
 obtain ⟨⟨a1_0, a1_1, a1_2⟩, h1, h⟩ := bind_some h
 dsimp only at h
 refine ar L 204 [] [] [(2, { hids := [0, 1], fx := [0, 1], r := .tup [.agg (d_disk_file a1_0), .I a1_1], H' := [(0, .raw [.B true, .I p1, .mp 1, .B p2, .B p3, .I p4]), (1, .mpb .t_disk_file a1_2)], σ := [(0, 0), (1, 1)] })] (cs := [ECall V P 30 [.P 0, .cv (.str p0), .N] [(0, .raw [.B true, .I p1, .mp 1, .B p2, .B p3, .I p4]), (1, .mpb .t_disk_file p5)] [0, 1] (.tup [.agg (d_disk_file a1_0), .I a1_1]) [(0, .raw [.B true, .I p1, .mp 1, .B p2, .B p3, .I p4]), (1, .mpb .t_disk_file a1_2)]]) (S' := ⟨[(2, .P 200), (3, .P 201), (5, .P 210), (6, .I a1_1)], [(0, .raw [.B true, .I p1, .mp 1, .B p2, .B p3, .I p4]), (1, .mpb .t_disk_file a1_2), (200, .raw [.P 0]), (201, .raw [.str p0]), (210, .raw (d_disk_file a1_0))]⟩) (ECall.co (disk_Disk_existing_v2.okE h1) (by kernel_rfl) (by kernel_rfl)) ?_
 refine awp_seq ?_
 refine sr0 L 214 [] [] [] (S' := ⟨[(2, .P 200), (3, .P 201), (5, .P 210), (6, .I a1_1), (14, .B (decide (a1_1 ≠ 0)))], [(0, .raw [.B true, .I p1, .mp 1, .B p2, .B p3, .I p4]), (1, .mpb .t_disk_file a1_2), (200, .raw [.P 0]), (201, .raw [.str p0]), (210, .raw (d_disk_file a1_0))]⟩) ?_
 rcases ite_some h with ⟨c1, h⟩ | ⟨c1, h⟩
 ·refine tt (b := (decide (a1_1 ≠ 0))) (decide_eq_true c1) ?_
  refine sr0 L 217 [] [] [] (S' := ⟨[(4, .I a1_1)], [(0, .raw [.B true, .I p1, .mp 1, .B p2, .B p3, .I p4]), (1, .mpb .t_disk_file a1_2)]⟩) ?_
  refine awp_ret ?_
  obtain rfl := Option.some.inj h
  exact er (.I a1_1)
 refine ff (b := (decide (a1_1 ≠ 0))) (decide_eq_false c1) ?_
 refine awp_skip' ?_
 refine awp_seq ?_
 obtain ⟨⟨a2_0, a2_1, a2_2, a2_3, a2_4, a2_5⟩, h2, h⟩ := bind_some h
 dsimp only at h
 refine ar L 220 [] [] [(2, { hids := [0, 1, 2, 3, 4], fx := [0, 1, 2, 3, 4], r := .I a2_0, H' := [(0, .raw [.B true, .I p1, .mp 4, .B a2_1, .B p3, .I a2_2]), (1, .raw (d_disk_file a2_3)), (2, .raw [.P 0]), (3, .raw [.str a2_4]), (4, .mpb .t_disk_file a2_5)], σ := [(0, 0), (1, 210), (2, 200), (3, 201), (4, 1)] })] (cs := [ECall V P 28 [.P 0, .cv (.fn (.func 31) [] [.P 1, .P 2, .P 3])] [(0, .raw [.B true, .I p1, .mp 4, .B p2, .B p3, .I p4]), (1, .raw (d_disk_file a1_0)), (2, .raw [.P 0]), (3, .raw [.str p0]), (4, .mpb .t_disk_file a1_2)] [0, 1, 2, 3, 4] (.I a2_0) [(0, .raw [.B true, .I p1, .mp 4, .B a2_1, .B p3, .I a2_2]), (1, .raw (d_disk_file a2_3)), (2, .raw [.P 0]), (3, .raw [.str a2_4]), (4, .mpb .t_disk_file a2_5)]]) (S' := ⟨[(4, .I a2_0)], [(0, .raw [.B true, .I p1, .mp 1, .B a2_1, .B p3, .I a2_2]), (1, .mpb .t_disk_file a2_5)]⟩) (disk_Disk_change_v5.okE h2) ?_
 refine awp_ret ?_
 obtain rfl := Option.some.inj h
 exact er (.I a2_0)
theorem disk_Disk_Sync_v2.okE {K : Nat} {p0 : List UInt8} {p1 : Int} {p2 : Bool} {p3 : Bool} {p4 : Int} {p5 : List (List UInt8 × disk_file)} {r : Int × Bool × Int × (List (List UInt8 × disk_file))} (h : disk_Disk_Sync_v2 K p0 p1 p2 p3 p4 p5 = some r) : ECall V P 13 [.P 0, .cv (.str p0)] [(0, .raw [.B true, .I p1, .mp 1, .B p2, .B p3, .I p4]), (1, .mpb .t_disk_file p5)] [0, 1] (.I r.1) [(0, .raw [.B true, .I p1, .mp 1, .B r.2.1, .B p3, .I r.2.2.1]), (1, .mpb .t_disk_file r.2.2.2)] :=
 eo (fn := Try.f13) (n := 19) (m := 100) fun Γ => disk_Disk_Sync_v2.body h
def disk_Disk_Copy.l19 (K : Nat) : List UInt8 × disk_file → List (List UInt8 × disk_file) → Option (List (List UInt8 × disk_file))
 | xtp_19, x23902 => (Option.bind (slices_Clone_26 K xtp_19.2.bytes) (fun a2 => some (mput xtp_19.1 (⟨a2, xtp_19.2.safe⟩ : disk_file) x23902)))
theorem disk_Disk_Copy.l19.comm (K : Nat) : MComm (disk_Disk_Copy.l19 K) (MSorted) := ⟨fun p s s' h hI => by
 unfold disk_Disk_Copy.l19 at h
 obtain ⟨a, h1, h⟩ := bind_some h
 obtain rfl := Option.some.inj h
 exact hI.mput _ _, fun p q s hne hI => by
 have e : ∀ x s, disk_Disk_Copy.l19 K x s = (slices_Clone_26 K x.2.bytes).bind fun a => some (mput x.1 (⟨a, x.2.safe⟩ : disk_file) s) := fun _ _ => rfl
 cases hp : slices_Clone_26 K p.2.bytes with
 | none =>
  have h1 : ∀ s, disk_Disk_Copy.l19 K p s = none := fun s => by rw [e, hp]; rfl
  cases hq : disk_Disk_Copy.l19 K q s with
  | none => rw [h1]; rfl
  | some t => rw [h1]; exact (h1 t).symm
 | some a =>
  have h1 : ∀ s, disk_Disk_Copy.l19 K p s = some (mput p.1 (⟨a, p.2.safe⟩ : disk_file) s) := fun s => by rw [e, hp]; rfl
  cases hq : slices_Clone_26 K q.2.bytes with
  | none =>
   have h2 : ∀ s, disk_Disk_Copy.l19 K q s = none := fun s => by rw [e, hq]; rfl
   rw [h1, h2]; exact h2 _
  | some b =>
   have h2 : ∀ s, disk_Disk_Copy.l19 K q s = some (mput q.1 (⟨b, q.2.safe⟩ : disk_file) s) := fun s => by rw [e, hq]; rfl
   rw [h1, h2]
   show disk_Disk_Copy.l19 K q _ = disk_Disk_Copy.l19 K p _
   rw [h1, h2]
   exact congrArg some (mput_comm hI _ _ (Ne.symm hne))⟩
def disk_Disk_Copy (K : Nat) (p0 : Int) (p1 : List (List UInt8 × disk_file)) (p2 : Bool) (p3 : Bool) (p4 : Int) : Option (List (List UInt8 × disk_file)) := (Option.bind (disk_Disk_ok K p0 p1 p2 p3 p4) (fun _ => (Option.bind (Option.bind (mfold (disk_Disk_Copy.l19 K) p1 ([] : List (List UInt8 × disk_file))) (fun x23902 => some x23902) : Option (List (List UInt8 × disk_file))) (fun x23801 => some x23801))))
theorem disk_Disk_Copy.body {Γ : Ent} {K : Nat} {p0 : Int} {p1 : List (List UInt8 × disk_file)} {p2 : Bool} {p3 : Bool} {p4 : Int} {r : List (List UInt8 × disk_file)} (h : disk_Disk_Copy K p0 p1 p2 p3 p4 = some r) : AWp V P 33 100 Γ (Try.f10.body.getD .skip) (EndsE P V Try.f10 (.P 100) [(100, .raw [.B true, .I p0, .mp 101, .B p2, .B p3, .I p4]), (101, .mpb .t_disk_file r)]) ⟨args0 0 [.cv (.pcs [.B true, .I p0, .rom .t_disk_file p1, .B p2, .B p3, .I p4] 0)], []⟩ := by
 unfold disk_Disk_Copy at h
 refine sr0 L 200 [] [] [] (S' := ⟨[(0, .cv (.pcs [.B true, .I p0, .rom .t_disk_file p1, .B p2, .B p3, .I p4] 0))], []⟩) ?_
 refine awp_seq ?_
 refine awp_seq ?_
 obtain ⟨⟨⟩, h1, h⟩ := bind_some h
 refine ar L 202 [] [(1, .B true)] [] (cs := [PCall V P 25 [.cv (.pcs [.B true, .I p0, .rom .t_disk_file p1, .B p2, .B p3, .I p4] 0)] (.B true), True]) (S' := ⟨[(0, .cv (.pcs [.B true, .I p0, .rom .t_disk_file p1, .B p2, .B p3, .I p4] 0)), (8, .B false)], []⟩) (And.intro (disk_Disk_ok.ok h1) trivial) ?_
 refine ff (b := false) (rfl) ?_
 refine awp_skip' ?_
 refine sr0 L 208 [] [] [] (S' := ⟨[(0, .cv (.pcs [.B true, .I p0, .rom .t_disk_file p1, .B p2, .B p3, .I p4] 0)), (3, .P 211)], [(211, .raw [.B true, .I p0, .rom .t_disk_file p1, .B p2, .B p3, .I p4])]⟩) ?_
 refine sr0 L 214 [] [] [] (S' := ⟨[(0, .cv (.pcs [.B true, .I p0, .rom .t_disk_file p1, .B p2, .B p3, .I p4] 0)), (3, .P 211)], [(211, .raw [.B true, .I p0, .mp 214, .B p2, .B p3, .I p4]), (214, .mpb .t_disk_file ([] : List (List UInt8 × disk_file)))]⟩) ?_
 refine awp_seq ?_
 refine sr0 L 218 [] [] [] (S' := ⟨[(3, .P 211), (18, .P 222)], [(211, .raw [.B true, .I p0, .mp 214, .B p2, .B p3, .I p4]), (214, .mpb .t_disk_file ([] : List (List UInt8 × disk_file))), (222, .itr .t_disk_file p1 none)]⟩) ?_
 refine awp_block ?_
 refine awp_turn (Turns.trans (Turns.kp (S' := ⟨[(3, .P 211), (18, .P 222)], [(211, .raw [.B true, .I p0, .mp 214, .B p2, .B p3, .I p4]), (214, .mpb .t_disk_file ([] : List (List UInt8 × disk_file))), (222, .itr .t_disk_file p1 none)]⟩)) (Turns.rn [(211, 23900), (214, 23902), (222, 23901)] (S' := ⟨[(3, .P 23900), (18, .P 23901)], [(23900, .raw [.B true, .I p0, .mp 23902, .B p2, .B p3, .I p4]), (23902, .mpb .t_disk_file ([] : List (List UInt8 × disk_file))), (23901, .itr .t_disk_file p1 none)]⟩))) ?_
 refine kp (S' := ⟨[(3, .P 23900), (18, .P 23901)], [(23900, .raw [.B true, .I p0, .mp 23902, .B p2, .B p3, .I p4]), (23901, .itr .t_disk_file p1 none), (23902, .mpb .t_disk_file ([] : List (List UInt8 × disk_file)))]⟩) ?_
 obtain ⟨o1, hp1, h⟩ := bind_some h
 obtain ⟨r0, hm0, ho⟩ := bind_some hp1
 refine awp_map 23901 (tg := Tag.t_disk_file) (es := p1) (cur := none) (by kernel_rfl) (fun hnd0 => ?_)
 refine awp_conseq (Q' := fun e S => (e = .exit 0 ∧ ∃ x23801 : List (List UInt8 × disk_file), S = ⟨[(3, .P 23800)], [(23800, .raw [.B true, .I p0, .mp 23801, .B p2, .B p3, .I p4]), (23801, .mpb .t_disk_file x23801)]⟩ ∧ x23801 = o1)) (awp_loop (fun k S => ∃ xtl_19 : List (List UInt8 × disk_file), ∃ x23902 : List (List UInt8 × disk_file), S = ⟨[(3, .P 23900), (18, .P 23901)], [(23900, .raw [.B true, .I p0, .mp 23902, .B p2, .B p3, .I p4]), (23901, .itr .t_disk_file xtl_19 none), (23902, .mpb .t_disk_file x23902)]⟩ ∧ k = xtl_19.length ∧ (xtl_19.map (·.1)).Nodup ∧ (MSorted) x23902 ∧ mfold (disk_Disk_Copy.l19 K) xtl_19 x23902 = some r0) ?_ ⟨_, _, rfl, rfl, hnd0, List.Pairwise.nil, hm0⟩) ?_
 ·clear h hp1
  intro k S hS
  obtain ⟨xtl_19, x23902, rfl, rfl, hnd, hI, h⟩ := hS
  refine awp_seq ?_
  refine an (x := .tmp 18) (d1 := 19) (d2 := 20) (it := 23901) (tg := Tag.t_disk_file) (left := xtl_19) (cur := none) ⟨[(3, .P 23900), (18, .P 23901), (20, .B false)], [(23900, .raw [.B true, .I p0, .mp 23902, .B p2, .B p3, .I p4]), (23901, .itr .t_disk_file xtl_19 none), (23902, .mpb .t_disk_file x23902)]⟩ (fun xtp_19 xtl_19 => ⟨[(3, .P 23900), (18, .P 23901), (20, .B true)], [(23900, .raw [.B true, .I p0, .mp 23902, .B p2, .B p3, .I p4]), (23901, .itr .t_disk_file xtl_19 (some xtp_19)), (23902, .mpb .t_disk_file x23902)]⟩) (fun hn => ?_) (fun xtp_19 xtl_19 hp => ?_)
  ·subst hn
   obtain rfl := Option.some.inj h
   replace h := ho
   refine awp_seq ?_
   refine ff (b := false) (rfl) ?_
   refine awp_turn (Turns.trans (Turns.kp (S' := ⟨[(3, .P 23900)], [(23900, .raw [.B true, .I p0, .mp 23902, .B p2, .B p3, .I p4]), (23902, .mpb .t_disk_file x23902)]⟩)) (Turns.rn [(23900, 23800), (23902, 23801)] (S' := ⟨[(3, .P 23800)], [(23800, .raw [.B true, .I p0, .mp 23801, .B p2, .B p3, .I p4]), (23801, .mpb .t_disk_file x23902)]⟩))) ?_
   refine ex (S' := ⟨[(3, .P 23800)], [(23800, .raw [.B true, .I p0, .mp 23801, .B p2, .B p3, .I p4]), (23801, .mpb .t_disk_file x23902)]⟩) ?_
   obtain rfl := Option.some.inj h
   exact ⟨rfl, _, rfl, rfl⟩
  obtain ⟨s1, h, hm, hI, hnd, hlt⟩ := mfold_round (disk_Disk_Copy.l19.comm K) hp hnd hI h
  unfold disk_Disk_Copy.l19 at h
  refine awp_seq ?_
  refine tt (b := true) (rfl) ?_
  refine awp_skip' ?_
  refine awp_block ?_
  refine sr0 L 227 [] [] [] (S' := ⟨[(3, .P 23900), (4, .cv (.str xtp_19.1)), (5, .P 230), (18, .P 23901)], [(230, .raw [.ro .t_uint8 xtp_19.2.bytes, .I xtp_19.2.safe]), (23900, .raw [.B true, .I p0, .mp 23902, .B p2, .B p3, .I p4]), (23901, .itr .t_disk_file xtl_19 (some xtp_19)), (23902, .mpb .t_disk_file x23902)]⟩) ?_
  obtain ⟨a2, ha2, h⟩ := bind_some h
  refine ad L mixed 234 [] [(5, .cv (.ro .t_uint8 a2))] [] [] 9 (cs := [PCall V P 26 [.cv (.ro .t_uint8 xtp_19.2.bytes)] (.cv (.ro .t_uint8 a2)), True, True]) (S' := ⟨[(3, .P 23900), (18, .P 23901)], [(23900, .raw [.B true, .I p0, .mp 23902, .B p2, .B p3, .I p4]), (23901, .itr .t_disk_file xtl_19 none), (23902, .mpb .t_disk_file (mput xtp_19.1 (⟨a2, xtp_19.2.safe⟩ : disk_file) x23902))]⟩) (And.intro (slices_Clone_26.ok ha2) (And.intro trivial trivial)) ?_
  obtain rfl := Option.some.inj h
  exact ⟨_, hlt, xtl_19, _, rfl, rfl, hnd, hI, hm⟩
 ·rintro e S ⟨rfl, x23801, rfl, rfl⟩
  refine ⟨_, Turns.refl, ?_⟩
  refine sr0 L 245 [] [] [] (S' := ⟨[(2, .P 23800)], [(23800, .raw [.B true, .I p0, .mp 23801, .B p2, .B p3, .I p4]), (23801, .mpb .t_disk_file x23801)]⟩) ?_
  refine awp_turn (Turns.rn [(23800, 100), (23801, 101)] (S' := ⟨[(2, .P 100)], [(100, .raw [.B true, .I p0, .mp 101, .B p2, .B p3, .I p4]), (101, .mpb .t_disk_file x23801)]⟩)) ?_
  refine awp_ret ?_
  obtain rfl := Option.some.inj h
  exact er (.P 100)
theorem disk_Disk_Copy.okE {K : Nat} {p0 : Int} {p1 : List (List UInt8 × disk_file)} {p2 : Bool} {p3 : Bool} {p4 : Int} {r : List (List UInt8 × disk_file)} (h : disk_Disk_Copy K p0 p1 p2 p3 p4 = some r) : ECall V P 10 [.cv (.pcs [.B true, .I p0, .rom .t_disk_file p1, .B p2, .B p3, .I p4] 0)] [] [] (.P 100) [(100, .raw [.B true, .I p0, .mp 101, .B p2, .B p3, .I p4]), (101, .mpb .t_disk_file r)] :=
 eo (fn := Try.f10) (n := 33) (m := 100) fun Γ => disk_Disk_Copy.body h
def maps_Keys_48 (K : Nat) (p0 : List (List UInt8 × disk_file)) : Option (List (List UInt8 × disk_file)) := some p0
theorem maps_Keys_48.body {Γ : Ent} {K : Nat} {p0 : List (List UInt8 × disk_file)} {r : List (List UInt8 × disk_file)} (h : maps_Keys_48 K p0 = some r) : AWp V P 4 100 Γ (Try.f48.body.getD .skip) (EndsE P V Try.f48 (.cv (.fn (.func 60) [] [.P 100])) [(100, .raw [.rom .t_disk_file r])]) ⟨args0 0 [.cv (.rom .t_disk_file p0)], []⟩ := by
 unfold maps_Keys_48 at h
 refine sr0 L 200 [] [] [] (S' := ⟨[(1, .P 200)], [(200, .raw [.rom .t_disk_file p0])]⟩) ?_
 refine sr0 L 203 [] [] [] (S' := ⟨[(2, .cv (.fn (.func 60) [] [.P 200]))], [(200, .raw [.rom .t_disk_file p0])]⟩) ?_
 refine awp_turn (Turns.rn [(200, 100)] (S' := ⟨[(2, .cv (.fn (.func 60) [] [.P 100]))], [(100, .raw [.rom .t_disk_file p0])]⟩)) ?_
 refine awp_ret ?_
 obtain rfl := Option.some.inj h
 exact er (.cv (.fn (.func 60) [] [.P 100]))
theorem maps_Keys_48.okE {K : Nat} {p0 : List (List UInt8 × disk_file)} {r : List (List UInt8 × disk_file)} (h : maps_Keys_48 K p0 = some r) : ECall V P 48 [.cv (.rom .t_disk_file p0)] [] [] (.cv (.fn (.func 60) [] [.P 100])) [(100, .raw [.rom .t_disk_file r])] :=
 eo (fn := Try.f48) (n := 4) (m := 100) fun Γ => maps_Keys_48.body h
def disk_Disk_Names (K : Nat) (p0 : Int) (p1 : List (List UInt8 × disk_file)) (p2 : Bool) (p3 : Bool) (p4 : Int) : Option (List (List UInt8)) := (Option.bind (disk_Disk_ok K p0 p1 p2 p3 p4) (fun _ => (Option.bind (maps_Keys_48 K p1) (fun a2 => (if a2.length * 16 ≤ 140737488351232 ∧ ∀ p ∈ a2, p.1.length ≤ 9223372036854775807 then some (ssrt (a2.map Prod.fst)) else none)))))
theorem disk_Disk_Names.body {Γ : Ent} {K : Nat} {p0 : Int} {p1 : List (List UInt8 × disk_file)} {p2 : Bool} {p3 : Bool} {p4 : Int} {r : List (List UInt8)} (h : disk_Disk_Names K p0 p1 p2 p3 p4 = some r) : AWp V P 12 100 Γ (Try.f32.body.getD .skip) (EndsE P V Try.f32 (.cv (.ro .t_string r)) []) ⟨args0 0 [.cv (.pcs [.B true, .I p0, .rom .t_disk_file p1, .B p2, .B p3, .I p4] 0)], []⟩ := by
 unfold disk_Disk_Names at h
 refine sr0 L 200 [] [] [] (S' := ⟨[(0, .cv (.pcs [.B true, .I p0, .rom .t_disk_file p1, .B p2, .B p3, .I p4] 0))], []⟩) ?_
 refine awp_seq ?_
 refine awp_seq ?_
 obtain ⟨⟨⟩, h1, h⟩ := bind_some h
 refine ar L 202 [] [(1, .B true)] [] (cs := [PCall V P 25 [.cv (.pcs [.B true, .I p0, .rom .t_disk_file p1, .B p2, .B p3, .I p4] 0)] (.B true), True]) (S' := ⟨[(0, .cv (.pcs [.B true, .I p0, .rom .t_disk_file p1, .B p2, .B p3, .I p4] 0)), (5, .B false)], []⟩) (And.intro (disk_Disk_ok.ok h1) trivial) ?_
 refine ff (b := false) (rfl) ?_
 refine awp_skip' ?_
 refine awp_seq ?_
 obtain ⟨a2, h2, h⟩ := bind_some h
 obtain ⟨g1, h⟩ := guard_some h
 refine ar L 208 [] [] [(4, { hids := [], fx := [], r := .cv (.fn (.func 60) [] [.P 100]), H' := [(100, .raw [.rom .t_disk_file a2])], σ := [(100, 5096)] }), (5, { hids := [0], fx := [0], r := .cv (.own .t_string 100), H' := [(0, .raw [.rom .t_disk_file a2]), (100, .lst .t_string (ssrt (a2.map Prod.fst)))], σ := [(0, 5096), (100, 5104)] })] (cs := [ECall V P 48 [.cv (.rom .t_disk_file p1)] [] [] (.cv (.fn (.func 60) [] [.P 100])) [(100, .raw [.rom .t_disk_file a2])], ECall V P 47 [.cv (.fn (.func 60) [] [.ptr 0 0])] [(0, .raw [.rom .t_disk_file a2])] [0] (.cv (.own .t_string 100)) [(0, .raw [.rom .t_disk_file a2]), (100, .lst .t_string (ssrt (a2.map Prod.fst)))]]) (S' := ⟨[(2, .cv (.own .t_string 5104))], [(5104, .lst .t_string (ssrt (a2.map Prod.fst)))]⟩) (And.intro (maps_Keys_48.okE h2) (slices_SortedKeys.okE a2 g1.1 g1.2)) ?_
 refine awp_turn (Turns.frz 5104 (blk0 := .lst .t_string (ssrt (a2.map Prod.fst))) (by kernel_rfl) (by kernel_rfl) (S' := ⟨[(2, .cv (.ro .t_string (ssrt (a2.map Prod.fst))))], []⟩) (by kernel_rfl)) ?_
 refine awp_ret ?_
 obtain rfl := Option.some.inj h
 exact er (.cv (.ro .t_string (ssrt (a2.map Prod.fst))))
theorem disk_Disk_Names.ok {K : Nat} {p0 : Int} {p1 : List (List UInt8 × disk_file)} {p2 : Bool} {p3 : Bool} {p4 : Int} {r : List (List UInt8)} (h : disk_Disk_Names K p0 p1 p2 p3 p4 = some r) : PCall V P 32 [.cv (.pcs [.B true, .I p0, .rom .t_disk_file p1, .B p2, .B p3, .I p4] 0)] (.cv (.ro .t_string r)) := ECall.pcall (eo (fn := Try.f32) (n := 12) (m := 100) fun Γ => disk_Disk_Names.body h) (by kernel_rfl)
def disk_Disk_Names_v2 (K : Nat) (p0 : Int) (p1 : List (List UInt8 × disk_file)) (p2 : Bool) (p3 : Bool) (p4 : Int) : Option (List (List UInt8)) := (Option.bind (disk_Disk_ok K p0 p1 p2 p3 p4) (fun _ => (Option.bind (maps_Keys_48 K p1) (fun a2 => (if a2.length * 16 ≤ 140737488351232 ∧ ∀ p ∈ a2, p.1.length ≤ 9223372036854775807 then some (ssrt (a2.map Prod.fst)) else none)))))
theorem disk_Disk_Names_v2.body {Γ : Ent} {K : Nat} {p0 : Int} {p1 : List (List UInt8 × disk_file)} {p2 : Bool} {p3 : Bool} {p4 : Int} {r : List (List UInt8)} (h : disk_Disk_Names_v2 K p0 p1 p2 p3 p4 = some r) : AWp V P 12 100 Γ (Try.f32.body.getD .skip) (EndsE P V Try.f32 (.cv (.own .t_string 100)) [(100, .lst .t_string r)]) ⟨args0 0 [.cv (.pcs [.B true, .I p0, .rom .t_disk_file p1, .B p2, .B p3, .I p4] 0)], []⟩ := by
 unfold disk_Disk_Names_v2 at h
 refine sr0 L 200 [] [] [] (S' := ⟨[(0, .cv (.pcs [.B true, .I p0, .rom .t_disk_file p1, .B p2, .B p3, .I p4] 0))], []⟩) ?_
 refine awp_seq ?_
 refine awp_seq ?_
 obtain ⟨⟨⟩, h1, h⟩ := bind_some h
 refine ar L 202 [] [(1, .B true)] [] (cs := [PCall V P 25 [.cv (.pcs [.B true, .I p0, .rom .t_disk_file p1, .B p2, .B p3, .I p4] 0)] (.B true), True]) (S' := ⟨[(0, .cv (.pcs [.B true, .I p0, .rom .t_disk_file p1, .B p2, .B p3, .I p4] 0)), (5, .B false)], []⟩) (And.intro (disk_Disk_ok.ok h1) trivial) ?_
 refine ff (b := false) (rfl) ?_
 refine awp_skip' ?_
 refine awp_seq ?_
 obtain ⟨a2, h2, h⟩ := bind_some h
 obtain ⟨g1, h⟩ := guard_some h
 refine ar L 208 [] [] [(4, { hids := [], fx := [], r := .cv (.fn (.func 60) [] [.P 100]), H' := [(100, .raw [.rom .t_disk_file a2])], σ := [(100, 5096)] }), (5, { hids := [0], fx := [0], r := .cv (.own .t_string 100), H' := [(0, .raw [.rom .t_disk_file a2]), (100, .lst .t_string (ssrt (a2.map Prod.fst)))], σ := [(0, 5096), (100, 5104)] })] (cs := [ECall V P 48 [.cv (.rom .t_disk_file p1)] [] [] (.cv (.fn (.func 60) [] [.P 100])) [(100, .raw [.rom .t_disk_file a2])], ECall V P 47 [.cv (.fn (.func 60) [] [.ptr 0 0])] [(0, .raw [.rom .t_disk_file a2])] [0] (.cv (.own .t_string 100)) [(0, .raw [.rom .t_disk_file a2]), (100, .lst .t_string (ssrt (a2.map Prod.fst)))]]) (S' := ⟨[(2, .cv (.own .t_string 5104))], [(5104, .lst .t_string (ssrt (a2.map Prod.fst)))]⟩) (And.intro (maps_Keys_48.okE h2) (slices_SortedKeys.okE a2 g1.1 g1.2)) ?_
 refine awp_turn (Turns.rn [(5104, 100)] (S' := ⟨[(2, .cv (.own .t_string 100))], [(100, .lst .t_string (ssrt (a2.map Prod.fst)))]⟩)) ?_
 refine awp_ret ?_
 obtain rfl := Option.some.inj h
 exact er (.cv (.own .t_string 100))
theorem disk_Disk_Names_v2.okF {K : Nat} {p0 : Int} {p1 : List (List UInt8 × disk_file)} {p2 : Bool} {p3 : Bool} {p4 : Int} {r : List (List UInt8)} (h : disk_Disk_Names_v2 K p0 p1 p2 p3 p4 = some r) : FCall V P 32 [.cv (.pcs [.B true, .I p0, .rom .t_disk_file p1, .B p2, .B p3, .I p4] 0)] Tag.t_string r := ECall.fcall (eo (fn := Try.f32) (n := 12) (m := 100) fun Γ => disk_Disk_Names_v2.body h)
def disk_Disk_Crash_v2.l23 (K : Nat) (p0 : Int) (a2 : List (List UInt8)) : Nat → Int → (List (List UInt8 × disk_file)) → Option (List (List UInt8 × disk_file))
 | 0, _, _ => none
 | k + 1, xt17_23h, xh1_23h => (if xt17_23h < (a2.length : Int) then (if (0 : Int) ≤ xt17_23h ∧ (xt17_23h : Int) < (a2.length : Int) then (if (Int.toNat xt17_23h) < a2.length then (if (0 : Int) ≤ (IntKind.i64.wrap (((mfind (a2.getD (Int.toNat xt17_23h) ([] : List UInt8)) xh1_23h).getD z_disk_file).safe + (if (IntKind.i64.wrap (((((mfind (a2.getD (Int.toNat xt17_23h) ([] : List UInt8)) xh1_23h).getD z_disk_file).bytes).length : Int) - ((mfind (a2.getD (Int.toNat xt17_23h) ([] : List UInt8)) xh1_23h).getD z_disk_file).safe)) < p0 then (IntKind.i64.wrap (((((mfind (a2.getD (Int.toNat xt17_23h) ([] : List UInt8)) xh1_23h).getD z_disk_file).bytes).length : Int) - ((mfind (a2.getD (Int.toNat xt17_23h) ([] : List UInt8)) xh1_23h).getD z_disk_file).safe)) else p0))) ∧ ((IntKind.i64.wrap (((mfind (a2.getD (Int.toNat xt17_23h) ([] : List UInt8)) xh1_23h).getD z_disk_file).safe + (if (IntKind.i64.wrap (((((mfind (a2.getD (Int.toNat xt17_23h) ([] : List UInt8)) xh1_23h).getD z_disk_file).bytes).length : Int) - ((mfind (a2.getD (Int.toNat xt17_23h) ([] : List UInt8)) xh1_23h).getD z_disk_file).safe)) < p0 then (IntKind.i64.wrap (((((mfind (a2.getD (Int.toNat xt17_23h) ([] : List UInt8)) xh1_23h).getD z_disk_file).bytes).length : Int) - ((mfind (a2.getD (Int.toNat xt17_23h) ([] : List UInt8)) xh1_23h).getD z_disk_file).safe)) else p0)))) ≤ ((((mfind (a2.getD (Int.toNat xt17_23h) ([] : List UInt8)) xh1_23h).getD z_disk_file).bytes).length : Int) then (Option.bind (slices_Clone_26 K ((slc (((mfind (a2.getD (Int.toNat xt17_23h) ([] : List UInt8)) xh1_23h).getD z_disk_file).bytes) 0 ((IntKind.i64.wrap (((mfind (a2.getD (Int.toNat xt17_23h) ([] : List UInt8)) xh1_23h).getD z_disk_file).safe + (if (IntKind.i64.wrap (((((mfind (a2.getD (Int.toNat xt17_23h) ([] : List UInt8)) xh1_23h).getD z_disk_file).bytes).length : Int) - ((mfind (a2.getD (Int.toNat xt17_23h) ([] : List UInt8)) xh1_23h).getD z_disk_file).safe)) < p0 then (IntKind.i64.wrap (((((mfind (a2.getD (Int.toNat xt17_23h) ([] : List UInt8)) xh1_23h).getD z_disk_file).bytes).length : Int) - ((mfind (a2.getD (Int.toNat xt17_23h) ([] : List UInt8)) xh1_23h).getD z_disk_file).safe)) else p0))))))) (fun a3 => disk_Disk_Crash_v2.l23 K p0 a2 k (IntKind.i64.wrap (xt17_23h + 1)) ((mput (a2.getD (Int.toNat xt17_23h) ([] : List UInt8)) ((⟨a3, (IntKind.i64.wrap (((mfind (a2.getD (Int.toNat xt17_23h) ([] : List UInt8)) xh1_23h).getD z_disk_file).safe + (if (IntKind.i64.wrap (((((mfind (a2.getD (Int.toNat xt17_23h) ([] : List UInt8)) xh1_23h).getD z_disk_file).bytes).length : Int) - ((mfind (a2.getD (Int.toNat xt17_23h) ([] : List UInt8)) xh1_23h).getD z_disk_file).safe)) < p0 then (IntKind.i64.wrap (((((mfind (a2.getD (Int.toNat xt17_23h) ([] : List UInt8)) xh1_23h).getD z_disk_file).bytes).length : Int) - ((mfind (a2.getD (Int.toNat xt17_23h) ([] : List UInt8)) xh1_23h).getD z_disk_file).safe)) else p0)))⟩ : disk_file)) xh1_23h)))) else none) else none) else none) else some xh1_23h)
def disk_Disk_Crash_v2 (K : Nat) (p0 : Int) (p1 : Int) (p2 : Bool) (p3 : Bool) (p4 : Int) (p5 : List (List UInt8 × disk_file)) : Option (Int × Bool × Bool × Int × (List (List UInt8 × disk_file))) := (Option.bind (disk_Disk_ok K p1 p5 p2 p3 p4) (fun _ => (if p0 < 0 then some (2, p2, p3, p4, p5) else (Option.bind (disk_Disk_Names_v2 K p1 p5 p2 p3 p4) (fun a2 => (Option.bind (disk_Disk_Crash_v2.l23 K p0 a2 K 0 p5 : Option (List (List UInt8 × disk_file))) (fun xh1_23 => some (0, false, false, 0, xh1_23))))))))
theorem disk_Disk_Crash_v2.body {Γ : Ent} {K : Nat} {p0 : Int} {p1 : Int} {p2 : Bool} {p3 : Bool} {p4 : Int} {p5 : List (List UInt8 × disk_file)} {r : Int × Bool × Bool × Int × (List (List UInt8 × disk_file))} (h : disk_Disk_Crash_v2 K p0 p1 p2 p3 p4 p5 = some r) : AWp V P 60 100 Γ (Try.f16.body.getD .skip) (EndsE P V Try.f16 (.I r.1) [(0, .raw [.B true, .I p1, .mp 1, .B r.2.1, .B r.2.2.1, .I r.2.2.2.1]), (1, .mpb .t_disk_file r.2.2.2.2)]) ⟨args0 0 [.P 0, .I p0], [(0, .raw [.B true, .I p1, .mp 1, .B p2, .B p3, .I p4]), (1, .mpb .t_disk_file p5)]⟩ := by
 unfold disk_Disk_Crash_v2 at h
 refine sr0 L 200 [] [] [] (S' := ⟨[(0, .P 0), (1, .I p0)], [(0, .raw [.B true, .I p1, .mp 1, .B p2, .B p3, .I p4]), (1, .mpb .t_disk_file p5)]⟩) ?_
 refine awp_seq ?_
 refine awp_seq ?_
 obtain ⟨⟨⟩, h1, h⟩ := bind_some h
 refine ar L 202 [] [(1, .B true)] [] (cs := [PCall V P 25 [.cv (.pcs [.B true, .I p1, .rom .t_disk_file p5, .B p2, .B p3, .I p4] 0)] (.B true), True]) (S' := ⟨[(0, .P 0), (1, .I p0), (11, .B false)], [(0, .raw [.B true, .I p1, .mp 1, .B p2, .B p3, .I p4]), (1, .mpb .t_disk_file p5)]⟩) (And.intro (disk_Disk_ok.ok h1) trivial) ?_
 refine ff (b := false) (rfl) ?_
 refine awp_skip' ?_
 refine awp_seq ?_
 refine sr0 L 208 [] [] [] (S' := ⟨[(0, .P 0), (1, .I p0), (13, .B (decide (p0 < 0)))], [(0, .raw [.B true, .I p1, .mp 1, .B p2, .B p3, .I p4]), (1, .mpb .t_disk_file p5)]⟩) ?_
 rcases ite_some h with ⟨c1, h⟩ | ⟨c1, h⟩
 ·refine tt (b := (decide (p0 < 0))) (decide_eq_true c1) ?_
  refine sr0 L 211 [] [] [] (S' := ⟨[(4, .I 2)], [(0, .raw [.B true, .I p1, .mp 1, .B p2, .B p3, .I p4]), (1, .mpb .t_disk_file p5)]⟩) ?_
  refine awp_ret ?_
  obtain rfl := Option.some.inj h
  exact er (.I 2)
 refine ff (b := (decide (p0 < 0))) (decide_eq_false c1) ?_
 refine awp_skip' ?_
 refine awp_seq ?_
 refine awp_seq ?_
 obtain ⟨a2, h2, h⟩ := bind_some h
 refine ar L 213 [] [(1, .cv (.ron .t_string a2))] [] (cs := [FCall V P 32 [.cv (.pcs [.B true, .I p1, .rom .t_disk_file p5, .B p2, .B p3, .I p4] 0)] Tag.t_string a2, ∀ x, ∀ c ∈ V.E.k Tag.t_string x, c.flat = true]) (S' := ⟨[(0, .P 0), (1, .I p0), (15, .cv (.own .t_string 214)), (16, .I (a2.length : Int)), (17, .I 0)], [(0, .raw [.B true, .I p1, .mp 1, .B p2, .B p3, .I p4]), (1, .mpb .t_disk_file p5), (214, .lst .t_string a2)]⟩) (And.intro (disk_Disk_Names_v2.okF h2) flat_t_string) ?_
 refine awp_block ?_
 refine awp_turn (Turns.trans (Turns.kp (S' := ⟨[(0, .P 0), (1, .I p0), (15, .cv (.own .t_string 214)), (16, .I (a2.length : Int)), (17, .I 0)], [(0, .raw [.B true, .I p1, .mp 1, .B p2, .B p3, .I p4]), (1, .mpb .t_disk_file p5), (214, .lst .t_string a2)]⟩)) (Turns.rn [(0, 0), (1, 1), (214, 24700)] (S' := ⟨[(0, .P 0), (1, .I p0), (15, .cv (.own .t_string 24700)), (16, .I (a2.length : Int)), (17, .I 0)], [(0, .raw [.B true, .I p1, .mp 1, .B p2, .B p3, .I p4]), (1, .mpb .t_disk_file p5), (24700, .lst .t_string a2)]⟩))) ?_
 refine kp (S' := ⟨[(0, .P 0), (1, .I p0), (15, .cv (.own .t_string 24700)), (16, .I (a2.length : Int)), (17, .I 0)], [(0, .raw [.B true, .I p1, .mp 1, .B p2, .B p3, .I p4]), (1, .mpb .t_disk_file p5), (24700, .lst .t_string a2)]⟩) ?_
 obtain ⟨o1, hp1, h⟩ := bind_some h
 refine awp_conseq (Q' := fun e S => (e = .exit 0 ∧ ∃ xh1_23 : List (List UInt8 × disk_file), S = ⟨[(0, .P 0)], [(0, .raw [.B true, .I p1, .mp 1, .B p2, .B p3, .I p4]), (1, .mpb .t_disk_file xh1_23)]⟩ ∧ xh1_23 = o1)) (awp_loop (fun k S => ∃ xt17_23h : Int, ∃ xh1_23h : List (List UInt8 × disk_file), S = ⟨[(0, .P 0), (1, .I p0), (15, .cv (.own .t_string 24700)), (16, .I (a2.length : Int)), (17, .I xt17_23h)], [(0, .raw [.B true, .I p1, .mp 1, .B p2, .B p3, .I p4]), (1, .mpb .t_disk_file xh1_23h), (24700, .lst .t_string a2)]⟩ ∧ disk_Disk_Crash_v2.l23 K p0 a2 k xt17_23h xh1_23h = some o1) ?_ ⟨_, _, rfl, hp1⟩) ?_
 ·clear h hp1
  intro k S hS
  obtain ⟨xt17_23h, xh1_23h, rfl, h⟩ := hS
  cases k with
  | zero => cases h
  | succ k =>
  unfold disk_Disk_Crash_v2.l23 at h
  refine sr0 L 218 [] [] [] (S' := ⟨[(0, .P 0), (1, .I p0), (15, .cv (.own .t_string 24700)), (16, .I (a2.length : Int)), (17, .I xt17_23h), (18, .B (decide (xt17_23h < (a2.length : Int))))], [(0, .raw [.B true, .I p1, .mp 1, .B p2, .B p3, .I p4]), (1, .mpb .t_disk_file xh1_23h), (24700, .lst .t_string a2)]⟩) ?_
  refine awp_seq ?_
  rcases ite_some h with ⟨c2, h⟩ | ⟨c2, h⟩
  ·refine tt (b := (decide (xt17_23h < (a2.length : Int)))) (decide_eq_true c2) ?_
   refine awp_skip' ?_
   refine awp_seq ?_
   refine awp_block ?_
   refine awp_seq ?_
   obtain ⟨g1, h⟩ := guard_some h
   obtain ⟨g2, h⟩ := guard_some h
   refine ar L 220 [] [] [] (cs := [(0 : Int) ≤ xt17_23h, (xt17_23h : Int) < (a2.length : Int), (Int.toNat xt17_23h) < a2.length]) (S' := ⟨[(0, .P 0), (1, .I p0), (6, .cv (.str (a2.getD (Int.toNat xt17_23h) ([] : List UInt8)))), (15, .cv (.own .t_string 24700)), (16, .I (a2.length : Int)), (17, .I xt17_23h)], [(0, .raw [.B true, .I p1, .mp 1, .B p2, .B p3, .I p4]), (1, .mpb .t_disk_file xh1_23h), (24700, .lst .t_string a2)]⟩) (And.intro g1.1 (And.intro g1.2 g2)) ?_
   refine sr0 L 224 [] [] [] (S' := ⟨[(0, .P 0), (1, .I p0), (6, .cv (.str (a2.getD (Int.toNat xt17_23h) ([] : List UInt8)))), (7, .P 230), (15, .cv (.own .t_string 24700)), (16, .I (a2.length : Int)), (17, .I xt17_23h)], [(0, .raw [.B true, .I p1, .mp 1, .B p2, .B p3, .I p4]), (1, .mpb .t_disk_file xh1_23h), (230, .raw (d_disk_file ((mfind (a2.getD (Int.toNat xt17_23h) ([] : List UInt8)) xh1_23h).getD z_disk_file))), (24700, .lst .t_string a2)]⟩) ?_
   refine sr0 L 233 [] [] [] (S' := ⟨[(0, .P 0), (1, .I p0), (6, .cv (.str (a2.getD (Int.toNat xt17_23h) ([] : List UInt8)))), (7, .P 230), (8, .I ((IntKind.i64.wrap (((mfind (a2.getD (Int.toNat xt17_23h) ([] : List UInt8)) xh1_23h).getD z_disk_file).safe + (if (IntKind.i64.wrap (((((mfind (a2.getD (Int.toNat xt17_23h) ([] : List UInt8)) xh1_23h).getD z_disk_file).bytes).length : Int) - ((mfind (a2.getD (Int.toNat xt17_23h) ([] : List UInt8)) xh1_23h).getD z_disk_file).safe)) < p0 then (IntKind.i64.wrap (((((mfind (a2.getD (Int.toNat xt17_23h) ([] : List UInt8)) xh1_23h).getD z_disk_file).bytes).length : Int) - ((mfind (a2.getD (Int.toNat xt17_23h) ([] : List UInt8)) xh1_23h).getD z_disk_file).safe)) else p0))))), (15, .cv (.own .t_string 24700)), (16, .I (a2.length : Int)), (17, .I xt17_23h)], [(0, .raw [.B true, .I p1, .mp 1, .B p2, .B p3, .I p4]), (1, .mpb .t_disk_file xh1_23h), (230, .raw (d_disk_file ((mfind (a2.getD (Int.toNat xt17_23h) ([] : List UInt8)) xh1_23h).getD z_disk_file))), (24700, .lst .t_string a2)]⟩) ?_
   obtain ⟨g3, h⟩ := guard_some h
   obtain ⟨a3, ha3, h⟩ := bind_some h
   refine ad L mixed 246 [] [(9, .cv (.ro .t_uint8 a3))] [] [] 12 (cs := [(0 : Int) ≤ 0, (0 : Int) ≤ (IntKind.i64.wrap (((mfind (a2.getD (Int.toNat xt17_23h) ([] : List UInt8)) xh1_23h).getD z_disk_file).safe + (if (IntKind.i64.wrap (((((mfind (a2.getD (Int.toNat xt17_23h) ([] : List UInt8)) xh1_23h).getD z_disk_file).bytes).length : Int) - ((mfind (a2.getD (Int.toNat xt17_23h) ([] : List UInt8)) xh1_23h).getD z_disk_file).safe)) < p0 then (IntKind.i64.wrap (((((mfind (a2.getD (Int.toNat xt17_23h) ([] : List UInt8)) xh1_23h).getD z_disk_file).bytes).length : Int) - ((mfind (a2.getD (Int.toNat xt17_23h) ([] : List UInt8)) xh1_23h).getD z_disk_file).safe)) else p0))), ((IntKind.i64.wrap (((mfind (a2.getD (Int.toNat xt17_23h) ([] : List UInt8)) xh1_23h).getD z_disk_file).safe + (if (IntKind.i64.wrap (((((mfind (a2.getD (Int.toNat xt17_23h) ([] : List UInt8)) xh1_23h).getD z_disk_file).bytes).length : Int) - ((mfind (a2.getD (Int.toNat xt17_23h) ([] : List UInt8)) xh1_23h).getD z_disk_file).safe)) < p0 then (IntKind.i64.wrap (((((mfind (a2.getD (Int.toNat xt17_23h) ([] : List UInt8)) xh1_23h).getD z_disk_file).bytes).length : Int) - ((mfind (a2.getD (Int.toNat xt17_23h) ([] : List UInt8)) xh1_23h).getD z_disk_file).safe)) else p0)))) ≤ ((((mfind (a2.getD (Int.toNat xt17_23h) ([] : List UInt8)) xh1_23h).getD z_disk_file).bytes).length : Int), PCall V P 26 [.cv (.ro .t_uint8 ((slc (((mfind (a2.getD (Int.toNat xt17_23h) ([] : List UInt8)) xh1_23h).getD z_disk_file).bytes) 0 ((IntKind.i64.wrap (((mfind (a2.getD (Int.toNat xt17_23h) ([] : List UInt8)) xh1_23h).getD z_disk_file).safe + (if (IntKind.i64.wrap (((((mfind (a2.getD (Int.toNat xt17_23h) ([] : List UInt8)) xh1_23h).getD z_disk_file).bytes).length : Int) - ((mfind (a2.getD (Int.toNat xt17_23h) ([] : List UInt8)) xh1_23h).getD z_disk_file).safe)) < p0 then (IntKind.i64.wrap (((((mfind (a2.getD (Int.toNat xt17_23h) ([] : List UInt8)) xh1_23h).getD z_disk_file).bytes).length : Int) - ((mfind (a2.getD (Int.toNat xt17_23h) ([] : List UInt8)) xh1_23h).getD z_disk_file).safe)) else p0)))))))] (.cv (.ro .t_uint8 a3)), True, True]) (S' := ⟨[(0, .P 0), (1, .I p0), (15, .cv (.own .t_string 24700)), (16, .I (a2.length : Int)), (17, .I xt17_23h)], [(0, .raw [.B true, .I p1, .mp 1, .B p2, .B p3, .I p4]), (1, .mpb .t_disk_file ((mput (a2.getD (Int.toNat xt17_23h) ([] : List UInt8)) ((⟨a3, (IntKind.i64.wrap (((mfind (a2.getD (Int.toNat xt17_23h) ([] : List UInt8)) xh1_23h).getD z_disk_file).safe + (if (IntKind.i64.wrap (((((mfind (a2.getD (Int.toNat xt17_23h) ([] : List UInt8)) xh1_23h).getD z_disk_file).bytes).length : Int) - ((mfind (a2.getD (Int.toNat xt17_23h) ([] : List UInt8)) xh1_23h).getD z_disk_file).safe)) < p0 then (IntKind.i64.wrap (((((mfind (a2.getD (Int.toNat xt17_23h) ([] : List UInt8)) xh1_23h).getD z_disk_file).bytes).length : Int) - ((mfind (a2.getD (Int.toNat xt17_23h) ([] : List UInt8)) xh1_23h).getD z_disk_file).safe)) else p0)))⟩ : disk_file)) xh1_23h))), (24700, .lst .t_string a2)]⟩) (And.intro (Int.le_refl _) (And.intro g3.1 (And.intro g3.2 (And.intro (slices_Clone_26.ok ha3) (And.intro trivial trivial))))) ?_
   refine ar0 L 260 [] [] [] (S' := ⟨[(0, .P 0), (1, .I p0), (15, .cv (.own .t_string 24700)), (16, .I (a2.length : Int)), (17, .I (IntKind.i64.wrap (xt17_23h + 1)))], [(0, .raw [.B true, .I p1, .mp 1, .B p2, .B p3, .I p4]), (1, .mpb .t_disk_file ((mput (a2.getD (Int.toNat xt17_23h) ([] : List UInt8)) ((⟨a3, (IntKind.i64.wrap (((mfind (a2.getD (Int.toNat xt17_23h) ([] : List UInt8)) xh1_23h).getD z_disk_file).safe + (if (IntKind.i64.wrap (((((mfind (a2.getD (Int.toNat xt17_23h) ([] : List UInt8)) xh1_23h).getD z_disk_file).bytes).length : Int) - ((mfind (a2.getD (Int.toNat xt17_23h) ([] : List UInt8)) xh1_23h).getD z_disk_file).safe)) < p0 then (IntKind.i64.wrap (((((mfind (a2.getD (Int.toNat xt17_23h) ([] : List UInt8)) xh1_23h).getD z_disk_file).bytes).length : Int) - ((mfind (a2.getD (Int.toNat xt17_23h) ([] : List UInt8)) xh1_23h).getD z_disk_file).safe)) else p0)))⟩ : disk_file)) xh1_23h))), (24700, .lst .t_string a2)]⟩) ?_
   exact ⟨k, Nat.lt_succ_self k, _, _, rfl, h⟩
  refine ff (b := (decide (xt17_23h < (a2.length : Int)))) (decide_eq_false c2) ?_
  refine ex (S' := ⟨[(0, .P 0)], [(0, .raw [.B true, .I p1, .mp 1, .B p2, .B p3, .I p4]), (1, .mpb .t_disk_file xh1_23h)]⟩) ?_
  obtain rfl := Option.some.inj h
  exact ⟨rfl, _, rfl, rfl⟩
 ·rintro e S ⟨rfl, xh1_23, rfl, rfl⟩
  refine ⟨_, Turns.refl, ?_⟩
  refine sr0 L 263 [] [] [] (S' := ⟨[], [(0, .raw [.B true, .I p1, .mp 1, .B false, .B false, .I 0]), (1, .mpb .t_disk_file xh1_23)]⟩) ?_
  refine sr0 L 276 [] [] [] (S' := ⟨[(4, .I 0)], [(0, .raw [.B true, .I p1, .mp 1, .B false, .B false, .I 0]), (1, .mpb .t_disk_file xh1_23)]⟩) ?_
  refine awp_ret ?_
  obtain rfl := Option.some.inj h
  exact er (.I 0)
theorem disk_Disk_Crash_v2.okE {K : Nat} {p0 : Int} {p1 : Int} {p2 : Bool} {p3 : Bool} {p4 : Int} {p5 : List (List UInt8 × disk_file)} {r : Int × Bool × Bool × Int × (List (List UInt8 × disk_file))} (h : disk_Disk_Crash_v2 K p0 p1 p2 p3 p4 p5 = some r) : ECall V P 16 [.P 0, .I p0] [(0, .raw [.B true, .I p1, .mp 1, .B p2, .B p3, .I p4]), (1, .mpb .t_disk_file p5)] [0, 1] (.I r.1) [(0, .raw [.B true, .I p1, .mp 1, .B r.2.1, .B r.2.2.1, .I r.2.2.2.1]), (1, .mpb .t_disk_file r.2.2.2.2)] :=
 eo (fn := Try.f16) (n := 60) (m := 100) fun Γ => disk_Disk_Crash_v2.body h
def disk_Disk_Read (K : Nat) (p0 : Int) (p1 : List (List UInt8 × disk_file)) (p2 : Bool) (p3 : Bool) (p4 : Int) (p5 : List UInt8) : Option ((List UInt8) × Int) := (Option.bind (disk_Disk_existing K p0 p1 p2 p3 p4 p5 ([] : List (List UInt8))) (fun (a1_0, a1_1) => (if a1_1 ≠ 0 then some (([] : List UInt8), a1_1) else (Option.bind (slices_Clone_26 K a1_0.bytes) (fun a2 => some (a2, 0))))))
theorem disk_Disk_Read.body {Γ : Ent} {K : Nat} {p0 : Int} {p1 : List (List UInt8 × disk_file)} {p2 : Bool} {p3 : Bool} {p4 : Int} {p5 : List UInt8} {r : (List UInt8) × Int} (h : disk_Disk_Read K p0 p1 p2 p3 p4 p5 = some r) : AWp V P 20 100 Γ (Try.f15.body.getD .skip) (EndsE P V Try.f15 (.tup [.cv (.ro .t_uint8 r.1), .I r.2]) []) ⟨args0 0 [.cv (.pcs [.B true, .I p0, .rom .t_disk_file p1, .B p2, .B p3, .I p4] 0), .cv (.str p5)], []⟩ := by
 unfold disk_Disk_Read at h
 refine sr0 L 200 [] [] [] (S' := ⟨[(0, .cv (.pcs [.B true, .I p0, .rom .t_disk_file p1, .B p2, .B p3, .I p4] 0)), (1, .cv (.str p5))], []⟩) ?_
 refine awp_seq ?_
 obtain ⟨⟨a1_0, a1_1⟩, h1, h⟩ := bind_some h
 dsimp only at h
 refine ar L 203 [] [(2, .tup [.agg (d_disk_file a1_0), .I a1_1])] [] (cs := [PCall V P 30 [.cv (.pcs [.B true, .I p0, .rom .t_disk_file p1, .B p2, .B p3, .I p4] 0), .cv (.str p5), .N] (.tup [.agg (d_disk_file a1_0), .I a1_1]), True]) (S' := ⟨[(6, .P 209), (7, .I a1_1)], [(209, .raw (d_disk_file a1_0))]⟩) (And.intro (PCall.co V (disk_Disk_existing.ok h1) (by kernel_rfl)) trivial) ?_
 refine awp_seq ?_
 refine sr0 L 213 [] [] [] (S' := ⟨[(6, .P 209), (7, .I a1_1), (15, .B (decide (a1_1 ≠ 0)))], [(209, .raw (d_disk_file a1_0))]⟩) ?_
 rcases ite_some h with ⟨c1, h⟩ | ⟨c1, h⟩
 ·refine tt (b := (decide (a1_1 ≠ 0))) (decide_eq_true c1) ?_
  refine sr0 L 216 [] [] [] (S' := ⟨[(4, .N), (5, .I a1_1)], []⟩) ?_
  refine awp_ret ?_
  obtain rfl := Option.some.inj h
  exact er (.tup [.N, .I a1_1])
 refine ff (b := (decide (a1_1 ≠ 0))) (decide_eq_false c1) ?_
 refine awp_skip' ?_
 refine awp_seq ?_
 obtain ⟨a2, ha2, h⟩ := bind_some h
 refine ar L 220 [] [(2, .cv (.ro .t_uint8 a2))] [] (cs := [PCall V P 26 [.cv (.ro .t_uint8 a1_0.bytes)] (.cv (.ro .t_uint8 a2)), True]) (S' := ⟨[(4, .cv (.ro .t_uint8 a2)), (5, .I 0)], []⟩) (And.intro (slices_Clone_26.ok ha2) trivial) ?_
 refine awp_ret ?_
 obtain rfl := Option.some.inj h
 exact er (.tup [.cv (.ro .t_uint8 a2), .I 0])
theorem disk_Disk_Read.ok {K : Nat} {p0 : Int} {p1 : List (List UInt8 × disk_file)} {p2 : Bool} {p3 : Bool} {p4 : Int} {p5 : List UInt8} {r : (List UInt8) × Int} (h : disk_Disk_Read K p0 p1 p2 p3 p4 p5 = some r) : PCall V P 15 [.cv (.pcs [.B true, .I p0, .rom .t_disk_file p1, .B p2, .B p3, .I p4] 0), .cv (.str p5)] (.tup [.cv (.ro .t_uint8 r.1), .I r.2]) := ECall.pcall (eo (fn := Try.f15) (n := 20) (m := 100) fun Γ => disk_Disk_Read.body h) (by kernel_rfl)
def disk_Disk_Read_v2 (K : Nat) (p0 : List UInt8) (p1 : Int) (p2 : Bool) (p3 : Bool) (p4 : Int) (p5 : List (List UInt8 × disk_file)) : Option ((List UInt8) × Int × (List (List UInt8 × disk_file))) := (Option.bind (disk_Disk_existing_v2 K p0 ([] : List (List UInt8)) p1 p2 p3 p4 p5) (fun (a1_0, a1_1, a1_2) => (if a1_1 ≠ 0 then some (([] : List UInt8), a1_1, a1_2) else (Option.bind (slices_Clone_26 K a1_0.bytes) (fun a2 => some (a2, 0, a1_2))))))
theorem disk_Disk_Read_v2.body {Γ : Ent} {K : Nat} {p0 : List UInt8} {p1 : Int} {p2 : Bool} {p3 : Bool} {p4 : Int} {p5 : List (List UInt8 × disk_file)} {r : (List UInt8) × Int × (List (List UInt8 × disk_file))} (h : disk_Disk_Read_v2 K p0 p1 p2 p3 p4 p5 = some r) : AWp V P 20 100 Γ (Try.f15.body.getD .skip) (EndsE P V Try.f15 (.tup [.cv (.ro .t_uint8 r.1), .I r.2.1]) [(0, .raw [.B true, .I p1, .mp 1, .B p2, .B p3, .I p4]), (1, .mpb .t_disk_file r.2.2)]) ⟨args0 0 [.P 0, .cv (.str p0)], [(0, .raw [.B true, .I p1, .mp 1, .B p2, .B p3, .I p4]), (1, .mpb .t_disk_file p5)]⟩ := by
 unfold disk_Disk_Read_v2 at h
 refine sr0 L 200 [] [] [] (S' := ⟨[(0, .P 0), (1, .cv (.str p0))], [(0, .raw [.B true, .I p1, .mp 1, .B p2, .B p3, .I p4]), (1, .mpb .t_disk_file p5)]⟩) ?_
 refine awp_seq ?_
 obtain ⟨⟨a1_0, a1_1, a1_2⟩, h1, h⟩ := bind_some h
 dsimp only at h
 refine ar L 203 [] [] [(2, { hids := [0, 1], fx := [0, 1], r := .tup [.agg (d_disk_file a1_0), .I a1_1], H' := [(0, .raw [.B true, .I p1, .mp 1, .B p2, .B p3, .I p4]), (1, .mpb .t_disk_file a1_2)], σ := [(0, 0), (1, 1)] })] (cs := [ECall V P 30 [.P 0, .cv (.str p0), .N] [(0, .raw [.B true, .I p1, .mp 1, .B p2, .B p3, .I p4]), (1, .mpb .t_disk_file p5)] [0, 1] (.tup [.agg (d_disk_file a1_0), .I a1_1]) [(0, .raw [.B true, .I p1, .mp 1, .B p2, .B p3, .I p4]), (1, .mpb .t_disk_file a1_2)]]) (S' := ⟨[(6, .P 209), (7, .I a1_1)], [(0, .raw [.B true, .I p1, .mp 1, .B p2, .B p3, .I p4]), (1, .mpb .t_disk_file a1_2), (209, .raw (d_disk_file a1_0))]⟩) (ECall.co (disk_Disk_existing_v2.okE h1) (by kernel_rfl) (by kernel_rfl)) ?_
 refine awp_seq ?_
 refine sr0 L 213 [] [] [] (S' := ⟨[(6, .P 209), (7, .I a1_1), (15, .B (decide (a1_1 ≠ 0)))], [(0, .raw [.B true, .I p1, .mp 1, .B p2, .B p3, .I p4]), (1, .mpb .t_disk_file a1_2), (209, .raw (d_disk_file a1_0))]⟩) ?_
 rcases ite_some h with ⟨c1, h⟩ | ⟨c1, h⟩
 ·refine tt (b := (decide (a1_1 ≠ 0))) (decide_eq_true c1) ?_
  refine sr0 L 216 [] [] [] (S' := ⟨[(4, .N), (5, .I a1_1)], [(0, .raw [.B true, .I p1, .mp 1, .B p2, .B p3, .I p4]), (1, .mpb .t_disk_file a1_2)]⟩) ?_
  refine awp_ret ?_
  obtain rfl := Option.some.inj h
  exact er (.tup [.N, .I a1_1])
 refine ff (b := (decide (a1_1 ≠ 0))) (decide_eq_false c1) ?_
 refine awp_skip' ?_
 refine awp_seq ?_
 obtain ⟨a2, ha2, h⟩ := bind_some h
 refine ar L 220 [] [(2, .cv (.ro .t_uint8 a2))] [] (cs := [PCall V P 26 [.cv (.ro .t_uint8 a1_0.bytes)] (.cv (.ro .t_uint8 a2)), True]) (S' := ⟨[(4, .cv (.ro .t_uint8 a2)), (5, .I 0)], [(0, .raw [.B true, .I p1, .mp 1, .B p2, .B p3, .I p4]), (1, .mpb .t_disk_file a1_2)]⟩) (And.intro (slices_Clone_26.ok ha2) trivial) ?_
 refine awp_ret ?_
 obtain rfl := Option.some.inj h
 exact er (.tup [.cv (.ro .t_uint8 a2), .I 0])
theorem disk_Disk_Read_v2.okE {K : Nat} {p0 : List UInt8} {p1 : Int} {p2 : Bool} {p3 : Bool} {p4 : Int} {p5 : List (List UInt8 × disk_file)} {r : (List UInt8) × Int × (List (List UInt8 × disk_file))} (h : disk_Disk_Read_v2 K p0 p1 p2 p3 p4 p5 = some r) : ECall V P 15 [.P 0, .cv (.str p0)] [(0, .raw [.B true, .I p1, .mp 1, .B p2, .B p3, .I p4]), (1, .mpb .t_disk_file p5)] [0, 1] (.tup [.cv (.ro .t_uint8 r.1), .I r.2.1]) [(0, .raw [.B true, .I p1, .mp 1, .B p2, .B p3, .I p4]), (1, .mpb .t_disk_file r.2.2)] :=
 eo (fn := Try.f15) (n := 20) (m := 100) fun Γ => disk_Disk_Read_v2.body h
def disk_Disk_Fuse_v2 (K : Nat) (p0 : Int) (p1 : Int) (p2 : Bool) (p3 : Bool) (p4 : Int) (p5 : List (List UInt8 × disk_file)) : Option (Int × Bool × Int × (List (List UInt8 × disk_file))) := (Option.bind (disk_Disk_working K p1 p5 p2 p3 p4) (fun a1 => (if a1 ≠ 0 then some (a1, p3, p4, p5) else (if p0 < 0 then some (2, p3, p4, p5) else some (0, true, p0, p5)))))
theorem disk_Disk_Fuse_v2.body {Γ : Ent} {K : Nat} {p0 : Int} {p1 : Int} {p2 : Bool} {p3 : Bool} {p4 : Int} {p5 : List (List UInt8 × disk_file)} {r : Int × Bool × Int × (List (List UInt8 × disk_file))} (h : disk_Disk_Fuse_v2 K p0 p1 p2 p3 p4 p5 = some r) : AWp V P 20 100 Γ (Try.f9.body.getD .skip) (EndsE P V Try.f9 (.I r.1) [(0, .raw [.B true, .I p1, .mp 1, .B p2, .B r.2.1, .I r.2.2.1]), (1, .mpb .t_disk_file r.2.2.2)]) ⟨args0 0 [.P 0, .I p0], [(0, .raw [.B true, .I p1, .mp 1, .B p2, .B p3, .I p4]), (1, .mpb .t_disk_file p5)]⟩ := by
 unfold disk_Disk_Fuse_v2 at h
 refine sr0 L 200 [] [] [] (S' := ⟨[(0, .P 0), (1, .I p0)], [(0, .raw [.B true, .I p1, .mp 1, .B p2, .B p3, .I p4]), (1, .mpb .t_disk_file p5)]⟩) ?_
 refine awp_seq ?_
 refine awp_seq ?_
 obtain ⟨a1, h1, h⟩ := bind_some h
 refine ar L 202 [] [(1, .I a1)] [] (cs := [PCall V P 24 [.cv (.pcs [.B true, .I p1, .rom .t_disk_file p5, .B p2, .B p3, .I p4] 0)] (.I a1), True]) (S' := ⟨[(0, .P 0), (1, .I p0), (5, .I a1)], [(0, .raw [.B true, .I p1, .mp 1, .B p2, .B p3, .I p4]), (1, .mpb .t_disk_file p5)]⟩) (And.intro (disk_Disk_working.ok h1) trivial) ?_
 refine sr0 L 206 [] [] [] (S' := ⟨[(0, .P 0), (1, .I p0), (5, .I a1), (9, .B (decide (a1 ≠ 0)))], [(0, .raw [.B true, .I p1, .mp 1, .B p2, .B p3, .I p4]), (1, .mpb .t_disk_file p5)]⟩) ?_
 rcases ite_some h with ⟨c1, h⟩ | ⟨c1, h⟩
 ·refine tt (b := (decide (a1 ≠ 0))) (decide_eq_true c1) ?_
  refine sr0 L 209 [] [] [] (S' := ⟨[(4, .I a1)], [(0, .raw [.B true, .I p1, .mp 1, .B p2, .B p3, .I p4]), (1, .mpb .t_disk_file p5)]⟩) ?_
  refine awp_ret ?_
  obtain rfl := Option.some.inj h
  exact er (.I a1)
 refine ff (b := (decide (a1 ≠ 0))) (decide_eq_false c1) ?_
 refine awp_skip' ?_
 refine awp_seq ?_
 refine sr0 L 212 [] [] [] (S' := ⟨[(0, .P 0), (1, .I p0), (12, .B (decide (p0 < 0)))], [(0, .raw [.B true, .I p1, .mp 1, .B p2, .B p3, .I p4]), (1, .mpb .t_disk_file p5)]⟩) ?_
 rcases ite_some h with ⟨c2, h⟩ | ⟨c2, h⟩
 ·refine tt (b := (decide (p0 < 0))) (decide_eq_true c2) ?_
  refine sr0 L 215 [] [] [] (S' := ⟨[(4, .I 2)], [(0, .raw [.B true, .I p1, .mp 1, .B p2, .B p3, .I p4]), (1, .mpb .t_disk_file p5)]⟩) ?_
  refine awp_ret ?_
  obtain rfl := Option.some.inj h
  exact er (.I 2)
 refine ff (b := (decide (p0 < 0))) (decide_eq_false c2) ?_
 refine awp_skip' ?_
 refine sr0 L 217 [] [] [] (S' := ⟨[], [(0, .raw [.B true, .I p1, .mp 1, .B p2, .B true, .I p0]), (1, .mpb .t_disk_file p5)]⟩) ?_
 refine sr0 L 227 [] [] [] (S' := ⟨[(4, .I 0)], [(0, .raw [.B true, .I p1, .mp 1, .B p2, .B true, .I p0]), (1, .mpb .t_disk_file p5)]⟩) ?_
 refine awp_ret ?_
 obtain rfl := Option.some.inj h
 exact er (.I 0)
theorem disk_Disk_Fuse_v2.okE {K : Nat} {p0 : Int} {p1 : Int} {p2 : Bool} {p3 : Bool} {p4 : Int} {p5 : List (List UInt8 × disk_file)} {r : Int × Bool × Int × (List (List UInt8 × disk_file))} (h : disk_Disk_Fuse_v2 K p0 p1 p2 p3 p4 p5 = some r) : ECall V P 9 [.P 0, .I p0] [(0, .raw [.B true, .I p1, .mp 1, .B p2, .B p3, .I p4]), (1, .mpb .t_disk_file p5)] [0, 1] (.I r.1) [(0, .raw [.B true, .I p1, .mp 1, .B p2, .B r.2.1, .I r.2.2.1]), (1, .mpb .t_disk_file r.2.2.2)] :=
 eo (fn := Try.f9) (n := 20) (m := 100) fun Γ => disk_Disk_Fuse_v2.body h
def workflowlaw50_equal (K : Nat) (p0 : List UInt8) (p1 : List UInt8) : Option Bool := some (decide ((p0.map (fun b => b)) = (p1.map (fun b => b))))
theorem workflowlaw50_equal.body {Γ : Ent} {K : Nat} {p0 : List UInt8} {p1 : List UInt8} {r : Bool} (h : workflowlaw50_equal K p0 p1 = some r) : AWp V P 10 100 Γ (Try.f21.body.getD .skip) (EndsE P V Try.f21 (.B r) []) ⟨args0 0 [.cv (.ro .t_uint8 p0), .cv (.ro .t_uint8 p1)], []⟩ := by
 unfold workflowlaw50_equal at h
 refine sr0 L 200 [] [] [] (S' := ⟨[(0, .cv (.ro .t_uint8 p0)), (1, .cv (.ro .t_uint8 p1))], []⟩) ?_
 refine sr0 L 202 [] [] [] (S' := ⟨[(4, .B (decide ((p0.map (fun b => b)) = (p1.map (fun b => b)))))], []⟩) ?_
 refine awp_ret ?_
 obtain rfl := Option.some.inj h
 exact er (.B (decide ((p0.map (fun b => b)) = (p1.map (fun b => b)))))
theorem workflowlaw50_equal.ok {K : Nat} {p0 : List UInt8} {p1 : List UInt8} {r : Bool} (h : workflowlaw50_equal K p0 p1 = some r) : PCall V P 21 [.cv (.ro .t_uint8 p0), .cv (.ro .t_uint8 p1)] (.B r) := ECall.pcall (eo (fn := Try.f21) (n := 10) (m := 100) fun Γ => workflowlaw50_equal.body h) (by kernel_rfl)
def disk_Disk_Dead (K : Nat) (p0 : Int) (p1 : List (List UInt8 × disk_file)) (p2 : Bool) (p3 : Bool) (p4 : Int) : Option Unit := (Option.bind (disk_Disk_ok K p0 p1 p2 p3 p4) (fun _ => some ()))
theorem disk_Disk_Dead.body {Γ : Ent} {K : Nat} {p0 : Int} {p1 : List (List UInt8 × disk_file)} {p2 : Bool} {p3 : Bool} {p4 : Int} {r : Unit} (h : disk_Disk_Dead K p0 p1 p2 p3 p4 = some r) : AWp V P 11 100 Γ (Try.f12.body.getD .skip) (EndsE P V Try.f12 (.B p2) []) ⟨args0 0 [.cv (.pcs [.B true, .I p0, .rom .t_disk_file p1, .B p2, .B p3, .I p4] 0)], []⟩ := by
 unfold disk_Disk_Dead at h
 refine sr0 L 200 [] [] [] (S' := ⟨[(0, .cv (.pcs [.B true, .I p0, .rom .t_disk_file p1, .B p2, .B p3, .I p4] 0))], []⟩) ?_
 refine awp_seq ?_
 obtain ⟨⟨⟩, h1, h⟩ := bind_some h
 refine ar L 202 [] [(1, .B true)] [] (cs := [PCall V P 25 [.cv (.pcs [.B true, .I p0, .rom .t_disk_file p1, .B p2, .B p3, .I p4] 0)] (.B true), True]) (S' := ⟨[(2, .B p2)], []⟩) (And.intro (disk_Disk_ok.ok h1) trivial) ?_
 refine awp_ret ?_
 obtain rfl := Option.some.inj h
 exact er (.B p2)
theorem disk_Disk_Dead.ok {K : Nat} {p0 : Int} {p1 : List (List UInt8 × disk_file)} {p2 : Bool} {p3 : Bool} {p4 : Int} {r : Unit} (h : disk_Disk_Dead K p0 p1 p2 p3 p4 = some r) : PCall V P 12 [.cv (.pcs [.B true, .I p0, .rom .t_disk_file p1, .B p2, .B p3, .I p4] 0)] (.B p2) := ECall.pcall (eo (fn := Try.f12) (n := 11) (m := 100) fun Γ => disk_Disk_Dead.body h) (by kernel_rfl)
def disk_Disk_ok_v2 (K : Nat) : Option Unit := some ()
theorem disk_Disk_ok_v2.body {Γ : Ent} {K : Nat} {r : Unit} (h : disk_Disk_ok_v2 K = some r) : AWp V P 11 100 Γ (Try.f25.body.getD .skip) (EndsE P V Try.f25 (.B false) []) ⟨args0 0 [.cv (.lit (.pointer none))], []⟩ := by
 unfold disk_Disk_ok_v2 at h
 refine sr0 L 200 [] [] [] (S' := ⟨[(0, .cv (.lit (.pointer none)))], []⟩) ?_
 refine sr0 L 202 [] [] [] (S' := ⟨[(2, .B false)], []⟩) ?_
 refine awp_ret ?_
 obtain rfl := Option.some.inj h
 exact er (.B false)
theorem disk_Disk_ok_v2.ok {K : Nat} {r : Unit} (h : disk_Disk_ok_v2 K = some r) : PCall V P 25 [.cv (.lit (.pointer none))] (.B false) := ECall.pcall (eo (fn := Try.f25) (n := 11) (m := 100) fun Γ => disk_Disk_ok_v2.body h) (by kernel_rfl)
def disk_Disk_working_v2 (K : Nat) : Option Unit := (Option.bind (disk_Disk_ok_v2 K) (fun _ => some ()))
theorem disk_Disk_working_v2.body {Γ : Ent} {K : Nat} {r : Unit} (h : disk_Disk_working_v2 K = some r) : AWp V P 12 100 Γ (Try.f24.body.getD .skip) (EndsE P V Try.f24 (.I 1) []) ⟨args0 0 [.cv (.lit (.pointer none))], []⟩ := by
 unfold disk_Disk_working_v2 at h
 refine sr0 L 200 [] [] [] (S' := ⟨[(0, .cv (.lit (.pointer none)))], []⟩) ?_
 refine awp_seq ?_
 refine awp_block ?_
 refine awp_seq ?_
 obtain ⟨⟨⟩, h1, h⟩ := bind_some h
 refine ar L 202 [] [(1, .B false)] [] (cs := [PCall V P 25 [.cv (.lit (.pointer none))] (.B false), True]) (S' := ⟨[(0, .cv (.lit (.pointer none))), (3, .B true)], []⟩) (And.intro (disk_Disk_ok_v2.ok h1) trivial) ?_
 refine tt (b := true) (rfl) ?_
 refine sr0 L 207 [] [] [] (S' := ⟨[(2, .I 1)], []⟩) ?_
 refine awp_ret ?_
 obtain rfl := Option.some.inj h
 exact er (.I 1)
theorem disk_Disk_working_v2.ok {K : Nat} {r : Unit} (h : disk_Disk_working_v2 K = some r) : PCall V P 24 [.cv (.lit (.pointer none))] (.I 1) := ECall.pcall (eo (fn := Try.f24) (n := 12) (m := 100) fun Γ => disk_Disk_working_v2.body h) (by kernel_rfl)
def disk_Disk_named_v2 (K : Nat) (p0 : List (List UInt8)) : Option Unit := (Option.bind (disk_Disk_working_v2 K) (fun _ => some ()))
theorem disk_Disk_named_v2.body {Γ : Ent} {K : Nat} {p0 : List (List UInt8)} {r : Unit} (h : disk_Disk_named_v2 K p0 = some r) : AWp V P 27 100 Γ (Try.f27.body.getD .skip) (EndsE P V Try.f27 (.I 1) []) ⟨args0 0 [.cv (.lit (.pointer none)), .cv (.ro .t_string p0)], []⟩ := by
 unfold disk_Disk_named_v2 at h
 refine sr0 L 200 [] [] [] (S' := ⟨[(0, .cv (.lit (.pointer none))), (1, .cv (.ro .t_string p0))], []⟩) ?_
 refine awp_seq ?_
 refine awp_seq ?_
 obtain ⟨⟨⟩, h1, h⟩ := bind_some h
 refine ar L 202 [] [(1, .I 1)] [] (cs := [PCall V P 24 [.cv (.lit (.pointer none))] (.I 1), True]) (S' := ⟨[(1, .cv (.ro .t_string p0)), (5, .I 1)], []⟩) (And.intro (disk_Disk_working_v2.ok h1) trivial) ?_
 refine sr0 L 206 [] [] [] (S' := ⟨[(1, .cv (.ro .t_string p0)), (5, .I 1), (11, .B true)], []⟩) ?_
 refine tt (b := true) (rfl) ?_
 refine sr0 L 209 [] [] [] (S' := ⟨[(4, .I 1)], []⟩) ?_
 refine awp_ret ?_
 obtain rfl := Option.some.inj h
 exact er (.I 1)
theorem disk_Disk_named_v2.ok {K : Nat} {p0 : List (List UInt8)} {r : Unit} (h : disk_Disk_named_v2 K p0 = some r) : PCall V P 27 [.cv (.lit (.pointer none)), .cv (.ro .t_string p0)] (.I 1) := ECall.pcall (eo (fn := Try.f27) (n := 27) (m := 100) fun Γ => disk_Disk_named_v2.body h) (by kernel_rfl)
def disk_Disk_existing_v3 (K : Nat) (p0 : List UInt8) (p1 : List (List UInt8)) : Option disk_file := (if (([p0] : List (List UInt8)).length + p1.length) * 16 ≤ 140737488355328 then (Option.bind (disk_Disk_named_v2 K (([p0] : List (List UInt8)) ++ p1)) (fun _ => some (⟨([] : List UInt8), 0⟩ : disk_file))) else none)
theorem disk_Disk_existing_v3.body {Γ : Ent} {K : Nat} {p0 : List UInt8} {p1 : List (List UInt8)} {r : disk_file} (h : disk_Disk_existing_v3 K p0 p1 = some r) : AWp V P 34 100 Γ (Try.f30.body.getD .skip) (EndsE P V Try.f30 (.tup [.agg [.ro .t_uint8 r.bytes, .I r.safe], .I 1]) []) ⟨args0 0 [.cv (.lit (.pointer none)), .cv (.str p0), .cv (.ro .t_string p1)], []⟩ := by
 unfold disk_Disk_existing_v3 at h
 refine sr0 L 200 [] [] [] (S' := ⟨[(0, .cv (.lit (.pointer none))), (1, .cv (.str p0)), (2, .cv (.ro .t_string p1)), (6, .P 200)], [(200, .raw [.N, .I 0])]⟩) ?_
 refine awp_seq ?_
 refine awp_seq ?_
 obtain ⟨g1, h⟩ := guard_some h
 obtain ⟨⟨⟩, h1, h⟩ := bind_some h
 refine ar L 100203 [] [(5, .I 1)] [] (cs := [(([p0] : List (List UInt8)).length + p1.length) * 16 ≤ 140737488355328, True, PCall V P 27 [.cv (.lit (.pointer none)), .cv (.ro .t_string (([p0] : List (List UInt8)) ++ p1))] (.I 1), True]) (S' := ⟨[(0, .cv (.lit (.pointer none))), (1, .cv (.str p0)), (6, .P 200), (8, .I 1)], [(200, .raw [.N, .I 0])]⟩) (And.intro g1 (And.intro trivial (And.intro (disk_Disk_named_v2.ok h1) trivial))) ?_
 refine sr0 L 211 [] [] [] (S' := ⟨[(0, .cv (.lit (.pointer none))), (1, .cv (.str p0)), (6, .P 200), (8, .I 1), (18, .B true)], [(200, .raw [.N, .I 0])]⟩) ?_
 refine tt (b := true) (rfl) ?_
 refine sr0 L 214 [] [] [] (S' := ⟨[(6, .P 200), (7, .I 1)], [(200, .raw [.N, .I 0])]⟩) ?_
 refine awp_turn (Turns.rn [(200, 100)] (S' := ⟨[(6, .P 100), (7, .I 1)], [(100, .raw [.N, .I 0])]⟩)) ?_
 refine awp_ret ?_
 obtain rfl := Option.some.inj h
 exact er (.tup [.agg [.N, .I 0], .I 1])
theorem disk_Disk_existing_v3.ok {K : Nat} {p0 : List UInt8} {p1 : List (List UInt8)} {r : disk_file} (h : disk_Disk_existing_v3 K p0 p1 = some r) : PCall V P 30 [.cv (.lit (.pointer none)), .cv (.str p0), .cv (.ro .t_string p1)] (.tup [.agg [.ro .t_uint8 r.bytes, .I r.safe], .I 1]) := ECall.pcall (eo (fn := Try.f30) (n := 34) (m := 100) fun Γ => disk_Disk_existing_v3.body h) (by kernel_rfl)
def disk_Disk_Sync_v3 (K : Nat) (p0 : List UInt8) : Option Unit := (Option.bind (disk_Disk_existing_v3 K p0 ([] : List (List UInt8))) (fun a1 => some ()))
theorem disk_Disk_Sync_v3.body {Γ : Ent} {K : Nat} {p0 : List UInt8} {r : Unit} (h : disk_Disk_Sync_v3 K p0 = some r) : AWp V P 19 100 Γ (Try.f13.body.getD .skip) (EndsE P V Try.f13 (.I 1) []) ⟨args0 0 [.cv (.lit (.pointer none)), .cv (.str p0)], []⟩ := by
 unfold disk_Disk_Sync_v3 at h
 refine sr0 L 200 [] [] [] (S' := ⟨[(2, .P 200), (3, .P 201)], [(200, .raw [.lit (.pointer none)]), (201, .raw [.str p0])]⟩) ?_
 refine awp_seq ?_
 obtain ⟨a1, h1, h⟩ := bind_some h
 refine ar L 204 [] [(2, .tup [.agg (d_disk_file a1), .I 1])] [] (cs := [PCall V P 30 [.cv (.lit (.pointer none)), .cv (.str p0), .N] (.tup [.agg (d_disk_file a1), .I 1]), True]) (S' := ⟨[(2, .P 200), (3, .P 201), (5, .P 210), (6, .I 1)], [(200, .raw [.lit (.pointer none)]), (201, .raw [.str p0]), (210, .raw (d_disk_file a1))]⟩) (And.intro (PCall.co V (disk_Disk_existing_v3.ok h1) (by kernel_rfl)) trivial) ?_
 refine awp_seq ?_
 refine sr0 L 214 [] [] [] (S' := ⟨[(2, .P 200), (3, .P 201), (5, .P 210), (6, .I 1), (14, .B true)], [(200, .raw [.lit (.pointer none)]), (201, .raw [.str p0]), (210, .raw (d_disk_file a1))]⟩) ?_
 refine tt (b := true) (rfl) ?_
 refine sr0 L 217 [] [] [] (S' := ⟨[(4, .I 1)], []⟩) ?_
 refine awp_ret ?_
 obtain rfl := Option.some.inj h
 exact er (.I 1)
theorem disk_Disk_Sync_v3.ok {K : Nat} {p0 : List UInt8} {r : Unit} (h : disk_Disk_Sync_v3 K p0 = some r) : PCall V P 13 [.cv (.lit (.pointer none)), .cv (.str p0)] (.I 1) := ECall.pcall (eo (fn := Try.f13) (n := 19) (m := 100) fun Γ => disk_Disk_Sync_v3.body h) (by kernel_rfl)
def disk_Disk_Copy_v2 (K : Nat) : Option Unit := (Option.bind (disk_Disk_ok_v2 K) (fun _ => some ()))
theorem disk_Disk_Copy_v2.body {Γ : Ent} {K : Nat} {r : Unit} (h : disk_Disk_Copy_v2 K = some r) : AWp V P 33 100 Γ (Try.f10.body.getD .skip) (EndsE P V Try.f10 (.cv (.lit (.pointer none))) []) ⟨args0 0 [.cv (.lit (.pointer none))], []⟩ := by
 unfold disk_Disk_Copy_v2 at h
 refine sr0 L 200 [] [] [] (S' := ⟨[(0, .cv (.lit (.pointer none)))], []⟩) ?_
 refine awp_seq ?_
 refine awp_seq ?_
 obtain ⟨⟨⟩, h1, h⟩ := bind_some h
 refine ar L 202 [] [(1, .B false)] [] (cs := [PCall V P 25 [.cv (.lit (.pointer none))] (.B false), True]) (S' := ⟨[(0, .cv (.lit (.pointer none))), (8, .B true)], []⟩) (And.intro (disk_Disk_ok_v2.ok h1) trivial) ?_
 refine tt (b := true) (rfl) ?_
 refine sr0 L 206 [] [] [] (S' := ⟨[(2, .cv (.lit (.pointer none)))], []⟩) ?_
 refine awp_ret ?_
 obtain rfl := Option.some.inj h
 exact er (.cv (.lit (.pointer none)))
theorem disk_Disk_Copy_v2.ok {K : Nat} {r : Unit} (h : disk_Disk_Copy_v2 K = some r) : PCall V P 10 [.cv (.lit (.pointer none))] (.cv (.lit (.pointer none))) := ECall.pcall (eo (fn := Try.f10) (n := 33) (m := 100) fun Γ => disk_Disk_Copy_v2.body h) (by kernel_rfl)
def workflowlaw50_lives (K : Nat) : Option Bool := (Option.bind (disk_New K 100) (fun a1 => match a1 with | (Sum.inl ()) => some false | (Sum.inr ()) => (Option.bind (disk_Disk_Append_v2 K ([97] : List UInt8) ([(UInt8.ofNat (Int.toNat 120)), (UInt8.ofNat (Int.toNat 121))] : List UInt8) 100 false false 0 ([] : List (List UInt8 × disk_file))) (fun (a2_0, a2_1, a2_2, a2_3) => (Option.bind (disk_Disk_Sync_v2 K ([97] : List UInt8) 100 a2_1 false a2_2 a2_3) (fun (a3_0, a3_1, a3_2, a3_3) => (Option.bind (disk_Disk_Append_v2 K ([97] : List UInt8) ([(UInt8.ofNat (Int.toNat 122))] : List UInt8) 100 a3_1 false a3_2 a3_3) (fun (a4_0, a4_1, a4_2, a4_3) => (Option.bind (disk_Disk_Copy K 100 a4_3 a4_1 false a4_2) (fun a5 => (Option.bind (disk_Disk_Crash_v2 K 0 100 a4_1 false a4_2 a4_3) (fun (a6_0, a6_1, a6_2, a6_3, a6_4) => (Option.bind (disk_Disk_Crash_v2 K 1 100 a4_1 false a4_2 a5) (fun (a7_0, a7_1, a7_2, a7_3, a7_4) => (Option.bind (disk_Disk_Read_v2 K ([97] : List UInt8) 100 a6_1 a6_2 a6_3 a6_4) (fun (a8_0, a8_1, a8_2) => (Option.bind (disk_Disk_Read_v2 K ([97] : List UInt8) 100 a7_1 a7_2 a7_3 a7_4) (fun (a9_0, a9_1, a9_2) => (Option.bind (disk_Disk_Fuse_v2 K 1 100 a6_1 a6_2 a6_3 a8_2) (fun (a10_0, a10_1, a10_2, a10_3) => (Option.bind (disk_Disk_Append_v2 K ([98] : List UInt8) ([] : List UInt8) 100 a6_1 a10_1 a10_2 a10_3) (fun (a11_0, a11_1, a11_2, a11_3) => (Option.bind (disk_Disk_Sync_v2 K ([97] : List UInt8) 100 a11_1 a10_1 a11_2 a11_3) (fun (a12_0, a12_1, a12_2, a12_3) => (if (0 : Int) < (([a2_0, a3_0, a4_0] : List Int).length : Int) then (if (([a2_0, a3_0, a4_0] : List Int).getD (Int.toNat 0) (0 : Int)) = 0 then (if (1 : Int) < (([a2_0, a3_0, a4_0] : List Int).length : Int) then (if (([a2_0, a3_0, a4_0] : List Int).getD (Int.toNat 1) (0 : Int)) = 0 then (if (2 : Int) < (([a2_0, a3_0, a4_0] : List Int).length : Int) then (if (([a2_0, a3_0, a4_0] : List Int).getD (Int.toNat 2) (0 : Int)) = 0 then (Option.bind (workflowlaw50_equal K a8_0 ([(UInt8.ofNat (Int.toNat 120)), (UInt8.ofNat (Int.toNat 121))] : List UInt8)) (fun a13 => (if a13 = true then (Option.bind (workflowlaw50_equal K a9_0 ([(UInt8.ofNat (Int.toNat 120)), (UInt8.ofNat (Int.toNat 121)), (UInt8.ofNat (Int.toNat 122))] : List UInt8)) (fun a14 => (if a14 = true then (if a11_0 = 0 then (if a12_0 = 28 then (Option.bind (disk_Disk_Dead K 100 a12_3 a12_1 a10_1 a12_2) (fun _ => (if a12_1 = true then (Option.bind (disk_Disk_Sync_v3 K ([97] : List UInt8)) (fun _ => (Option.bind (disk_Disk_Copy_v2 K) (fun _ => some true)))) else some false))) else some false) else some false) else some false))) else some false))) else some false) else none) else some false) else none) else some false) else none)))))))))))))))))))))))))
theorem workflowlaw50_lives.body {Γ : Ent} {K : Nat} {r : Bool} (h : workflowlaw50_lives K = some r) : AWp V P 101 100 Γ (Try.f7.body.getD .skip) (EndsE P V Try.f7 (.B r) []) ⟨args0 0 [], []⟩ := by
 unfold workflowlaw50_lives at h
 refine sr0 L 200 [] [] [] (S' := ⟨[], []⟩) ?_
 refine awp_seq ?_
 obtain ⟨a1, h1, h⟩ := bind_some h
 rcases a1 with ⟨⟩ | a1
 ·dsimp only at h
  refine ar L 202 [] [] [(0, { hids := [], fx := [], r := .tup [.cv (.lit (.pointer none)), .I 2], H' := [], σ := [] })] (cs := [ECall V P 8 [.I 100] [] [] (.tup [.cv (.lit (.pointer none)), .I 2]) []]) (S' := ⟨[(1, .cv (.lit (.pointer none))), (2, .I 2)], []⟩) (disk_New.okE h1) ?_
  refine awp_seq ?_
  refine sr0 L 209 [] [] [] (S' := ⟨[(1, .cv (.lit (.pointer none))), (17, .B true)], []⟩) ?_
  refine tt (b := true) (rfl) ?_
  refine sr0 L 212 [] [] [] (S' := ⟨[(0, .B false)], []⟩) ?_
  refine awp_ret ?_
  obtain rfl := Option.some.inj h
  exact er (.B false)
 ·obtain ⟨⟩ := a1
  dsimp only at h
  refine ar L 202 [] [] [(0, { hids := [], fx := [], r := .tup [.P 100, .I 0], H' := [(100, .raw [.B true, .I 100, .mp 101, .B false, .B false, .I 0]), (101, .mpb .t_disk_file ([] : List (List UInt8 × disk_file)))], σ := [(100, 5016), (101, 5017)] })] (cs := [ECall V P 8 [.I 100] [] [] (.tup [.P 100, .I 0]) [(100, .raw [.B true, .I 100, .mp 101, .B false, .B false, .I 0]), (101, .mpb .t_disk_file ([] : List (List UInt8 × disk_file)))]]) (S' := ⟨[(1, .P 5016), (2, .I 0)], [(5016, .raw [.B true, .I 100, .mp 5017, .B false, .B false, .I 0]), (5017, .mpb .t_disk_file ([] : List (List UInt8 × disk_file)))]⟩) (disk_New.okE h1) ?_
  refine awp_seq ?_
  refine sr0 L 209 [] [] [] (S' := ⟨[(1, .P 5016), (17, .B false)], [(5016, .raw [.B true, .I 100, .mp 5017, .B false, .B false, .I 0]), (5017, .mpb .t_disk_file ([] : List (List UInt8 × disk_file)))]⟩) ?_
  refine ff (b := false) (rfl) ?_
  refine awp_skip' ?_
  refine awp_seq ?_
  obtain ⟨⟨a2_0, a2_1, a2_2, a2_3⟩, h2, h⟩ := bind_some h
  dsimp only at h
  obtain ⟨⟨a3_0, a3_1, a3_2, a3_3⟩, h3, h⟩ := bind_some h
  dsimp only at h
  obtain ⟨⟨a4_0, a4_1, a4_2, a4_3⟩, h4, h⟩ := bind_some h
  dsimp only at h
  refine ar L 214 [] [] [(3, { hids := [0, 1], fx := [0, 1], r := .I a2_0, H' := [(0, .raw [.B true, .I 100, .mp 1, .B a2_1, .B false, .I a2_2]), (1, .mpb .t_disk_file a2_3)], σ := [(0, 5016), (1, 5017)], fr := [215] }), (5, { hids := [0, 1], fx := [0, 1], r := .I a3_0, H' := [(0, .raw [.B true, .I 100, .mp 1, .B a3_1, .B false, .I a3_2]), (1, .mpb .t_disk_file a3_3)], σ := [(0, 5016), (1, 5017)] }), (9, { hids := [0, 1], fx := [0, 1], r := .I a4_0, H' := [(0, .raw [.B true, .I 100, .mp 1, .B a4_1, .B false, .I a4_2]), (1, .mpb .t_disk_file a4_3)], σ := [(0, 5016), (1, 5017)], fr := [221] })] (cs := [(0 : Int) ≤ 120, (120 : Int) < 256, (0 : Int) ≤ 121, (121 : Int) < 256, 0 < ([(UInt8.ofNat (Int.toNat 120)), (UInt8.ofNat (Int.toNat 121))] : List UInt8).length, ECall V P 11 [.P 0, .cv (.str ([97] : List UInt8)), .cv (.ro .t_uint8 ([(UInt8.ofNat (Int.toNat 120)), (UInt8.ofNat (Int.toNat 121))] : List UInt8))] [(0, .raw [.B true, .I 100, .mp 1, .B false, .B false, .I 0]), (1, .mpb .t_disk_file ([] : List (List UInt8 × disk_file)))] [0, 1] (.I a2_0) [(0, .raw [.B true, .I 100, .mp 1, .B a2_1, .B false, .I a2_2]), (1, .mpb .t_disk_file a2_3)], ECall V P 13 [.P 0, .cv (.str ([97] : List UInt8))] [(0, .raw [.B true, .I 100, .mp 1, .B a2_1, .B false, .I a2_2]), (1, .mpb .t_disk_file a2_3)] [0, 1] (.I a3_0) [(0, .raw [.B true, .I 100, .mp 1, .B a3_1, .B false, .I a3_2]), (1, .mpb .t_disk_file a3_3)], (0 : Int) ≤ 122, (122 : Int) < 256, 0 < ([(UInt8.ofNat (Int.toNat 122))] : List UInt8).length, ECall V P 11 [.P 0, .cv (.str ([97] : List UInt8)), .cv (.ro .t_uint8 ([(UInt8.ofNat (Int.toNat 122))] : List UInt8))] [(0, .raw [.B true, .I 100, .mp 1, .B a3_1, .B false, .I a3_2]), (1, .mpb .t_disk_file a3_3)] [0, 1] (.I a4_0) [(0, .raw [.B true, .I 100, .mp 1, .B a4_1, .B false, .I a4_2]), (1, .mpb .t_disk_file a4_3)]]) (S' := ⟨[(1, .P 5016), (3, .cv (.ro .t_api_Errno ([a2_0, a3_0, a4_0] : List Int)))], [(5016, .raw [.B true, .I 100, .mp 5017, .B a4_1, .B false, .I a4_2]), (5017, .mpb .t_disk_file a4_3)]⟩) (And.intro (show (0 : Int) ≤ 120 from by decide) (And.intro (show (120 : Int) < 256 from by decide) (And.intro (show (0 : Int) ≤ 121 from by decide) (And.intro (show (121 : Int) < 256 from by decide) (And.intro (show 0 < ([(UInt8.ofNat (Int.toNat 120)), (UInt8.ofNat (Int.toNat 121))] : List UInt8).length from by decide) (And.intro (disk_Disk_Append_v2.okE h2) (And.intro (disk_Disk_Sync_v2.okE h3) (And.intro (show (0 : Int) ≤ 122 from by decide) (And.intro (show (122 : Int) < 256 from by decide) (And.intro (show 0 < ([(UInt8.ofNat (Int.toNat 122))] : List UInt8).length from by decide) (disk_Disk_Append_v2.okE h4))))))))))) ?_
  refine awp_seq ?_
  obtain ⟨a5, h5, h⟩ := bind_some h
  refine ar L 227 [] [] [(1, { hids := [0, 1], fx := [0, 1], r := .P 100, H' := [(0, .raw [.B true, .I 100, .mp 1, .B a4_1, .B false, .I a4_2]), (1, .mpb .t_disk_file a4_3), (100, .raw [.B true, .I 100, .mp 101, .B a4_1, .B false, .I a4_2]), (101, .mpb .t_disk_file a5)], σ := [(0, 5016), (1, 5017), (100, 5224), (101, 5225)] })] (cs := [ECall V P 10 [.P 0] [(0, .raw [.B true, .I 100, .mp 1, .B a4_1, .B false, .I a4_2]), (1, .mpb .t_disk_file a4_3)] [0, 1] (.P 100) [(0, .raw [.B true, .I 100, .mp 1, .B a4_1, .B false, .I a4_2]), (1, .mpb .t_disk_file a4_3), (100, .raw [.B true, .I 100, .mp 101, .B a4_1, .B false, .I a4_2]), (101, .mpb .t_disk_file a5)]]) (S' := ⟨[(1, .P 5016), (3, .cv (.ro .t_api_Errno ([a2_0, a3_0, a4_0] : List Int))), (4, .P 5224)], [(5016, .raw [.B true, .I 100, .mp 5017, .B a4_1, .B false, .I a4_2]), (5017, .mpb .t_disk_file a4_3), (5224, .raw [.B true, .I 100, .mp 5225, .B a4_1, .B false, .I a4_2]), (5225, .mpb .t_disk_file a5)]⟩) (ECall.lift' L Tag.t_disk_file (fun x => by kernel_rfl) (disk_Disk_Copy.okE h5) (by kernel_rfl) (by kernel_rfl) (by kernel_rfl) (by kernel_rfl)) ?_
  refine awp_seq ?_
  obtain ⟨⟨a6_0, a6_1, a6_2, a6_3, a6_4⟩, h6, h⟩ := bind_some h
  dsimp only at h
  refine ar L 231 [] [] [(1, { hids := [0, 1], fx := [0, 1], r := .I a6_0, H' := [(0, .raw [.B true, .I 100, .mp 1, .B a6_1, .B a6_2, .I a6_3]), (1, .mpb .t_disk_file a6_4)], σ := [(0, 5016), (1, 5017)] })] (cs := [ECall V P 16 [.P 0, .I 0] [(0, .raw [.B true, .I 100, .mp 1, .B a4_1, .B false, .I a4_2]), (1, .mpb .t_disk_file a4_3)] [0, 1] (.I a6_0) [(0, .raw [.B true, .I 100, .mp 1, .B a6_1, .B a6_2, .I a6_3]), (1, .mpb .t_disk_file a6_4)]]) (S' := ⟨[(1, .P 5016), (3, .cv (.ro .t_api_Errno ([a2_0, a3_0, a4_0] : List Int))), (4, .P 5224)], [(5016, .raw [.B true, .I 100, .mp 5017, .B a6_1, .B a6_2, .I a6_3]), (5017, .mpb .t_disk_file a6_4), (5224, .raw [.B true, .I 100, .mp 5225, .B a4_1, .B false, .I a4_2]), (5225, .mpb .t_disk_file a5)]⟩) (disk_Disk_Crash_v2.okE h6) ?_
  refine awp_seq ?_
  obtain ⟨⟨a7_0, a7_1, a7_2, a7_3, a7_4⟩, h7, h⟩ := bind_some h
  dsimp only at h
  refine ar L 234 [] [] [(1, { hids := [0, 1], fx := [0, 1], r := .I a7_0, H' := [(0, .raw [.B true, .I 100, .mp 1, .B a7_1, .B a7_2, .I a7_3]), (1, .mpb .t_disk_file a7_4)], σ := [(0, 5224), (1, 5225)] })] (cs := [ECall V P 16 [.P 0, .I 1] [(0, .raw [.B true, .I 100, .mp 1, .B a4_1, .B false, .I a4_2]), (1, .mpb .t_disk_file a5)] [0, 1] (.I a7_0) [(0, .raw [.B true, .I 100, .mp 1, .B a7_1, .B a7_2, .I a7_3]), (1, .mpb .t_disk_file a7_4)]]) (S' := ⟨[(1, .P 5016), (3, .cv (.ro .t_api_Errno ([a2_0, a3_0, a4_0] : List Int))), (4, .P 5224)], [(5016, .raw [.B true, .I 100, .mp 5017, .B a6_1, .B a6_2, .I a6_3]), (5017, .mpb .t_disk_file a6_4), (5224, .raw [.B true, .I 100, .mp 5225, .B a7_1, .B a7_2, .I a7_3]), (5225, .mpb .t_disk_file a7_4)]⟩) (disk_Disk_Crash_v2.okE h7) ?_
  refine awp_seq ?_
  obtain ⟨⟨a8_0, a8_1, a8_2⟩, h8, h⟩ := bind_some h
  dsimp only at h
  refine ar L 237 [] [] [(1, { hids := [0, 1], fx := [0, 1], r := .tup [.cv (.ro .t_uint8 a8_0), .I a8_1], H' := [(0, .raw [.B true, .I 100, .mp 1, .B a6_1, .B a6_2, .I a6_3]), (1, .mpb .t_disk_file a8_2)], σ := [(0, 5016), (1, 5017)] })] (cs := [ECall V P 15 [.P 0, .cv (.str ([97] : List UInt8))] [(0, .raw [.B true, .I 100, .mp 1, .B a6_1, .B a6_2, .I a6_3]), (1, .mpb .t_disk_file a6_4)] [0, 1] (.tup [.cv (.ro .t_uint8 a8_0), .I a8_1]) [(0, .raw [.B true, .I 100, .mp 1, .B a6_1, .B a6_2, .I a6_3]), (1, .mpb .t_disk_file a8_2)]]) (S' := ⟨[(1, .P 5016), (3, .cv (.ro .t_api_Errno ([a2_0, a3_0, a4_0] : List Int))), (4, .P 5224), (5, .cv (.ro .t_uint8 a8_0))], [(5016, .raw [.B true, .I 100, .mp 5017, .B a6_1, .B a6_2, .I a6_3]), (5017, .mpb .t_disk_file a8_2), (5224, .raw [.B true, .I 100, .mp 5225, .B a7_1, .B a7_2, .I a7_3]), (5225, .mpb .t_disk_file a7_4)]⟩) (disk_Disk_Read_v2.okE h8) ?_
  refine awp_seq ?_
  obtain ⟨⟨a9_0, a9_1, a9_2⟩, h9, h⟩ := bind_some h
  dsimp only at h
  refine ar L 245 [] [] [(1, { hids := [0, 1], fx := [0, 1], r := .tup [.cv (.ro .t_uint8 a9_0), .I a9_1], H' := [(0, .raw [.B true, .I 100, .mp 1, .B a7_1, .B a7_2, .I a7_3]), (1, .mpb .t_disk_file a9_2)], σ := [(0, 5224), (1, 5225)] })] (cs := [ECall V P 15 [.P 0, .cv (.str ([97] : List UInt8))] [(0, .raw [.B true, .I 100, .mp 1, .B a7_1, .B a7_2, .I a7_3]), (1, .mpb .t_disk_file a7_4)] [0, 1] (.tup [.cv (.ro .t_uint8 a9_0), .I a9_1]) [(0, .raw [.B true, .I 100, .mp 1, .B a7_1, .B a7_2, .I a7_3]), (1, .mpb .t_disk_file a9_2)]]) (S' := ⟨[(1, .P 5016), (3, .cv (.ro .t_api_Errno ([a2_0, a3_0, a4_0] : List Int))), (5, .cv (.ro .t_uint8 a8_0)), (7, .cv (.ro .t_uint8 a9_0))], [(5016, .raw [.B true, .I 100, .mp 5017, .B a6_1, .B a6_2, .I a6_3]), (5017, .mpb .t_disk_file a8_2)]⟩) (disk_Disk_Read_v2.okE h9) ?_
  refine awp_seq ?_
  obtain ⟨⟨a10_0, a10_1, a10_2, a10_3⟩, h10, h⟩ := bind_some h
  dsimp only at h
  refine ar L 253 [] [] [(1, { hids := [0, 1], fx := [0, 1], r := .I a10_0, H' := [(0, .raw [.B true, .I 100, .mp 1, .B a6_1, .B a10_1, .I a10_2]), (1, .mpb .t_disk_file a10_3)], σ := [(0, 5016), (1, 5017)] })] (cs := [ECall V P 9 [.P 0, .I 1] [(0, .raw [.B true, .I 100, .mp 1, .B a6_1, .B a6_2, .I a6_3]), (1, .mpb .t_disk_file a8_2)] [0, 1] (.I a10_0) [(0, .raw [.B true, .I 100, .mp 1, .B a6_1, .B a10_1, .I a10_2]), (1, .mpb .t_disk_file a10_3)]]) (S' := ⟨[(1, .P 5016), (3, .cv (.ro .t_api_Errno ([a2_0, a3_0, a4_0] : List Int))), (5, .cv (.ro .t_uint8 a8_0)), (7, .cv (.ro .t_uint8 a9_0))], [(5016, .raw [.B true, .I 100, .mp 5017, .B a6_1, .B a10_1, .I a10_2]), (5017, .mpb .t_disk_file a10_3)]⟩) (disk_Disk_Fuse_v2.okE h10) ?_
  refine awp_seq ?_
  obtain ⟨⟨a11_0, a11_1, a11_2, a11_3⟩, h11, h⟩ := bind_some h
  dsimp only at h
  refine ar L 256 [] [] [(1, { hids := [0, 1], fx := [0, 1], r := .I a11_0, H' := [(0, .raw [.B true, .I 100, .mp 1, .B a11_1, .B a10_1, .I a11_2]), (1, .mpb .t_disk_file a11_3)], σ := [(0, 5016), (1, 5017)] })] (cs := [ECall V P 11 [.P 0, .cv (.str ([98] : List UInt8)), .N] [(0, .raw [.B true, .I 100, .mp 1, .B a6_1, .B a10_1, .I a10_2]), (1, .mpb .t_disk_file a10_3)] [0, 1] (.I a11_0) [(0, .raw [.B true, .I 100, .mp 1, .B a11_1, .B a10_1, .I a11_2]), (1, .mpb .t_disk_file a11_3)]]) (S' := ⟨[(1, .P 5016), (3, .cv (.ro .t_api_Errno ([a2_0, a3_0, a4_0] : List Int))), (5, .cv (.ro .t_uint8 a8_0)), (7, .cv (.ro .t_uint8 a9_0)), (9, .I a11_0)], [(5016, .raw [.B true, .I 100, .mp 5017, .B a11_1, .B a10_1, .I a11_2]), (5017, .mpb .t_disk_file a11_3)]⟩) (ECall.co (disk_Disk_Append_v2.okE h11) (by kernel_rfl) (by kernel_rfl)) ?_
  refine awp_seq ?_
  obtain ⟨⟨a12_0, a12_1, a12_2, a12_3⟩, h12, h⟩ := bind_some h
  dsimp only at h
  refine ar L 260 [] [] [(1, { hids := [0, 1], fx := [0, 1], r := .I a12_0, H' := [(0, .raw [.B true, .I 100, .mp 1, .B a12_1, .B a10_1, .I a12_2]), (1, .mpb .t_disk_file a12_3)], σ := [(0, 5016), (1, 5017)] })] (cs := [ECall V P 13 [.P 0, .cv (.str ([97] : List UInt8))] [(0, .raw [.B true, .I 100, .mp 1, .B a11_1, .B a10_1, .I a11_2]), (1, .mpb .t_disk_file a11_3)] [0, 1] (.I a12_0) [(0, .raw [.B true, .I 100, .mp 1, .B a12_1, .B a10_1, .I a12_2]), (1, .mpb .t_disk_file a12_3)]]) (S' := ⟨[(1, .P 5016), (3, .cv (.ro .t_api_Errno ([a2_0, a3_0, a4_0] : List Int))), (5, .cv (.ro .t_uint8 a8_0)), (7, .cv (.ro .t_uint8 a9_0)), (9, .I a11_0), (10, .I a12_0)], [(5016, .raw [.B true, .I 100, .mp 5017, .B a12_1, .B a10_1, .I a12_2]), (5017, .mpb .t_disk_file a12_3)]⟩) (disk_Disk_Sync_v2.okE h12) ?_
  refine sr0 L 264 [] [] [] (S' := ⟨[(1, .P 5016), (3, .cv (.ro .t_api_Errno ([a2_0, a3_0, a4_0] : List Int))), (5, .cv (.ro .t_uint8 a8_0)), (7, .cv (.ro .t_uint8 a9_0)), (9, .I a11_0), (10, .I a12_0), (11, .cv (.lit (.pointer none)))], [(5016, .raw [.B true, .I 100, .mp 5017, .B a12_1, .B a10_1, .I a12_2]), (5017, .mpb .t_disk_file a12_3)]⟩) ?_
  refine awp_seq ?_
  obtain ⟨g1, h⟩ := guard_some h
  rcases ite_some h with ⟨c1, h⟩ | ⟨c1, h⟩
  ·obtain ⟨g2, h⟩ := guard_some h
   rcases ite_some h with ⟨c2, h⟩ | ⟨c2, h⟩
   ·obtain ⟨g3, h⟩ := guard_some h
    rcases ite_some h with ⟨c3, h⟩ | ⟨c3, h⟩
    ·obtain ⟨a13, h13, h⟩ := bind_some h
     rcases ite_some h with ⟨c4, h⟩ | ⟨c4, h⟩
     ·obtain ⟨a14, h14, h⟩ := bind_some h
      rcases ite_some h with ⟨c5, h⟩ | ⟨c5, h⟩
      ·rcases ite_some h with ⟨c6, h⟩ | ⟨c6, h⟩
       ·rcases ite_some h with ⟨c7, h⟩ | ⟨c7, h⟩
        ·obtain ⟨⟨⟩, h15, h⟩ := bind_some h
         rcases ite_some h with ⟨c8, h⟩ | ⟨c8, h⟩
         ·obtain ⟨⟨⟩, h16, h⟩ := bind_some h
          obtain ⟨⟨⟩, h17, h⟩ := bind_some h
          refine ar L 266 [(4, true), (10, true), (16, true), (22, true), (28, true), (32, true), (36, true), (40, true)] [(20, .B a13), (26, .B a14), (38, .B a12_1), (42, .I 1), (47, .cv (.lit (.pointer none)))] [] (cs := [(0 : Int) ≤ 0, (0 : Int) < (([a2_0, a3_0, a4_0] : List Int).length : Int), (decide ((([a2_0, a3_0, a4_0] : List Int).getD (Int.toNat 0) (0 : Int)) = 0)) = true, (0 : Int) ≤ 1, (1 : Int) < (([a2_0, a3_0, a4_0] : List Int).length : Int), (decide ((([a2_0, a3_0, a4_0] : List Int).getD (Int.toNat 1) (0 : Int)) = 0)) = true, (0 : Int) ≤ 2, (2 : Int) < (([a2_0, a3_0, a4_0] : List Int).length : Int), (decide ((([a2_0, a3_0, a4_0] : List Int).getD (Int.toNat 2) (0 : Int)) = 0)) = true, (0 : Int) ≤ 120, (120 : Int) < 256, (0 : Int) ≤ 121, (121 : Int) < 256, 0 < ([(UInt8.ofNat (Int.toNat 120)), (UInt8.ofNat (Int.toNat 121))] : List UInt8).length, PCall V P 21 [.cv (.ro .t_uint8 a8_0), .cv (.ro .t_uint8 ([(UInt8.ofNat (Int.toNat 120)), (UInt8.ofNat (Int.toNat 121))] : List UInt8))] (.B a13), True, a13 = true, (0 : Int) ≤ 120, (120 : Int) < 256, (0 : Int) ≤ 121, (121 : Int) < 256, (0 : Int) ≤ 122, (122 : Int) < 256, 0 < ([(UInt8.ofNat (Int.toNat 120)), (UInt8.ofNat (Int.toNat 121)), (UInt8.ofNat (Int.toNat 122))] : List UInt8).length, PCall V P 21 [.cv (.ro .t_uint8 a9_0), .cv (.ro .t_uint8 ([(UInt8.ofNat (Int.toNat 120)), (UInt8.ofNat (Int.toNat 121)), (UInt8.ofNat (Int.toNat 122))] : List UInt8))] (.B a14), True, a14 = true, (decide (a11_0 = 0)) = true, (decide (a12_0 = 28)) = true, PCall V P 12 [.cv (.pcs [.B true, .I 100, .rom .t_disk_file a12_3, .B a12_1, .B a10_1, .I a12_2] 0)] (.B a12_1), True, a12_1 = true, PCall V P 13 [.cv (.lit (.pointer none)), .cv (.str ([97] : List UInt8))] (.I 1), True, PCall V P 10 [.cv (.lit (.pointer none))] (.cv (.lit (.pointer none))), True]) (S' := ⟨[(0, .B true)], []⟩) (And.intro (show (0 : Int) ≤ 0 from by decide) (And.intro g1 (And.intro (decide_eq_true c1) (And.intro (show (0 : Int) ≤ 1 from by decide) (And.intro g2 (And.intro (decide_eq_true c2) (And.intro (show (0 : Int) ≤ 2 from by decide) (And.intro g3 (And.intro (decide_eq_true c3) (And.intro (show (0 : Int) ≤ 120 from by decide) (And.intro (show (120 : Int) < 256 from by decide) (And.intro (show (0 : Int) ≤ 121 from by decide) (And.intro (show (121 : Int) < 256 from by decide) (And.intro (show 0 < ([(UInt8.ofNat (Int.toNat 120)), (UInt8.ofNat (Int.toNat 121))] : List UInt8).length from by decide) (And.intro (workflowlaw50_equal.ok h13) (And.intro trivial (And.intro c4 (And.intro (show (0 : Int) ≤ 120 from by decide) (And.intro (show (120 : Int) < 256 from by decide) (And.intro (show (0 : Int) ≤ 121 from by decide) (And.intro (show (121 : Int) < 256 from by decide) (And.intro (show (0 : Int) ≤ 122 from by decide) (And.intro (show (122 : Int) < 256 from by decide) (And.intro (show 0 < ([(UInt8.ofNat (Int.toNat 120)), (UInt8.ofNat (Int.toNat 121)), (UInt8.ofNat (Int.toNat 122))] : List UInt8).length from by decide) (And.intro (workflowlaw50_equal.ok h14) (And.intro trivial (And.intro c5 (And.intro (decide_eq_true c6) (And.intro (decide_eq_true c7) (And.intro (disk_Disk_Dead.ok h15) (And.intro trivial (And.intro c8 (And.intro (disk_Disk_Sync_v3.ok h16) (And.intro trivial (And.intro (disk_Disk_Copy_v2.ok h17) trivial))))))))))))))))))))))))))))))))))) ?_
          refine awp_ret ?_
          obtain rfl := Option.some.inj h
          exact er (.B true)
         refine ar L 266 [(4, true), (10, true), (16, true), (22, true), (28, true), (32, true), (36, true), (40, false)] [(20, .B a13), (26, .B a14), (38, .B a12_1)] [] (cs := [(0 : Int) ≤ 0, (0 : Int) < (([a2_0, a3_0, a4_0] : List Int).length : Int), (decide ((([a2_0, a3_0, a4_0] : List Int).getD (Int.toNat 0) (0 : Int)) = 0)) = true, (0 : Int) ≤ 1, (1 : Int) < (([a2_0, a3_0, a4_0] : List Int).length : Int), (decide ((([a2_0, a3_0, a4_0] : List Int).getD (Int.toNat 1) (0 : Int)) = 0)) = true, (0 : Int) ≤ 2, (2 : Int) < (([a2_0, a3_0, a4_0] : List Int).length : Int), (decide ((([a2_0, a3_0, a4_0] : List Int).getD (Int.toNat 2) (0 : Int)) = 0)) = true, (0 : Int) ≤ 120, (120 : Int) < 256, (0 : Int) ≤ 121, (121 : Int) < 256, 0 < ([(UInt8.ofNat (Int.toNat 120)), (UInt8.ofNat (Int.toNat 121))] : List UInt8).length, PCall V P 21 [.cv (.ro .t_uint8 a8_0), .cv (.ro .t_uint8 ([(UInt8.ofNat (Int.toNat 120)), (UInt8.ofNat (Int.toNat 121))] : List UInt8))] (.B a13), True, a13 = true, (0 : Int) ≤ 120, (120 : Int) < 256, (0 : Int) ≤ 121, (121 : Int) < 256, (0 : Int) ≤ 122, (122 : Int) < 256, 0 < ([(UInt8.ofNat (Int.toNat 120)), (UInt8.ofNat (Int.toNat 121)), (UInt8.ofNat (Int.toNat 122))] : List UInt8).length, PCall V P 21 [.cv (.ro .t_uint8 a9_0), .cv (.ro .t_uint8 ([(UInt8.ofNat (Int.toNat 120)), (UInt8.ofNat (Int.toNat 121)), (UInt8.ofNat (Int.toNat 122))] : List UInt8))] (.B a14), True, a14 = true, (decide (a11_0 = 0)) = true, (decide (a12_0 = 28)) = true, PCall V P 12 [.cv (.pcs [.B true, .I 100, .rom .t_disk_file a12_3, .B a12_1, .B a10_1, .I a12_2] 0)] (.B a12_1), True, a12_1 = false]) (S' := ⟨[(0, .B false)], []⟩) (And.intro (show (0 : Int) ≤ 0 from by decide) (And.intro g1 (And.intro (decide_eq_true c1) (And.intro (show (0 : Int) ≤ 1 from by decide) (And.intro g2 (And.intro (decide_eq_true c2) (And.intro (show (0 : Int) ≤ 2 from by decide) (And.intro g3 (And.intro (decide_eq_true c3) (And.intro (show (0 : Int) ≤ 120 from by decide) (And.intro (show (120 : Int) < 256 from by decide) (And.intro (show (0 : Int) ≤ 121 from by decide) (And.intro (show (121 : Int) < 256 from by decide) (And.intro (show 0 < ([(UInt8.ofNat (Int.toNat 120)), (UInt8.ofNat (Int.toNat 121))] : List UInt8).length from by decide) (And.intro (workflowlaw50_equal.ok h13) (And.intro trivial (And.intro c4 (And.intro (show (0 : Int) ≤ 120 from by decide) (And.intro (show (120 : Int) < 256 from by decide) (And.intro (show (0 : Int) ≤ 121 from by decide) (And.intro (show (121 : Int) < 256 from by decide) (And.intro (show (0 : Int) ≤ 122 from by decide) (And.intro (show (122 : Int) < 256 from by decide) (And.intro (show 0 < ([(UInt8.ofNat (Int.toNat 120)), (UInt8.ofNat (Int.toNat 121)), (UInt8.ofNat (Int.toNat 122))] : List UInt8).length from by decide) (And.intro (workflowlaw50_equal.ok h14) (And.intro trivial (And.intro c5 (And.intro (decide_eq_true c6) (And.intro (decide_eq_true c7) (And.intro (disk_Disk_Dead.ok h15) (And.intro trivial (eq_false_of_ne_true c8)))))))))))))))))))))))))))))))) ?_
         refine awp_ret ?_
         obtain rfl := Option.some.inj h
         exact er (.B false)
        refine ar L 266 [(4, true), (10, true), (16, true), (22, true), (28, true), (32, true), (36, false)] [(20, .B a13), (26, .B a14)] [] (cs := [(0 : Int) ≤ 0, (0 : Int) < (([a2_0, a3_0, a4_0] : List Int).length : Int), (decide ((([a2_0, a3_0, a4_0] : List Int).getD (Int.toNat 0) (0 : Int)) = 0)) = true, (0 : Int) ≤ 1, (1 : Int) < (([a2_0, a3_0, a4_0] : List Int).length : Int), (decide ((([a2_0, a3_0, a4_0] : List Int).getD (Int.toNat 1) (0 : Int)) = 0)) = true, (0 : Int) ≤ 2, (2 : Int) < (([a2_0, a3_0, a4_0] : List Int).length : Int), (decide ((([a2_0, a3_0, a4_0] : List Int).getD (Int.toNat 2) (0 : Int)) = 0)) = true, (0 : Int) ≤ 120, (120 : Int) < 256, (0 : Int) ≤ 121, (121 : Int) < 256, 0 < ([(UInt8.ofNat (Int.toNat 120)), (UInt8.ofNat (Int.toNat 121))] : List UInt8).length, PCall V P 21 [.cv (.ro .t_uint8 a8_0), .cv (.ro .t_uint8 ([(UInt8.ofNat (Int.toNat 120)), (UInt8.ofNat (Int.toNat 121))] : List UInt8))] (.B a13), True, a13 = true, (0 : Int) ≤ 120, (120 : Int) < 256, (0 : Int) ≤ 121, (121 : Int) < 256, (0 : Int) ≤ 122, (122 : Int) < 256, 0 < ([(UInt8.ofNat (Int.toNat 120)), (UInt8.ofNat (Int.toNat 121)), (UInt8.ofNat (Int.toNat 122))] : List UInt8).length, PCall V P 21 [.cv (.ro .t_uint8 a9_0), .cv (.ro .t_uint8 ([(UInt8.ofNat (Int.toNat 120)), (UInt8.ofNat (Int.toNat 121)), (UInt8.ofNat (Int.toNat 122))] : List UInt8))] (.B a14), True, a14 = true, (decide (a11_0 = 0)) = true, (decide (a12_0 = 28)) = false]) (S' := ⟨[(0, .B false)], []⟩) (And.intro (show (0 : Int) ≤ 0 from by decide) (And.intro g1 (And.intro (decide_eq_true c1) (And.intro (show (0 : Int) ≤ 1 from by decide) (And.intro g2 (And.intro (decide_eq_true c2) (And.intro (show (0 : Int) ≤ 2 from by decide) (And.intro g3 (And.intro (decide_eq_true c3) (And.intro (show (0 : Int) ≤ 120 from by decide) (And.intro (show (120 : Int) < 256 from by decide) (And.intro (show (0 : Int) ≤ 121 from by decide) (And.intro (show (121 : Int) < 256 from by decide) (And.intro (show 0 < ([(UInt8.ofNat (Int.toNat 120)), (UInt8.ofNat (Int.toNat 121))] : List UInt8).length from by decide) (And.intro (workflowlaw50_equal.ok h13) (And.intro trivial (And.intro c4 (And.intro (show (0 : Int) ≤ 120 from by decide) (And.intro (show (120 : Int) < 256 from by decide) (And.intro (show (0 : Int) ≤ 121 from by decide) (And.intro (show (121 : Int) < 256 from by decide) (And.intro (show (0 : Int) ≤ 122 from by decide) (And.intro (show (122 : Int) < 256 from by decide) (And.intro (show 0 < ([(UInt8.ofNat (Int.toNat 120)), (UInt8.ofNat (Int.toNat 121)), (UInt8.ofNat (Int.toNat 122))] : List UInt8).length from by decide) (And.intro (workflowlaw50_equal.ok h14) (And.intro trivial (And.intro c5 (And.intro (decide_eq_true c6) (decide_eq_false c7))))))))))))))))))))))))))))) ?_
        refine awp_ret ?_
        obtain rfl := Option.some.inj h
        exact er (.B false)
       refine ar L 266 [(4, true), (10, true), (16, true), (22, true), (28, true), (32, false)] [(20, .B a13), (26, .B a14)] [] (cs := [(0 : Int) ≤ 0, (0 : Int) < (([a2_0, a3_0, a4_0] : List Int).length : Int), (decide ((([a2_0, a3_0, a4_0] : List Int).getD (Int.toNat 0) (0 : Int)) = 0)) = true, (0 : Int) ≤ 1, (1 : Int) < (([a2_0, a3_0, a4_0] : List Int).length : Int), (decide ((([a2_0, a3_0, a4_0] : List Int).getD (Int.toNat 1) (0 : Int)) = 0)) = true, (0 : Int) ≤ 2, (2 : Int) < (([a2_0, a3_0, a4_0] : List Int).length : Int), (decide ((([a2_0, a3_0, a4_0] : List Int).getD (Int.toNat 2) (0 : Int)) = 0)) = true, (0 : Int) ≤ 120, (120 : Int) < 256, (0 : Int) ≤ 121, (121 : Int) < 256, 0 < ([(UInt8.ofNat (Int.toNat 120)), (UInt8.ofNat (Int.toNat 121))] : List UInt8).length, PCall V P 21 [.cv (.ro .t_uint8 a8_0), .cv (.ro .t_uint8 ([(UInt8.ofNat (Int.toNat 120)), (UInt8.ofNat (Int.toNat 121))] : List UInt8))] (.B a13), True, a13 = true, (0 : Int) ≤ 120, (120 : Int) < 256, (0 : Int) ≤ 121, (121 : Int) < 256, (0 : Int) ≤ 122, (122 : Int) < 256, 0 < ([(UInt8.ofNat (Int.toNat 120)), (UInt8.ofNat (Int.toNat 121)), (UInt8.ofNat (Int.toNat 122))] : List UInt8).length, PCall V P 21 [.cv (.ro .t_uint8 a9_0), .cv (.ro .t_uint8 ([(UInt8.ofNat (Int.toNat 120)), (UInt8.ofNat (Int.toNat 121)), (UInt8.ofNat (Int.toNat 122))] : List UInt8))] (.B a14), True, a14 = true, (decide (a11_0 = 0)) = false]) (S' := ⟨[(0, .B false)], []⟩) (And.intro (show (0 : Int) ≤ 0 from by decide) (And.intro g1 (And.intro (decide_eq_true c1) (And.intro (show (0 : Int) ≤ 1 from by decide) (And.intro g2 (And.intro (decide_eq_true c2) (And.intro (show (0 : Int) ≤ 2 from by decide) (And.intro g3 (And.intro (decide_eq_true c3) (And.intro (show (0 : Int) ≤ 120 from by decide) (And.intro (show (120 : Int) < 256 from by decide) (And.intro (show (0 : Int) ≤ 121 from by decide) (And.intro (show (121 : Int) < 256 from by decide) (And.intro (show 0 < ([(UInt8.ofNat (Int.toNat 120)), (UInt8.ofNat (Int.toNat 121))] : List UInt8).length from by decide) (And.intro (workflowlaw50_equal.ok h13) (And.intro trivial (And.intro c4 (And.intro (show (0 : Int) ≤ 120 from by decide) (And.intro (show (120 : Int) < 256 from by decide) (And.intro (show (0 : Int) ≤ 121 from by decide) (And.intro (show (121 : Int) < 256 from by decide) (And.intro (show (0 : Int) ≤ 122 from by decide) (And.intro (show (122 : Int) < 256 from by decide) (And.intro (show 0 < ([(UInt8.ofNat (Int.toNat 120)), (UInt8.ofNat (Int.toNat 121)), (UInt8.ofNat (Int.toNat 122))] : List UInt8).length from by decide) (And.intro (workflowlaw50_equal.ok h14) (And.intro trivial (And.intro c5 (decide_eq_false c6)))))))))))))))))))))))))))) ?_
       refine awp_ret ?_
       obtain rfl := Option.some.inj h
       exact er (.B false)
      refine ar L 266 [(4, true), (10, true), (16, true), (22, true), (28, false)] [(20, .B a13), (26, .B a14)] [] (cs := [(0 : Int) ≤ 0, (0 : Int) < (([a2_0, a3_0, a4_0] : List Int).length : Int), (decide ((([a2_0, a3_0, a4_0] : List Int).getD (Int.toNat 0) (0 : Int)) = 0)) = true, (0 : Int) ≤ 1, (1 : Int) < (([a2_0, a3_0, a4_0] : List Int).length : Int), (decide ((([a2_0, a3_0, a4_0] : List Int).getD (Int.toNat 1) (0 : Int)) = 0)) = true, (0 : Int) ≤ 2, (2 : Int) < (([a2_0, a3_0, a4_0] : List Int).length : Int), (decide ((([a2_0, a3_0, a4_0] : List Int).getD (Int.toNat 2) (0 : Int)) = 0)) = true, (0 : Int) ≤ 120, (120 : Int) < 256, (0 : Int) ≤ 121, (121 : Int) < 256, 0 < ([(UInt8.ofNat (Int.toNat 120)), (UInt8.ofNat (Int.toNat 121))] : List UInt8).length, PCall V P 21 [.cv (.ro .t_uint8 a8_0), .cv (.ro .t_uint8 ([(UInt8.ofNat (Int.toNat 120)), (UInt8.ofNat (Int.toNat 121))] : List UInt8))] (.B a13), True, a13 = true, (0 : Int) ≤ 120, (120 : Int) < 256, (0 : Int) ≤ 121, (121 : Int) < 256, (0 : Int) ≤ 122, (122 : Int) < 256, 0 < ([(UInt8.ofNat (Int.toNat 120)), (UInt8.ofNat (Int.toNat 121)), (UInt8.ofNat (Int.toNat 122))] : List UInt8).length, PCall V P 21 [.cv (.ro .t_uint8 a9_0), .cv (.ro .t_uint8 ([(UInt8.ofNat (Int.toNat 120)), (UInt8.ofNat (Int.toNat 121)), (UInt8.ofNat (Int.toNat 122))] : List UInt8))] (.B a14), True, a14 = false]) (S' := ⟨[(0, .B false)], []⟩) (And.intro (show (0 : Int) ≤ 0 from by decide) (And.intro g1 (And.intro (decide_eq_true c1) (And.intro (show (0 : Int) ≤ 1 from by decide) (And.intro g2 (And.intro (decide_eq_true c2) (And.intro (show (0 : Int) ≤ 2 from by decide) (And.intro g3 (And.intro (decide_eq_true c3) (And.intro (show (0 : Int) ≤ 120 from by decide) (And.intro (show (120 : Int) < 256 from by decide) (And.intro (show (0 : Int) ≤ 121 from by decide) (And.intro (show (121 : Int) < 256 from by decide) (And.intro (show 0 < ([(UInt8.ofNat (Int.toNat 120)), (UInt8.ofNat (Int.toNat 121))] : List UInt8).length from by decide) (And.intro (workflowlaw50_equal.ok h13) (And.intro trivial (And.intro c4 (And.intro (show (0 : Int) ≤ 120 from by decide) (And.intro (show (120 : Int) < 256 from by decide) (And.intro (show (0 : Int) ≤ 121 from by decide) (And.intro (show (121 : Int) < 256 from by decide) (And.intro (show (0 : Int) ≤ 122 from by decide) (And.intro (show (122 : Int) < 256 from by decide) (And.intro (show 0 < ([(UInt8.ofNat (Int.toNat 120)), (UInt8.ofNat (Int.toNat 121)), (UInt8.ofNat (Int.toNat 122))] : List UInt8).length from by decide) (And.intro (workflowlaw50_equal.ok h14) (And.intro trivial (eq_false_of_ne_true c5))))))))))))))))))))))))))) ?_
      refine awp_ret ?_
      obtain rfl := Option.some.inj h
      exact er (.B false)
     refine ar L 266 [(4, true), (10, true), (16, true), (22, false)] [(20, .B a13)] [] (cs := [(0 : Int) ≤ 0, (0 : Int) < (([a2_0, a3_0, a4_0] : List Int).length : Int), (decide ((([a2_0, a3_0, a4_0] : List Int).getD (Int.toNat 0) (0 : Int)) = 0)) = true, (0 : Int) ≤ 1, (1 : Int) < (([a2_0, a3_0, a4_0] : List Int).length : Int), (decide ((([a2_0, a3_0, a4_0] : List Int).getD (Int.toNat 1) (0 : Int)) = 0)) = true, (0 : Int) ≤ 2, (2 : Int) < (([a2_0, a3_0, a4_0] : List Int).length : Int), (decide ((([a2_0, a3_0, a4_0] : List Int).getD (Int.toNat 2) (0 : Int)) = 0)) = true, (0 : Int) ≤ 120, (120 : Int) < 256, (0 : Int) ≤ 121, (121 : Int) < 256, 0 < ([(UInt8.ofNat (Int.toNat 120)), (UInt8.ofNat (Int.toNat 121))] : List UInt8).length, PCall V P 21 [.cv (.ro .t_uint8 a8_0), .cv (.ro .t_uint8 ([(UInt8.ofNat (Int.toNat 120)), (UInt8.ofNat (Int.toNat 121))] : List UInt8))] (.B a13), True, a13 = false]) (S' := ⟨[(0, .B false)], []⟩) (And.intro (show (0 : Int) ≤ 0 from by decide) (And.intro g1 (And.intro (decide_eq_true c1) (And.intro (show (0 : Int) ≤ 1 from by decide) (And.intro g2 (And.intro (decide_eq_true c2) (And.intro (show (0 : Int) ≤ 2 from by decide) (And.intro g3 (And.intro (decide_eq_true c3) (And.intro (show (0 : Int) ≤ 120 from by decide) (And.intro (show (120 : Int) < 256 from by decide) (And.intro (show (0 : Int) ≤ 121 from by decide) (And.intro (show (121 : Int) < 256 from by decide) (And.intro (show 0 < ([(UInt8.ofNat (Int.toNat 120)), (UInt8.ofNat (Int.toNat 121))] : List UInt8).length from by decide) (And.intro (workflowlaw50_equal.ok h13) (And.intro trivial (eq_false_of_ne_true c4))))))))))))))))) ?_
     refine awp_ret ?_
     obtain rfl := Option.some.inj h
     exact er (.B false)
    refine ar L 266 [(4, true), (10, true), (16, false)] [] [] (cs := [(0 : Int) ≤ 0, (0 : Int) < (([a2_0, a3_0, a4_0] : List Int).length : Int), (decide ((([a2_0, a3_0, a4_0] : List Int).getD (Int.toNat 0) (0 : Int)) = 0)) = true, (0 : Int) ≤ 1, (1 : Int) < (([a2_0, a3_0, a4_0] : List Int).length : Int), (decide ((([a2_0, a3_0, a4_0] : List Int).getD (Int.toNat 1) (0 : Int)) = 0)) = true, (0 : Int) ≤ 2, (2 : Int) < (([a2_0, a3_0, a4_0] : List Int).length : Int), (decide ((([a2_0, a3_0, a4_0] : List Int).getD (Int.toNat 2) (0 : Int)) = 0)) = false]) (S' := ⟨[(0, .B false)], []⟩) (And.intro (show (0 : Int) ≤ 0 from by decide) (And.intro g1 (And.intro (decide_eq_true c1) (And.intro (show (0 : Int) ≤ 1 from by decide) (And.intro g2 (And.intro (decide_eq_true c2) (And.intro (show (0 : Int) ≤ 2 from by decide) (And.intro g3 (decide_eq_false c3))))))))) ?_
    refine awp_ret ?_
    obtain rfl := Option.some.inj h
    exact er (.B false)
   refine ar L 266 [(4, true), (10, false)] [] [] (cs := [(0 : Int) ≤ 0, (0 : Int) < (([a2_0, a3_0, a4_0] : List Int).length : Int), (decide ((([a2_0, a3_0, a4_0] : List Int).getD (Int.toNat 0) (0 : Int)) = 0)) = true, (0 : Int) ≤ 1, (1 : Int) < (([a2_0, a3_0, a4_0] : List Int).length : Int), (decide ((([a2_0, a3_0, a4_0] : List Int).getD (Int.toNat 1) (0 : Int)) = 0)) = false]) (S' := ⟨[(0, .B false)], []⟩) (And.intro (show (0 : Int) ≤ 0 from by decide) (And.intro g1 (And.intro (decide_eq_true c1) (And.intro (show (0 : Int) ≤ 1 from by decide) (And.intro g2 (decide_eq_false c2)))))) ?_
   refine awp_ret ?_
   obtain rfl := Option.some.inj h
   exact er (.B false)
  refine ar L 266 [(4, false)] [] [] (cs := [(0 : Int) ≤ 0, (0 : Int) < (([a2_0, a3_0, a4_0] : List Int).length : Int), (decide ((([a2_0, a3_0, a4_0] : List Int).getD (Int.toNat 0) (0 : Int)) = 0)) = false]) (S' := ⟨[(0, .B false)], []⟩) (And.intro (show (0 : Int) ≤ 0 from by decide) (And.intro g1 (decide_eq_false c1))) ?_
  refine awp_ret ?_
  obtain rfl := Option.some.inj h
  exact er (.B false)
theorem workflowlaw50_lives.ok {K : Nat} {r : Bool} (h : workflowlaw50_lives K = some r) : PCall V P 7 [] (.B r) := ECall.pcall (eo (fn := Try.f7) (n := 101) (m := 100) fun Γ => workflowlaw50_lives.body h) (by kernel_rfl)
def disk_Disk_Fuse_v3 (K : Nat) (p0 : Int) : Option Unit := (Option.bind (disk_Disk_working_v2 K) (fun _ => some ()))
theorem disk_Disk_Fuse_v3.body {Γ : Ent} {K : Nat} {p0 : Int} {r : Unit} (h : disk_Disk_Fuse_v3 K p0 = some r) : AWp V P 20 100 Γ (Try.f9.body.getD .skip) (EndsE P V Try.f9 (.I 1) []) ⟨args0 0 [.cv (.lit (.pointer none)), .I p0], []⟩ := by
 unfold disk_Disk_Fuse_v3 at h
 refine sr0 L 200 [] [] [] (S' := ⟨[(0, .cv (.lit (.pointer none))), (1, .I p0)], []⟩) ?_
 refine awp_seq ?_
 refine awp_seq ?_
 obtain ⟨⟨⟩, h1, h⟩ := bind_some h
 refine ar L 202 [] [(1, .I 1)] [] (cs := [PCall V P 24 [.cv (.lit (.pointer none))] (.I 1), True]) (S' := ⟨[(0, .cv (.lit (.pointer none))), (1, .I p0), (5, .I 1)], []⟩) (And.intro (disk_Disk_working_v2.ok h1) trivial) ?_
 refine sr0 L 206 [] [] [] (S' := ⟨[(0, .cv (.lit (.pointer none))), (1, .I p0), (5, .I 1), (9, .B true)], []⟩) ?_
 refine tt (b := true) (rfl) ?_
 refine sr0 L 209 [] [] [] (S' := ⟨[(4, .I 1)], []⟩) ?_
 refine awp_ret ?_
 obtain rfl := Option.some.inj h
 exact er (.I 1)
theorem disk_Disk_Fuse_v3.ok {K : Nat} {p0 : Int} {r : Unit} (h : disk_Disk_Fuse_v3 K p0 = some r) : PCall V P 9 [.cv (.lit (.pointer none)), .I p0] (.I 1) := ECall.pcall (eo (fn := Try.f9) (n := 20) (m := 100) fun Γ => disk_Disk_Fuse_v3.body h) (by kernel_rfl)
def workflowlaw50_DiskFuse.l27 (K : Nat) (p0 : Int) (p1 : List UInt8) (a4_1 : Bool) : Nat → Int → Bool → Int → (List (List UInt8 × disk_file)) → Option (Out Bool (Bool × Int × (List (List UInt8 × disk_file))))
 | 0, _, _, _, _ => none
 | k + 1, xt8_27h, x25500_3, x25500_5, x25502 => (if xt8_27h < p0 then (Option.bind (disk_Disk_Append_v2 K ([97] : List UInt8) p1 10000 x25500_3 a4_1 x25500_5 x25502) (fun (a6_0, a6_1, a6_2, a6_3) => (if a6_0 ≠ 0 then some (Out.done false) else (Option.bind (disk_Disk_Dead K 10000 a6_3 a6_1 a4_1 a6_2) (fun _ => (if a6_1 = true then some (Out.done false) else workflowlaw50_DiskFuse.l27 K p0 p1 a4_1 k (IntKind.i64.wrap (xt8_27h + 1)) a6_1 a6_2 a6_3)))))) else some (Out.go (x25500_3, x25500_5, x25502)))
def workflowlaw50_DiskFuse (K : Nat) (p0 : Int) (p1 : List UInt8) : Option Bool := (Option.bind ((if p0 < 0 then some true else (if p0 > 20 then some true else some (decide ((p1.length : Int) > 100)))) : Option Bool) (fun xt22_4 => (if xt22_4 = true then (Option.bind (workflowlaw50_lives K) (fun a1 => some a1)) else (Option.bind (disk_New K 10000) (fun a2 => match a2 with | (Sum.inl ()) => (Option.bind (disk_Disk_Fuse_v3 K p0) (fun _ => some false)) | (Sum.inr ()) => (Option.bind (disk_Disk_Fuse_v2 K p0 10000 false false 0 ([] : List (List UInt8 × disk_file))) (fun (a4_0, a4_1, a4_2, a4_3) => (if a4_0 ≠ 0 then some false else (Option.bind (disk_Disk_Copy K 10000 a4_3 false a4_1 a4_2) (fun a5 => (obind (workflowlaw50_DiskFuse.l27 K p0 p1 a4_1 K 0 false a4_2 a4_3 : Option (Out Bool (Bool × Int × (List (List UInt8 × disk_file))))) (fun r => r) (fun (x25400_3, x25400_5, x25402) => (Option.bind (disk_Disk_Append_v2 K ([98] : List UInt8) p1 10000 x25400_3 a4_1 x25400_5 x25402) (fun (a8_0, a8_1, a8_2, a8_3) => (if a8_0 ≠ 28 then some false else (Option.bind (disk_Disk_Dead K 10000 a8_3 a8_1 a4_1 a8_2) (fun _ => (if a8_1 = true then (Option.bind (disk_Disk_Sync_v2 K ([97] : List UInt8) 10000 a8_1 a4_1 a8_2 a8_3) (fun (a10_0, a10_1, a10_2, a10_3) => (if a10_0 ≠ 28 then some false else (Option.bind (disk_Disk_Fuse_v2 K 3 10000 a10_1 a4_1 a10_2 a10_3) (fun (a11_0, a11_1, a11_2, a11_3) => (if a11_0 ≠ 28 then some false else (Option.bind (disk_Disk_Used K 10000 a11_3 a10_1 a11_1 a11_2) (fun a12 => (if a12 ≠ (IntKind.i64.wrap (p0 * (p1.length : Int))) then some false else (obind (((Option.bind (disk_Disk_Used K 10000 a5 false a4_1 a4_2) (fun a13 => (if a13 ≠ 0 then some (Out.done false) else (Option.bind (disk_Disk_Dead K 10000 a5 false a4_1 a4_2) (fun _ => (if p0 > 0 then (Option.bind (disk_Disk_Append_v2 K ([98] : List UInt8) p1 10000 false a4_1 a4_2 a5) (fun (a15_0, a15_1, a15_2, a15_3) => (if a15_0 ≠ 0 then some (Out.done false) else some (Out.go ())))) else some (Out.go ())))))))) : Option (Out Bool Unit)) (fun r => r) (fun _ => (Option.bind (disk_Disk_Read_v2 K ([97] : List UInt8) 10000 a10_1 a11_1 a11_2 a11_3) (fun (a16_0, a16_1, a16_2) => (Option.bind (disk_Disk_Crash_v2 K 0 10000 a10_1 a11_1 a11_2 a16_2) (fun (a17_0, a17_1, a17_2, a17_3, a17_4) => (if a16_1 = 28 then (if a17_0 = 0 then (Option.bind (disk_Disk_Dead K 10000 a17_4 a17_1 a17_2 a17_3) (fun _ => (if a17_1 = true then some false else (Option.bind (disk_Disk_Used K 10000 a17_4 a17_1 a17_2 a17_3) (fun a19 => (if a19 = 0 then (Option.bind (disk_Disk_Append_v2 K ([98] : List UInt8) p1 10000 a17_1 a17_2 a17_3 a17_4) (fun (a20_0, a20_1, a20_2, a20_3) => (if a20_0 = 0 then (Option.bind (workflowlaw50_lives K) (fun a21 => some a21)) else some false))) else some false)))))) else some false) else some false)))))))))))))))) else some false))))))))))))))))))
theorem workflowlaw50_DiskFuse.body {Γ : Ent} {K : Nat} {p0 : Int} {p1 : List UInt8} {r : Bool} (h : workflowlaw50_DiskFuse K p0 p1 = some r) : AWp V P 124 100 Γ (Try.f3.body.getD .skip) (EndsE P V Try.f3 (.B r) []) ⟨args0 0 [.I p0, .cv (.ro .t_uint8 p1)], []⟩ := by
 unfold workflowlaw50_DiskFuse at h
 refine sr0 L 200 [] [] [] (S' := ⟨[(0, .I p0), (1, .cv (.ro .t_uint8 p1))], []⟩) ?_
 refine awp_seq ?_
 obtain ⟨o1, hp1, h⟩ := bind_some h
 refine awp_seq (awp_mono (Q' := fun e S => (e = .normal ∧ ∃ xt22_4 : Bool, S = ⟨[(0, .I p0), (1, .cv (.ro .t_uint8 p1)), (22, .B xt22_4)], []⟩ ∧ xt22_4 = o1)) ?_ ?_)
 ·clear h
  replace h := hp1
  rcases ite_some h with ⟨c1, h⟩ | ⟨c1, h⟩
  ·refine ar L 202 [(2, true)] [] [] (cs := [(decide (p0 < 0)) = true]) (S' := ⟨[(0, .I p0), (1, .cv (.ro .t_uint8 p1)), (22, .B true)], []⟩) (decide_eq_true c1) ?_
   obtain rfl := Option.some.inj h
   exact ⟨rfl, _, rfl, rfl⟩
  rcases ite_some h with ⟨c2, h⟩ | ⟨c2, h⟩
  ·refine ar L 202 [(2, false), (6, true)] [] [] (cs := [(decide (p0 < 0)) = false, (decide (p0 > 20)) = true]) (S' := ⟨[(0, .I p0), (1, .cv (.ro .t_uint8 p1)), (22, .B true)], []⟩) (And.intro (decide_eq_false c1) (decide_eq_true c2)) ?_
   obtain rfl := Option.some.inj h
   exact ⟨rfl, _, rfl, rfl⟩
  refine ar L 202 [(2, false), (6, false)] [] [] (cs := [(decide (p0 < 0)) = false, (decide (p0 > 20)) = false]) (S' := ⟨[(0, .I p0), (1, .cv (.ro .t_uint8 p1)), (22, .B (decide ((p1.length : Int) > 100)))], []⟩) (And.intro (decide_eq_false c1) (decide_eq_false c2)) ?_
  obtain rfl := Option.some.inj h
  exact ⟨rfl, _, rfl, rfl⟩
 ·rintro e S ⟨rfl, xt22_4, rfl, rfl⟩
  rcases ite_some h with ⟨c3, h⟩ | ⟨c3, h⟩
  ·refine tt (b := xt22_4) (c3) ?_
   refine awp_seq ?_
   obtain ⟨a1, h1, h⟩ := bind_some h
   refine ar L 214 [] [(0, .B a1)] [] (cs := [PCall V P 7 [] (.B a1), True]) (S' := ⟨[(4, .B a1)], []⟩) (And.intro (workflowlaw50_lives.ok h1) trivial) ?_
   refine awp_ret ?_
   obtain rfl := Option.some.inj h
   exact er (.B a1)
  refine ff (b := xt22_4) (eq_false_of_ne_true c3) ?_
  refine awp_skip' ?_
  refine awp_seq ?_
  obtain ⟨a2, h2, h⟩ := bind_some h
  rcases a2 with ⟨⟩ | a2
  ·dsimp only at h
   refine ar L 217 [] [] [(0, { hids := [], fx := [], r := .tup [.cv (.lit (.pointer none)), .I 2], H' := [], σ := [] })] (cs := [ECall V P 8 [.I 10000] [] [] (.tup [.cv (.lit (.pointer none)), .I 2]) []]) (S' := ⟨[(0, .I p0), (1, .cv (.ro .t_uint8 p1)), (5, .cv (.lit (.pointer none)))], []⟩) (disk_New.okE h2) ?_
   refine awp_seq ?_
   refine awp_seq ?_
   obtain ⟨⟨⟩, h3, h⟩ := bind_some h
   refine ar L 224 [] [(2, .I 1)] [] (cs := [PCall V P 9 [.cv (.lit (.pointer none)), .I p0] (.I 1), True]) (S' := ⟨[(0, .I p0), (1, .cv (.ro .t_uint8 p1)), (5, .cv (.lit (.pointer none))), (31, .B true)], []⟩) (And.intro (disk_Disk_Fuse_v3.ok h3) trivial) ?_
   refine tt (b := true) (rfl) ?_
   refine sr0 L 229 [] [] [] (S' := ⟨[(4, .B false)], []⟩) ?_
   refine awp_ret ?_
   obtain rfl := Option.some.inj h
   exact er (.B false)
  ·obtain ⟨⟩ := a2
   dsimp only at h
   refine ar L 217 [] [] [(0, { hids := [], fx := [], r := .tup [.P 100, .I 0], H' := [(100, .raw [.B true, .I 10000, .mp 101, .B false, .B false, .I 0]), (101, .mpb .t_disk_file ([] : List (List UInt8 × disk_file)))], σ := [(100, 5136), (101, 5137)] })] (cs := [ECall V P 8 [.I 10000] [] [] (.tup [.P 100, .I 0]) [(100, .raw [.B true, .I 10000, .mp 101, .B false, .B false, .I 0]), (101, .mpb .t_disk_file ([] : List (List UInt8 × disk_file)))]]) (S' := ⟨[(0, .I p0), (1, .cv (.ro .t_uint8 p1)), (5, .P 5136)], [(5136, .raw [.B true, .I 10000, .mp 5137, .B false, .B false, .I 0]), (5137, .mpb .t_disk_file ([] : List (List UInt8 × disk_file)))]⟩) (disk_New.okE h2) ?_
   refine awp_seq ?_
   refine awp_seq ?_
   obtain ⟨⟨a4_0, a4_1, a4_2, a4_3⟩, h4, h⟩ := bind_some h
   dsimp only at h
   refine ar L 224 [] [] [(2, { hids := [0, 1], fx := [0, 1], r := .I a4_0, H' := [(0, .raw [.B true, .I 10000, .mp 1, .B false, .B a4_1, .I a4_2]), (1, .mpb .t_disk_file a4_3)], σ := [(0, 5136), (1, 5137)] })] (cs := [ECall V P 9 [.P 0, .I p0] [(0, .raw [.B true, .I 10000, .mp 1, .B false, .B false, .I 0]), (1, .mpb .t_disk_file ([] : List (List UInt8 × disk_file)))] [0, 1] (.I a4_0) [(0, .raw [.B true, .I 10000, .mp 1, .B false, .B a4_1, .I a4_2]), (1, .mpb .t_disk_file a4_3)]]) (S' := ⟨[(0, .I p0), (1, .cv (.ro .t_uint8 p1)), (5, .P 5136), (31, .B (decide (a4_0 ≠ 0)))], [(5136, .raw [.B true, .I 10000, .mp 5137, .B false, .B a4_1, .I a4_2]), (5137, .mpb .t_disk_file a4_3)]⟩) (disk_Disk_Fuse_v2.okE h4) ?_
   rcases ite_some h with ⟨c4, h⟩ | ⟨c4, h⟩
   ·refine tt (b := (decide (a4_0 ≠ 0))) (decide_eq_true c4) ?_
    refine sr0 L 229 [] [] [] (S' := ⟨[(4, .B false)], []⟩) ?_
    refine awp_ret ?_
    obtain rfl := Option.some.inj h
    exact er (.B false)
   refine ff (b := (decide (a4_0 ≠ 0))) (decide_eq_false c4) ?_
   refine awp_skip' ?_
   refine awp_seq ?_
   obtain ⟨a5, h5, h⟩ := bind_some h
   refine ar L 231 [] [] [(1, { hids := [0, 1], fx := [0, 1], r := .P 100, H' := [(0, .raw [.B true, .I 10000, .mp 1, .B false, .B a4_1, .I a4_2]), (1, .mpb .t_disk_file a4_3), (100, .raw [.B true, .I 10000, .mp 101, .B false, .B a4_1, .I a4_2]), (101, .mpb .t_disk_file a5)], σ := [(0, 5136), (1, 5137), (100, 5256), (101, 5257)] })] (cs := [ECall V P 10 [.P 0] [(0, .raw [.B true, .I 10000, .mp 1, .B false, .B a4_1, .I a4_2]), (1, .mpb .t_disk_file a4_3)] [0, 1] (.P 100) [(0, .raw [.B true, .I 10000, .mp 1, .B false, .B a4_1, .I a4_2]), (1, .mpb .t_disk_file a4_3), (100, .raw [.B true, .I 10000, .mp 101, .B false, .B a4_1, .I a4_2]), (101, .mpb .t_disk_file a5)]]) (S' := ⟨[(0, .I p0), (1, .cv (.ro .t_uint8 p1)), (5, .P 5136), (7, .P 5256)], [(5136, .raw [.B true, .I 10000, .mp 5137, .B false, .B a4_1, .I a4_2]), (5137, .mpb .t_disk_file a4_3), (5256, .raw [.B true, .I 10000, .mp 5257, .B false, .B a4_1, .I a4_2]), (5257, .mpb .t_disk_file a5)]⟩) (ECall.lift' L Tag.t_disk_file (fun x => by kernel_rfl) (disk_Disk_Copy.okE h5) (by kernel_rfl) (by kernel_rfl) (by kernel_rfl) (by kernel_rfl)) ?_
   refine awp_seq ?_
   refine sr0 L 235 [] [] [] (S' := ⟨[(0, .I p0), (1, .cv (.ro .t_uint8 p1)), (5, .P 5136), (7, .P 5256), (8, .I 0)], [(5136, .raw [.B true, .I 10000, .mp 5137, .B false, .B a4_1, .I a4_2]), (5137, .mpb .t_disk_file a4_3), (5256, .raw [.B true, .I 10000, .mp 5257, .B false, .B a4_1, .I a4_2]), (5257, .mpb .t_disk_file a5)]⟩) ?_
   refine awp_block ?_
   refine awp_turn (Turns.trans (Turns.kp (S' := ⟨[(0, .I p0), (1, .cv (.ro .t_uint8 p1)), (5, .P 5136), (7, .P 5256), (8, .I 0)], [(5136, .raw [.B true, .I 10000, .mp 5137, .B false, .B a4_1, .I a4_2]), (5137, .mpb .t_disk_file a4_3), (5256, .raw [.B true, .I 10000, .mp 5257, .B false, .B a4_1, .I a4_2]), (5257, .mpb .t_disk_file a5)]⟩)) (Turns.rn [(5136, 25500), (5137, 25502), (5256, 25501), (5257, 25503)] (S' := ⟨[(0, .I p0), (1, .cv (.ro .t_uint8 p1)), (5, .P 25500), (7, .P 25501), (8, .I 0)], [(25500, .raw [.B true, .I 10000, .mp 25502, .B false, .B a4_1, .I a4_2]), (25502, .mpb .t_disk_file a4_3), (25501, .raw [.B true, .I 10000, .mp 25503, .B false, .B a4_1, .I a4_2]), (25503, .mpb .t_disk_file a5)]⟩))) ?_
   refine kp (S' := ⟨[(0, .I p0), (1, .cv (.ro .t_uint8 p1)), (5, .P 25500), (7, .P 25501), (8, .I 0)], [(25500, .raw [.B true, .I 10000, .mp 25502, .B false, .B a4_1, .I a4_2]), (25501, .raw [.B true, .I 10000, .mp 25503, .B false, .B a4_1, .I a4_2]), (25502, .mpb .t_disk_file a4_3), (25503, .mpb .t_disk_file a5)]⟩) ?_
   obtain ⟨o2, hp2, h⟩ := obind_some h
   refine awp_conseq (Q' := fun e S => (e = .exit 0 ∧ ∃ x25400_3 : Bool, ∃ x25400_5 : Int, ∃ x25402 : List (List UInt8 × disk_file), S = ⟨[(0, .I p0), (1, .cv (.ro .t_uint8 p1)), (5, .P 25400), (7, .P 25401)], [(25400, .raw [.B true, .I 10000, .mp 25402, .B x25400_3, .B a4_1, .I x25400_5]), (25401, .raw [.B true, .I 10000, .mp 25403, .B false, .B a4_1, .I a4_2]), (25402, .mpb .t_disk_file x25402), (25403, .mpb .t_disk_file a5)]⟩ ∧ Out.go (x25400_3, x25400_5, x25402) = o2) ∨ (e = .ret ∧ ∃ a, Out.done a = o2 ∧ EndsE P V Try.f3 (.B a) [] .ret S)) (awp_loop (fun k S => ∃ xt8_27h : Int, ∃ x25500_3 : Bool, ∃ x25500_5 : Int, ∃ x25502 : List (List UInt8 × disk_file), S = ⟨[(0, .I p0), (1, .cv (.ro .t_uint8 p1)), (5, .P 25500), (7, .P 25501), (8, .I xt8_27h)], [(25500, .raw [.B true, .I 10000, .mp 25502, .B x25500_3, .B a4_1, .I x25500_5]), (25501, .raw [.B true, .I 10000, .mp 25503, .B false, .B a4_1, .I a4_2]), (25502, .mpb .t_disk_file x25502), (25503, .mpb .t_disk_file a5)]⟩ ∧ workflowlaw50_DiskFuse.l27 K p0 p1 a4_1 k xt8_27h x25500_3 x25500_5 x25502 = some o2) ?_ ⟨_, _, _, _, rfl, hp2⟩) ?_
   ·clear h hp2
    intro k S hS
    obtain ⟨xt8_27h, x25500_3, x25500_5, x25502, rfl, h⟩ := hS
    cases k with
    | zero => cases h
    | succ k =>
    unfold workflowlaw50_DiskFuse.l27 at h
    refine awp_seq ?_
    refine sr0 L 237 [] [] [] (S' := ⟨[(0, .I p0), (1, .cv (.ro .t_uint8 p1)), (5, .P 25500), (7, .P 25501), (8, .I xt8_27h), (36, .B (decide (xt8_27h < p0)))], [(25500, .raw [.B true, .I 10000, .mp 25502, .B x25500_3, .B a4_1, .I x25500_5]), (25501, .raw [.B true, .I 10000, .mp 25503, .B false, .B a4_1, .I a4_2]), (25502, .mpb .t_disk_file x25502), (25503, .mpb .t_disk_file a5)]⟩) ?_
    rcases ite_some h with ⟨c5, h⟩ | ⟨c5, h⟩
    ·refine tt (b := (decide (xt8_27h < p0))) (decide_eq_true c5) ?_
     refine awp_skip' ?_
     refine awp_seq ?_
     refine awp_block ?_
     refine awp_seq ?_
     obtain ⟨⟨a6_0, a6_1, a6_2, a6_3⟩, h6, h⟩ := bind_some h
     dsimp only at h
     rcases ite_some h with ⟨c6, h⟩ | ⟨c6, h⟩
     ·refine ar L 241 [(4, true)] [] [(2, { hids := [0, 1], fx := [0, 1], r := .I a6_0, H' := [(0, .raw [.B true, .I 10000, .mp 1, .B a6_1, .B a4_1, .I a6_2]), (1, .mpb .t_disk_file a6_3)], σ := [(0, 25500), (1, 25502)] })] (cs := [ECall V P 11 [.P 0, .cv (.str ([97] : List UInt8)), .cv (.ro .t_uint8 p1)] [(0, .raw [.B true, .I 10000, .mp 1, .B x25500_3, .B a4_1, .I x25500_5]), (1, .mpb .t_disk_file x25502)] [0, 1] (.I a6_0) [(0, .raw [.B true, .I 10000, .mp 1, .B a6_1, .B a4_1, .I a6_2]), (1, .mpb .t_disk_file a6_3)], (decide (a6_0 ≠ 0)) = true]) (S' := ⟨[(0, .I p0), (1, .cv (.ro .t_uint8 p1)), (5, .P 25500), (7, .P 25501), (8, .I xt8_27h), (46, .B true)], [(25500, .raw [.B true, .I 10000, .mp 25502, .B a6_1, .B a4_1, .I a6_2]), (25501, .raw [.B true, .I 10000, .mp 25503, .B false, .B a4_1, .I a4_2]), (25502, .mpb .t_disk_file a6_3), (25503, .mpb .t_disk_file a5)]⟩) (And.intro (disk_Disk_Append_v2.okE h6) (decide_eq_true c6)) ?_
      refine tt (b := true) (rfl) ?_
      refine sr0 L 250 [] [] [] (S' := ⟨[(4, .B false)], []⟩) ?_
      refine awp_ret ?_
      obtain rfl := Option.some.inj h
      exact .inr ⟨rfl, _, rfl, er (.B false)⟩
     obtain ⟨⟨⟩, h7, h⟩ := bind_some h
     refine ar L 241 [(4, false)] [(6, .B a6_1)] [(2, { hids := [0, 1], fx := [0, 1], r := .I a6_0, H' := [(0, .raw [.B true, .I 10000, .mp 1, .B a6_1, .B a4_1, .I a6_2]), (1, .mpb .t_disk_file a6_3)], σ := [(0, 25500), (1, 25502)] })] (cs := [ECall V P 11 [.P 0, .cv (.str ([97] : List UInt8)), .cv (.ro .t_uint8 p1)] [(0, .raw [.B true, .I 10000, .mp 1, .B x25500_3, .B a4_1, .I x25500_5]), (1, .mpb .t_disk_file x25502)] [0, 1] (.I a6_0) [(0, .raw [.B true, .I 10000, .mp 1, .B a6_1, .B a4_1, .I a6_2]), (1, .mpb .t_disk_file a6_3)], (decide (a6_0 ≠ 0)) = false, PCall V P 12 [.cv (.pcs [.B true, .I 10000, .rom .t_disk_file a6_3, .B a6_1, .B a4_1, .I a6_2] 0)] (.B a6_1), True]) (S' := ⟨[(0, .I p0), (1, .cv (.ro .t_uint8 p1)), (5, .P 25500), (7, .P 25501), (8, .I xt8_27h), (46, .B a6_1)], [(25500, .raw [.B true, .I 10000, .mp 25502, .B a6_1, .B a4_1, .I a6_2]), (25501, .raw [.B true, .I 10000, .mp 25503, .B false, .B a4_1, .I a4_2]), (25502, .mpb .t_disk_file a6_3), (25503, .mpb .t_disk_file a5)]⟩) (And.intro (disk_Disk_Append_v2.okE h6) (And.intro (decide_eq_false c6) (And.intro (disk_Disk_Dead.ok h7) trivial))) ?_
     rcases ite_some h with ⟨c7, h⟩ | ⟨c7, h⟩
     ·refine tt (b := a6_1) (c7) ?_
      refine sr0 L 250 [] [] [] (S' := ⟨[(4, .B false)], []⟩) ?_
      refine awp_ret ?_
      obtain rfl := Option.some.inj h
      exact .inr ⟨rfl, _, rfl, er (.B false)⟩
     refine ff (b := a6_1) (eq_false_of_ne_true c7) ?_
     refine awp_skip' ?_
     refine ar0 L 252 [] [] [] (S' := ⟨[(0, .I p0), (1, .cv (.ro .t_uint8 p1)), (5, .P 25500), (7, .P 25501), (8, .I (IntKind.i64.wrap (xt8_27h + 1)))], [(25500, .raw [.B true, .I 10000, .mp 25502, .B a6_1, .B a4_1, .I a6_2]), (25501, .raw [.B true, .I 10000, .mp 25503, .B false, .B a4_1, .I a4_2]), (25502, .mpb .t_disk_file a6_3), (25503, .mpb .t_disk_file a5)]⟩) ?_
     exact ⟨k, Nat.lt_succ_self k, _, _, _, _, rfl, h⟩
    refine ff (b := (decide (xt8_27h < p0))) (decide_eq_false c5) ?_
    refine awp_turn (Turns.trans (Turns.kp (S' := ⟨[(0, .I p0), (1, .cv (.ro .t_uint8 p1)), (5, .P 25500), (7, .P 25501)], [(25500, .raw [.B true, .I 10000, .mp 25502, .B x25500_3, .B a4_1, .I x25500_5]), (25501, .raw [.B true, .I 10000, .mp 25503, .B false, .B a4_1, .I a4_2]), (25502, .mpb .t_disk_file x25502), (25503, .mpb .t_disk_file a5)]⟩)) (Turns.rn [(25500, 25400), (25501, 25401), (25502, 25402), (25503, 25403)] (S' := ⟨[(0, .I p0), (1, .cv (.ro .t_uint8 p1)), (5, .P 25400), (7, .P 25401)], [(25400, .raw [.B true, .I 10000, .mp 25402, .B x25500_3, .B a4_1, .I x25500_5]), (25401, .raw [.B true, .I 10000, .mp 25403, .B false, .B a4_1, .I a4_2]), (25402, .mpb .t_disk_file x25502), (25403, .mpb .t_disk_file a5)]⟩))) ?_
    refine ex (S' := ⟨[(0, .I p0), (1, .cv (.ro .t_uint8 p1)), (5, .P 25400), (7, .P 25401)], [(25400, .raw [.B true, .I 10000, .mp 25402, .B x25500_3, .B a4_1, .I x25500_5]), (25401, .raw [.B true, .I 10000, .mp 25403, .B false, .B a4_1, .I a4_2]), (25402, .mpb .t_disk_file x25502), (25403, .mpb .t_disk_file a5)]⟩) ?_
    obtain rfl := Option.some.inj h
    exact .inl ⟨rfl, _, _, _, rfl, rfl⟩
   ·rintro e S (⟨rfl, x25400_3, x25400_5, x25402, rfl, rfl⟩ | ⟨rfl, a, rfl, hr⟩)
    ·rcases h with ⟨_, e1, h⟩ | ⟨_, e1, h⟩
     ·cases e1
     ·have e2 := Out.go.inj e1
      subst e2
      dsimp only at h
      refine ⟨_, Turns.refl, ?_⟩
      refine awp_seq ?_
      refine awp_seq ?_
      obtain ⟨⟨a8_0, a8_1, a8_2, a8_3⟩, h8, h⟩ := bind_some h
      dsimp only at h
      rcases ite_some h with ⟨c8, h⟩ | ⟨c8, h⟩
      ·refine ar L 256 [(4, true)] [] [(2, { hids := [0, 1], fx := [0, 1], r := .I a8_0, H' := [(0, .raw [.B true, .I 10000, .mp 1, .B a8_1, .B a4_1, .I a8_2]), (1, .mpb .t_disk_file a8_3)], σ := [(0, 25400), (1, 25402)] })] (cs := [ECall V P 11 [.P 0, .cv (.str ([98] : List UInt8)), .cv (.ro .t_uint8 p1)] [(0, .raw [.B true, .I 10000, .mp 1, .B x25400_3, .B a4_1, .I x25400_5]), (1, .mpb .t_disk_file x25402)] [0, 1] (.I a8_0) [(0, .raw [.B true, .I 10000, .mp 1, .B a8_1, .B a4_1, .I a8_2]), (1, .mpb .t_disk_file a8_3)], (decide (a8_0 ≠ 28)) = true]) (S' := ⟨[(0, .I p0), (1, .cv (.ro .t_uint8 p1)), (5, .P 25400), (7, .P 25401), (74, .B true)], [(25400, .raw [.B true, .I 10000, .mp 25402, .B a8_1, .B a4_1, .I a8_2]), (25401, .raw [.B true, .I 10000, .mp 25403, .B false, .B a4_1, .I a4_2]), (25402, .mpb .t_disk_file a8_3), (25403, .mpb .t_disk_file a5)]⟩) (And.intro (disk_Disk_Append_v2.okE h8) (decide_eq_true c8)) ?_
       refine tt (b := true) (rfl) ?_
       refine sr0 L 285 [] [] [] (S' := ⟨[(4, .B false)], []⟩) ?_
       refine awp_ret ?_
       obtain rfl := Option.some.inj h
       exact er (.B false)
      obtain ⟨⟨⟩, h9, h⟩ := bind_some h
      rcases ite_some h with ⟨c9, h⟩ | ⟨c9, h⟩
      ·obtain ⟨⟨a10_0, a10_1, a10_2, a10_3⟩, h10, h⟩ := bind_some h
       dsimp only at h
       rcases ite_some h with ⟨c10, h⟩ | ⟨c10, h⟩
       ·refine ar L 256 [(4, false), (9, false), (14, true)] [(6, .B a8_1)] [(2, { hids := [0, 1], fx := [0, 1], r := .I a8_0, H' := [(0, .raw [.B true, .I 10000, .mp 1, .B a8_1, .B a4_1, .I a8_2]), (1, .mpb .t_disk_file a8_3)], σ := [(0, 25400), (1, 25402)] }), (11, { hids := [0, 1], fx := [0, 1], r := .I a10_0, H' := [(0, .raw [.B true, .I 10000, .mp 1, .B a10_1, .B a4_1, .I a10_2]), (1, .mpb .t_disk_file a10_3)], σ := [(0, 25400), (1, 25402)] })] (cs := [ECall V P 11 [.P 0, .cv (.str ([98] : List UInt8)), .cv (.ro .t_uint8 p1)] [(0, .raw [.B true, .I 10000, .mp 1, .B x25400_3, .B a4_1, .I x25400_5]), (1, .mpb .t_disk_file x25402)] [0, 1] (.I a8_0) [(0, .raw [.B true, .I 10000, .mp 1, .B a8_1, .B a4_1, .I a8_2]), (1, .mpb .t_disk_file a8_3)], (decide (a8_0 ≠ 28)) = false, PCall V P 12 [.cv (.pcs [.B true, .I 10000, .rom .t_disk_file a8_3, .B a8_1, .B a4_1, .I a8_2] 0)] (.B a8_1), True, (!a8_1) = false, ECall V P 13 [.P 0, .cv (.str ([97] : List UInt8))] [(0, .raw [.B true, .I 10000, .mp 1, .B a8_1, .B a4_1, .I a8_2]), (1, .mpb .t_disk_file a8_3)] [0, 1] (.I a10_0) [(0, .raw [.B true, .I 10000, .mp 1, .B a10_1, .B a4_1, .I a10_2]), (1, .mpb .t_disk_file a10_3)], (decide (a10_0 ≠ 28)) = true]) (S' := ⟨[(0, .I p0), (1, .cv (.ro .t_uint8 p1)), (5, .P 25400), (7, .P 25401), (74, .B true)], [(25400, .raw [.B true, .I 10000, .mp 25402, .B a10_1, .B a4_1, .I a10_2]), (25401, .raw [.B true, .I 10000, .mp 25403, .B false, .B a4_1, .I a4_2]), (25402, .mpb .t_disk_file a10_3), (25403, .mpb .t_disk_file a5)]⟩) (And.intro (disk_Disk_Append_v2.okE h8) (And.intro (decide_eq_false c8) (And.intro (disk_Disk_Dead.ok h9) (And.intro trivial (And.intro (congrArg Bool.not (c9)) (And.intro (disk_Disk_Sync_v2.okE h10) (decide_eq_true c10))))))) ?_
        refine tt (b := true) (rfl) ?_
        refine sr0 L 285 [] [] [] (S' := ⟨[(4, .B false)], []⟩) ?_
        refine awp_ret ?_
        obtain rfl := Option.some.inj h
        exact er (.B false)
       obtain ⟨⟨a11_0, a11_1, a11_2, a11_3⟩, h11, h⟩ := bind_some h
       dsimp only at h
       rcases ite_some h with ⟨c11, h⟩ | ⟨c11, h⟩
       ·refine ar L 256 [(4, false), (9, false), (14, false), (19, true)] [(6, .B a8_1)] [(2, { hids := [0, 1], fx := [0, 1], r := .I a8_0, H' := [(0, .raw [.B true, .I 10000, .mp 1, .B a8_1, .B a4_1, .I a8_2]), (1, .mpb .t_disk_file a8_3)], σ := [(0, 25400), (1, 25402)] }), (11, { hids := [0, 1], fx := [0, 1], r := .I a10_0, H' := [(0, .raw [.B true, .I 10000, .mp 1, .B a10_1, .B a4_1, .I a10_2]), (1, .mpb .t_disk_file a10_3)], σ := [(0, 25400), (1, 25402)] }), (16, { hids := [0, 1], fx := [0, 1], r := .I a11_0, H' := [(0, .raw [.B true, .I 10000, .mp 1, .B a10_1, .B a11_1, .I a11_2]), (1, .mpb .t_disk_file a11_3)], σ := [(0, 25400), (1, 25402)] })] (cs := [ECall V P 11 [.P 0, .cv (.str ([98] : List UInt8)), .cv (.ro .t_uint8 p1)] [(0, .raw [.B true, .I 10000, .mp 1, .B x25400_3, .B a4_1, .I x25400_5]), (1, .mpb .t_disk_file x25402)] [0, 1] (.I a8_0) [(0, .raw [.B true, .I 10000, .mp 1, .B a8_1, .B a4_1, .I a8_2]), (1, .mpb .t_disk_file a8_3)], (decide (a8_0 ≠ 28)) = false, PCall V P 12 [.cv (.pcs [.B true, .I 10000, .rom .t_disk_file a8_3, .B a8_1, .B a4_1, .I a8_2] 0)] (.B a8_1), True, (!a8_1) = false, ECall V P 13 [.P 0, .cv (.str ([97] : List UInt8))] [(0, .raw [.B true, .I 10000, .mp 1, .B a8_1, .B a4_1, .I a8_2]), (1, .mpb .t_disk_file a8_3)] [0, 1] (.I a10_0) [(0, .raw [.B true, .I 10000, .mp 1, .B a10_1, .B a4_1, .I a10_2]), (1, .mpb .t_disk_file a10_3)], (decide (a10_0 ≠ 28)) = false, ECall V P 9 [.P 0, .I 3] [(0, .raw [.B true, .I 10000, .mp 1, .B a10_1, .B a4_1, .I a10_2]), (1, .mpb .t_disk_file a10_3)] [0, 1] (.I a11_0) [(0, .raw [.B true, .I 10000, .mp 1, .B a10_1, .B a11_1, .I a11_2]), (1, .mpb .t_disk_file a11_3)], (decide (a11_0 ≠ 28)) = true]) (S' := ⟨[(0, .I p0), (1, .cv (.ro .t_uint8 p1)), (5, .P 25400), (7, .P 25401), (74, .B true)], [(25400, .raw [.B true, .I 10000, .mp 25402, .B a10_1, .B a11_1, .I a11_2]), (25401, .raw [.B true, .I 10000, .mp 25403, .B false, .B a4_1, .I a4_2]), (25402, .mpb .t_disk_file a11_3), (25403, .mpb .t_disk_file a5)]⟩) (And.intro (disk_Disk_Append_v2.okE h8) (And.intro (decide_eq_false c8) (And.intro (disk_Disk_Dead.ok h9) (And.intro trivial (And.intro (congrArg Bool.not (c9)) (And.intro (disk_Disk_Sync_v2.okE h10) (And.intro (decide_eq_false c10) (And.intro (disk_Disk_Fuse_v2.okE h11) (decide_eq_true c11))))))))) ?_
        refine tt (b := true) (rfl) ?_
        refine sr0 L 285 [] [] [] (S' := ⟨[(4, .B false)], []⟩) ?_
        refine awp_ret ?_
        obtain rfl := Option.some.inj h
        exact er (.B false)
       obtain ⟨a12, h12, h⟩ := bind_some h
       refine ar L 256 [(4, false), (9, false), (14, false), (19, false)] [(6, .B a8_1), (21, .I a12)] [(2, { hids := [0, 1], fx := [0, 1], r := .I a8_0, H' := [(0, .raw [.B true, .I 10000, .mp 1, .B a8_1, .B a4_1, .I a8_2]), (1, .mpb .t_disk_file a8_3)], σ := [(0, 25400), (1, 25402)] }), (11, { hids := [0, 1], fx := [0, 1], r := .I a10_0, H' := [(0, .raw [.B true, .I 10000, .mp 1, .B a10_1, .B a4_1, .I a10_2]), (1, .mpb .t_disk_file a10_3)], σ := [(0, 25400), (1, 25402)] }), (16, { hids := [0, 1], fx := [0, 1], r := .I a11_0, H' := [(0, .raw [.B true, .I 10000, .mp 1, .B a10_1, .B a11_1, .I a11_2]), (1, .mpb .t_disk_file a11_3)], σ := [(0, 25400), (1, 25402)] })] (cs := [ECall V P 11 [.P 0, .cv (.str ([98] : List UInt8)), .cv (.ro .t_uint8 p1)] [(0, .raw [.B true, .I 10000, .mp 1, .B x25400_3, .B a4_1, .I x25400_5]), (1, .mpb .t_disk_file x25402)] [0, 1] (.I a8_0) [(0, .raw [.B true, .I 10000, .mp 1, .B a8_1, .B a4_1, .I a8_2]), (1, .mpb .t_disk_file a8_3)], (decide (a8_0 ≠ 28)) = false, PCall V P 12 [.cv (.pcs [.B true, .I 10000, .rom .t_disk_file a8_3, .B a8_1, .B a4_1, .I a8_2] 0)] (.B a8_1), True, (!a8_1) = false, ECall V P 13 [.P 0, .cv (.str ([97] : List UInt8))] [(0, .raw [.B true, .I 10000, .mp 1, .B a8_1, .B a4_1, .I a8_2]), (1, .mpb .t_disk_file a8_3)] [0, 1] (.I a10_0) [(0, .raw [.B true, .I 10000, .mp 1, .B a10_1, .B a4_1, .I a10_2]), (1, .mpb .t_disk_file a10_3)], (decide (a10_0 ≠ 28)) = false, ECall V P 9 [.P 0, .I 3] [(0, .raw [.B true, .I 10000, .mp 1, .B a10_1, .B a4_1, .I a10_2]), (1, .mpb .t_disk_file a10_3)] [0, 1] (.I a11_0) [(0, .raw [.B true, .I 10000, .mp 1, .B a10_1, .B a11_1, .I a11_2]), (1, .mpb .t_disk_file a11_3)], (decide (a11_0 ≠ 28)) = false, PCall V P 14 [.cv (.pcs [.B true, .I 10000, .rom .t_disk_file a11_3, .B a10_1, .B a11_1, .I a11_2] 0)] (.I a12), True]) (S' := ⟨[(0, .I p0), (1, .cv (.ro .t_uint8 p1)), (5, .P 25400), (7, .P 25401), (74, .B (decide (a12 ≠ (IntKind.i64.wrap (p0 * (p1.length : Int))))))], [(25400, .raw [.B true, .I 10000, .mp 25402, .B a10_1, .B a11_1, .I a11_2]), (25401, .raw [.B true, .I 10000, .mp 25403, .B false, .B a4_1, .I a4_2]), (25402, .mpb .t_disk_file a11_3), (25403, .mpb .t_disk_file a5)]⟩) (And.intro (disk_Disk_Append_v2.okE h8) (And.intro (decide_eq_false c8) (And.intro (disk_Disk_Dead.ok h9) (And.intro trivial (And.intro (congrArg Bool.not (c9)) (And.intro (disk_Disk_Sync_v2.okE h10) (And.intro (decide_eq_false c10) (And.intro (disk_Disk_Fuse_v2.okE h11) (And.intro (decide_eq_false c11) (And.intro (disk_Disk_Used.ok h12) trivial)))))))))) ?_
       rcases ite_some h with ⟨c12, h⟩ | ⟨c12, h⟩
       ·refine tt (b := (decide (a12 ≠ (IntKind.i64.wrap (p0 * (p1.length : Int)))))) (decide_eq_true c12) ?_
        refine sr0 L 285 [] [] [] (S' := ⟨[(4, .B false)], []⟩) ?_
        refine awp_ret ?_
        obtain rfl := Option.some.inj h
        exact er (.B false)
       refine ff (b := (decide (a12 ≠ (IntKind.i64.wrap (p0 * (p1.length : Int)))))) (decide_eq_false c12) ?_
       refine awp_skip' ?_
       obtain ⟨o3, hp3, h⟩ := obind_some h
       refine awp_seq (awp_mono (Q' := fun e S => (e = .normal ∧ S = ⟨[(1, .cv (.ro .t_uint8 p1)), (5, .P 30400)], [(30400, .raw [.B true, .I 10000, .mp 30401, .B a10_1, .B a11_1, .I a11_2]), (30401, .mpb .t_disk_file a11_3)]⟩ ∧ Out.go () = o3) ∨ (e = .ret ∧ ∃ a, Out.done a = o3 ∧ EndsE P V Try.f3 (.B a) [] .ret S)) ?_ ?_)
       ·clear h
        replace h := hp3
        refine awp_seq ?_
        obtain ⟨a13, h13, h⟩ := bind_some h
        rcases ite_some h with ⟨c13, h⟩ | ⟨c13, h⟩
        ·refine ar L 287 [(3, true)] [(1, .I a13)] [] (cs := [PCall V P 14 [.cv (.pcs [.B true, .I 10000, .rom .t_disk_file a5, .B false, .B a4_1, .I a4_2] 0)] (.I a13), True, (decide (a13 ≠ 0)) = true]) (S' := ⟨[(1, .cv (.ro .t_uint8 p1)), (5, .P 25400), (91, .B true)], [(25400, .raw [.B true, .I 10000, .mp 25402, .B a10_1, .B a11_1, .I a11_2]), (25402, .mpb .t_disk_file a11_3)]⟩) (And.intro (disk_Disk_Used.ok h13) (And.intro trivial (decide_eq_true c13))) ?_
         refine tt (b := true) (rfl) ?_
         refine sr0 L 305 [] [] [] (S' := ⟨[(4, .B false)], []⟩) ?_
         refine awp_ret ?_
         obtain rfl := Option.some.inj h
         exact .inr ⟨rfl, _, rfl, er (.B false)⟩
        obtain ⟨⟨⟩, h14, h⟩ := bind_some h
        rcases ite_some h with ⟨c14, h⟩ | ⟨c14, h⟩
        ·obtain ⟨⟨a15_0, a15_1, a15_2, a15_3⟩, h15, h⟩ := bind_some h
         dsimp only at h
         refine ar L 287 [(3, false), (10, true)] [(1, .I a13), (5, .B false)] [(13, { hids := [0, 1], fx := [0, 1], r := .I a15_0, H' := [(0, .raw [.B true, .I 10000, .mp 1, .B a15_1, .B a4_1, .I a15_2]), (1, .mpb .t_disk_file a15_3)], σ := [(0, 25401), (1, 25403)] })] (cs := [PCall V P 14 [.cv (.pcs [.B true, .I 10000, .rom .t_disk_file a5, .B false, .B a4_1, .I a4_2] 0)] (.I a13), True, (decide (a13 ≠ 0)) = false, PCall V P 12 [.cv (.pcs [.B true, .I 10000, .rom .t_disk_file a5, .B false, .B a4_1, .I a4_2] 0)] (.B false), True, (decide (p0 > 0)) = true, ECall V P 11 [.P 0, .cv (.str ([98] : List UInt8)), .cv (.ro .t_uint8 p1)] [(0, .raw [.B true, .I 10000, .mp 1, .B false, .B a4_1, .I a4_2]), (1, .mpb .t_disk_file a5)] [0, 1] (.I a15_0) [(0, .raw [.B true, .I 10000, .mp 1, .B a15_1, .B a4_1, .I a15_2]), (1, .mpb .t_disk_file a15_3)]]) (S' := ⟨[(1, .cv (.ro .t_uint8 p1)), (5, .P 25400), (91, .B (decide (a15_0 ≠ 0)))], [(25400, .raw [.B true, .I 10000, .mp 25402, .B a10_1, .B a11_1, .I a11_2]), (25402, .mpb .t_disk_file a11_3)]⟩) (And.intro (disk_Disk_Used.ok h13) (And.intro trivial (And.intro (decide_eq_false c13) (And.intro (disk_Disk_Dead.ok h14) (And.intro trivial (And.intro (decide_eq_true c14) (disk_Disk_Append_v2.okE h15))))))) ?_
         rcases ite_some h with ⟨c15, h⟩ | ⟨c15, h⟩
         ·refine tt (b := (decide (a15_0 ≠ 0))) (decide_eq_true c15) ?_
          refine sr0 L 305 [] [] [] (S' := ⟨[(4, .B false)], []⟩) ?_
          refine awp_ret ?_
          obtain rfl := Option.some.inj h
          exact .inr ⟨rfl, _, rfl, er (.B false)⟩
         refine ff (b := (decide (a15_0 ≠ 0))) (decide_eq_false c15) ?_
         refine awp_turn (Turns.trans (Turns.kp (S' := ⟨[(1, .cv (.ro .t_uint8 p1)), (5, .P 25400)], [(25400, .raw [.B true, .I 10000, .mp 25402, .B a10_1, .B a11_1, .I a11_2]), (25402, .mpb .t_disk_file a11_3)]⟩)) (Turns.rn [(25400, 30400), (25402, 30401)] (S' := ⟨[(1, .cv (.ro .t_uint8 p1)), (5, .P 30400)], [(30400, .raw [.B true, .I 10000, .mp 30401, .B a10_1, .B a11_1, .I a11_2]), (30401, .mpb .t_disk_file a11_3)]⟩))) ?_
         refine sk (S' := ⟨[(1, .cv (.ro .t_uint8 p1)), (5, .P 30400)], [(30400, .raw [.B true, .I 10000, .mp 30401, .B a10_1, .B a11_1, .I a11_2]), (30401, .mpb .t_disk_file a11_3)]⟩) ?_
         obtain rfl := Option.some.inj h
         exact .inl ⟨rfl, rfl, rfl⟩
        refine ar L 287 [(3, false), (10, false)] [(1, .I a13), (5, .B false)] [] (cs := [PCall V P 14 [.cv (.pcs [.B true, .I 10000, .rom .t_disk_file a5, .B false, .B a4_1, .I a4_2] 0)] (.I a13), True, (decide (a13 ≠ 0)) = false, PCall V P 12 [.cv (.pcs [.B true, .I 10000, .rom .t_disk_file a5, .B false, .B a4_1, .I a4_2] 0)] (.B false), True, (decide (p0 > 0)) = false]) (S' := ⟨[(1, .cv (.ro .t_uint8 p1)), (5, .P 25400), (91, .B false)], [(25400, .raw [.B true, .I 10000, .mp 25402, .B a10_1, .B a11_1, .I a11_2]), (25402, .mpb .t_disk_file a11_3)]⟩) (And.intro (disk_Disk_Used.ok h13) (And.intro trivial (And.intro (decide_eq_false c13) (And.intro (disk_Disk_Dead.ok h14) (And.intro trivial (decide_eq_false c14)))))) ?_
        refine ff (b := false) (rfl) ?_
        refine awp_turn (Turns.trans (Turns.kp (S' := ⟨[(1, .cv (.ro .t_uint8 p1)), (5, .P 25400)], [(25400, .raw [.B true, .I 10000, .mp 25402, .B a10_1, .B a11_1, .I a11_2]), (25402, .mpb .t_disk_file a11_3)]⟩)) (Turns.rn [(25400, 30400), (25402, 30401)] (S' := ⟨[(1, .cv (.ro .t_uint8 p1)), (5, .P 30400)], [(30400, .raw [.B true, .I 10000, .mp 30401, .B a10_1, .B a11_1, .I a11_2]), (30401, .mpb .t_disk_file a11_3)]⟩))) ?_
        refine sk (S' := ⟨[(1, .cv (.ro .t_uint8 p1)), (5, .P 30400)], [(30400, .raw [.B true, .I 10000, .mp 30401, .B a10_1, .B a11_1, .I a11_2]), (30401, .mpb .t_disk_file a11_3)]⟩) ?_
        obtain rfl := Option.some.inj h
        exact .inl ⟨rfl, rfl, rfl⟩
       ·rintro e S (⟨rfl, rfl, rfl⟩ | ⟨rfl, a, rfl, hr⟩)
        ·rcases h with ⟨_, e1, h⟩ | ⟨_, e1, h⟩
         ·cases e1
         ·have e2 := Out.go.inj e1
          subst e2
          refine awp_seq ?_
          obtain ⟨⟨a16_0, a16_1, a16_2⟩, h16, h⟩ := bind_some h
          dsimp only at h
          refine ar L 307 [] [] [(1, { hids := [0, 1], fx := [0, 1], r := .tup [.cv (.ro .t_uint8 a16_0), .I a16_1], H' := [(0, .raw [.B true, .I 10000, .mp 1, .B a10_1, .B a11_1, .I a11_2]), (1, .mpb .t_disk_file a16_2)], σ := [(0, 30400), (1, 30401)] })] (cs := [ECall V P 15 [.P 0, .cv (.str ([97] : List UInt8))] [(0, .raw [.B true, .I 10000, .mp 1, .B a10_1, .B a11_1, .I a11_2]), (1, .mpb .t_disk_file a11_3)] [0, 1] (.tup [.cv (.ro .t_uint8 a16_0), .I a16_1]) [(0, .raw [.B true, .I 10000, .mp 1, .B a10_1, .B a11_1, .I a11_2]), (1, .mpb .t_disk_file a16_2)]]) (S' := ⟨[(1, .cv (.ro .t_uint8 p1)), (5, .P 30400), (10, .I a16_1)], [(30400, .raw [.B true, .I 10000, .mp 30401, .B a10_1, .B a11_1, .I a11_2]), (30401, .mpb .t_disk_file a16_2)]⟩) (disk_Disk_Read_v2.okE h16) ?_
          refine awp_seq ?_
          obtain ⟨⟨a17_0, a17_1, a17_2, a17_3, a17_4⟩, h17, h⟩ := bind_some h
          dsimp only at h
          refine ar L 315 [] [] [(1, { hids := [0, 1], fx := [0, 1], r := .I a17_0, H' := [(0, .raw [.B true, .I 10000, .mp 1, .B a17_1, .B a17_2, .I a17_3]), (1, .mpb .t_disk_file a17_4)], σ := [(0, 30400), (1, 30401)] })] (cs := [ECall V P 16 [.P 0, .I 0] [(0, .raw [.B true, .I 10000, .mp 1, .B a10_1, .B a11_1, .I a11_2]), (1, .mpb .t_disk_file a16_2)] [0, 1] (.I a17_0) [(0, .raw [.B true, .I 10000, .mp 1, .B a17_1, .B a17_2, .I a17_3]), (1, .mpb .t_disk_file a17_4)]]) (S' := ⟨[(1, .cv (.ro .t_uint8 p1)), (5, .P 30400), (10, .I a16_1), (11, .I a17_0)], [(30400, .raw [.B true, .I 10000, .mp 30401, .B a17_1, .B a17_2, .I a17_3]), (30401, .mpb .t_disk_file a17_4)]⟩) (disk_Disk_Crash_v2.okE h17) ?_
          refine awp_seq ?_
          rcases ite_some h with ⟨c16, h⟩ | ⟨c16, h⟩
          ·rcases ite_some h with ⟨c17, h⟩ | ⟨c17, h⟩
           ·obtain ⟨⟨⟩, h18, h⟩ := bind_some h
            rcases ite_some h with ⟨c18, h⟩ | ⟨c18, h⟩
            ·refine ar L 319 [(2, true), (6, true), (11, false)] [(8, .B a17_1)] [] (cs := [(decide (a16_1 = 28)) = true, (decide (a17_0 = 0)) = true, PCall V P 12 [.cv (.pcs [.B true, .I 10000, .rom .t_disk_file a17_4, .B a17_1, .B a17_2, .I a17_3] 0)] (.B a17_1), True, (!a17_1) = false]) (S' := ⟨[(4, .B false)], []⟩) (And.intro (decide_eq_true c16) (And.intro (decide_eq_true c17) (And.intro (disk_Disk_Dead.ok h18) (And.intro trivial (congrArg Bool.not (c18)))))) ?_
             refine awp_ret ?_
             obtain rfl := Option.some.inj h
             exact er (.B false)
            obtain ⟨a19, h19, h⟩ := bind_some h
            rcases ite_some h with ⟨c19, h⟩ | ⟨c19, h⟩
            ·obtain ⟨⟨a20_0, a20_1, a20_2, a20_3⟩, h20, h⟩ := bind_some h
             dsimp only at h
             rcases ite_some h with ⟨c20, h⟩ | ⟨c20, h⟩
             ·obtain ⟨a21, h21, h⟩ := bind_some h
              refine ar L 319 [(2, true), (6, true), (11, true), (16, true), (22, true)] [(8, .B a17_1), (13, .I a19), (23, .B a21)] [(19, { hids := [0, 1], fx := [0, 1], r := .I a20_0, H' := [(0, .raw [.B true, .I 10000, .mp 1, .B a20_1, .B a17_2, .I a20_2]), (1, .mpb .t_disk_file a20_3)], σ := [(0, 30400), (1, 30401)] })] (cs := [(decide (a16_1 = 28)) = true, (decide (a17_0 = 0)) = true, PCall V P 12 [.cv (.pcs [.B true, .I 10000, .rom .t_disk_file a17_4, .B a17_1, .B a17_2, .I a17_3] 0)] (.B a17_1), True, (!a17_1) = true, PCall V P 14 [.cv (.pcs [.B true, .I 10000, .rom .t_disk_file a17_4, .B a17_1, .B a17_2, .I a17_3] 0)] (.I a19), True, (decide (a19 = 0)) = true, ECall V P 11 [.P 0, .cv (.str ([98] : List UInt8)), .cv (.ro .t_uint8 p1)] [(0, .raw [.B true, .I 10000, .mp 1, .B a17_1, .B a17_2, .I a17_3]), (1, .mpb .t_disk_file a17_4)] [0, 1] (.I a20_0) [(0, .raw [.B true, .I 10000, .mp 1, .B a20_1, .B a17_2, .I a20_2]), (1, .mpb .t_disk_file a20_3)], (decide (a20_0 = 0)) = true, PCall V P 7 [] (.B a21), True]) (S' := ⟨[(4, .B a21)], []⟩) (And.intro (decide_eq_true c16) (And.intro (decide_eq_true c17) (And.intro (disk_Disk_Dead.ok h18) (And.intro trivial (And.intro (congrArg Bool.not (eq_false_of_ne_true c18)) (And.intro (disk_Disk_Used.ok h19) (And.intro trivial (And.intro (decide_eq_true c19) (And.intro (disk_Disk_Append_v2.okE h20) (And.intro (decide_eq_true c20) (And.intro (workflowlaw50_lives.ok h21) trivial))))))))))) ?_
              refine awp_ret ?_
              obtain rfl := Option.some.inj h
              exact er (.B a21)
             refine ar L 319 [(2, true), (6, true), (11, true), (16, true), (22, false)] [(8, .B a17_1), (13, .I a19)] [(19, { hids := [0, 1], fx := [0, 1], r := .I a20_0, H' := [(0, .raw [.B true, .I 10000, .mp 1, .B a20_1, .B a17_2, .I a20_2]), (1, .mpb .t_disk_file a20_3)], σ := [(0, 30400), (1, 30401)] })] (cs := [(decide (a16_1 = 28)) = true, (decide (a17_0 = 0)) = true, PCall V P 12 [.cv (.pcs [.B true, .I 10000, .rom .t_disk_file a17_4, .B a17_1, .B a17_2, .I a17_3] 0)] (.B a17_1), True, (!a17_1) = true, PCall V P 14 [.cv (.pcs [.B true, .I 10000, .rom .t_disk_file a17_4, .B a17_1, .B a17_2, .I a17_3] 0)] (.I a19), True, (decide (a19 = 0)) = true, ECall V P 11 [.P 0, .cv (.str ([98] : List UInt8)), .cv (.ro .t_uint8 p1)] [(0, .raw [.B true, .I 10000, .mp 1, .B a17_1, .B a17_2, .I a17_3]), (1, .mpb .t_disk_file a17_4)] [0, 1] (.I a20_0) [(0, .raw [.B true, .I 10000, .mp 1, .B a20_1, .B a17_2, .I a20_2]), (1, .mpb .t_disk_file a20_3)], (decide (a20_0 = 0)) = false]) (S' := ⟨[(4, .B false)], []⟩) (And.intro (decide_eq_true c16) (And.intro (decide_eq_true c17) (And.intro (disk_Disk_Dead.ok h18) (And.intro trivial (And.intro (congrArg Bool.not (eq_false_of_ne_true c18)) (And.intro (disk_Disk_Used.ok h19) (And.intro trivial (And.intro (decide_eq_true c19) (And.intro (disk_Disk_Append_v2.okE h20) (decide_eq_false c20)))))))))) ?_
             refine awp_ret ?_
             obtain rfl := Option.some.inj h
             exact er (.B false)
            refine ar L 319 [(2, true), (6, true), (11, true), (16, false)] [(8, .B a17_1), (13, .I a19)] [] (cs := [(decide (a16_1 = 28)) = true, (decide (a17_0 = 0)) = true, PCall V P 12 [.cv (.pcs [.B true, .I 10000, .rom .t_disk_file a17_4, .B a17_1, .B a17_2, .I a17_3] 0)] (.B a17_1), True, (!a17_1) = true, PCall V P 14 [.cv (.pcs [.B true, .I 10000, .rom .t_disk_file a17_4, .B a17_1, .B a17_2, .I a17_3] 0)] (.I a19), True, (decide (a19 = 0)) = false]) (S' := ⟨[(4, .B false)], []⟩) (And.intro (decide_eq_true c16) (And.intro (decide_eq_true c17) (And.intro (disk_Disk_Dead.ok h18) (And.intro trivial (And.intro (congrArg Bool.not (eq_false_of_ne_true c18)) (And.intro (disk_Disk_Used.ok h19) (And.intro trivial (decide_eq_false c19)))))))) ?_
            refine awp_ret ?_
            obtain rfl := Option.some.inj h
            exact er (.B false)
           refine ar L 319 [(2, true), (6, false)] [] [] (cs := [(decide (a16_1 = 28)) = true, (decide (a17_0 = 0)) = false]) (S' := ⟨[(4, .B false)], []⟩) (And.intro (decide_eq_true c16) (decide_eq_false c17)) ?_
           refine awp_ret ?_
           obtain rfl := Option.some.inj h
           exact er (.B false)
          refine ar L 319 [(2, false)] [] [] (cs := [(decide (a16_1 = 28)) = false]) (S' := ⟨[(4, .B false)], []⟩) (decide_eq_false c16) ?_
          refine awp_ret ?_
          obtain rfl := Option.some.inj h
          exact er (.B false)
        ·rcases h with ⟨_, e1, h⟩ | ⟨_, e1, h⟩
         ·have e2 := Out.done.inj e1
          subst e2
          subst h
          exact hr
         ·cases e1
      refine ar L 256 [(4, false), (9, true)] [(6, .B a8_1)] [(2, { hids := [0, 1], fx := [0, 1], r := .I a8_0, H' := [(0, .raw [.B true, .I 10000, .mp 1, .B a8_1, .B a4_1, .I a8_2]), (1, .mpb .t_disk_file a8_3)], σ := [(0, 25400), (1, 25402)] })] (cs := [ECall V P 11 [.P 0, .cv (.str ([98] : List UInt8)), .cv (.ro .t_uint8 p1)] [(0, .raw [.B true, .I 10000, .mp 1, .B x25400_3, .B a4_1, .I x25400_5]), (1, .mpb .t_disk_file x25402)] [0, 1] (.I a8_0) [(0, .raw [.B true, .I 10000, .mp 1, .B a8_1, .B a4_1, .I a8_2]), (1, .mpb .t_disk_file a8_3)], (decide (a8_0 ≠ 28)) = false, PCall V P 12 [.cv (.pcs [.B true, .I 10000, .rom .t_disk_file a8_3, .B a8_1, .B a4_1, .I a8_2] 0)] (.B a8_1), True, (!a8_1) = true]) (S' := ⟨[(0, .I p0), (1, .cv (.ro .t_uint8 p1)), (5, .P 25400), (7, .P 25401), (74, .B true)], [(25400, .raw [.B true, .I 10000, .mp 25402, .B a8_1, .B a4_1, .I a8_2]), (25401, .raw [.B true, .I 10000, .mp 25403, .B false, .B a4_1, .I a4_2]), (25402, .mpb .t_disk_file a8_3), (25403, .mpb .t_disk_file a5)]⟩) (And.intro (disk_Disk_Append_v2.okE h8) (And.intro (decide_eq_false c8) (And.intro (disk_Disk_Dead.ok h9) (And.intro trivial (congrArg Bool.not (eq_false_of_ne_true c9)))))) ?_
      refine tt (b := true) (rfl) ?_
      refine sr0 L 285 [] [] [] (S' := ⟨[(4, .B false)], []⟩) ?_
      refine awp_ret ?_
      obtain rfl := Option.some.inj h
      exact er (.B false)
    ·rcases h with ⟨_, e1, h⟩ | ⟨_, e1, h⟩
     ·have e2 := Out.done.inj e1
      subst e2
      subst h
      exact ⟨_, Turns.refl, hr⟩
     ·cases e1
theorem workflowlaw50_DiskFuse.ok {K : Nat} {p0 : Int} {p1 : List UInt8} {r : Bool} (h : workflowlaw50_DiskFuse K p0 p1 = some r) : PCall V P 3 [.I p0, .cv (.ro .t_uint8 p1)] (.B r) := ECall.pcall (eo (fn := Try.f3) (n := 124) (m := 100) fun Γ => workflowlaw50_DiskFuse.body h) (by kernel_rfl)
def workflowlaw50_small.l9 (K : Nat) (p0 : List workflowlaw50_Step) : Nat → Int → Int → Option Int
 | 0, _, _ => none
 | k + 1, xt3_9h, xt4_9h => (if xt4_9h < (p0.length : Int) then (if xt4_9h ≤ 60 then (if (0 : Int) ≤ xt4_9h ∧ (xt4_9h : Int) < (p0.length : Int) then workflowlaw50_small.l9 K p0 k ((IntKind.i64.wrap ((IntKind.i64.wrap ((IntKind.i64.wrap (xt3_9h + (((p0.getD (Int.toNat xt4_9h) z_workflowlaw50_Step).Data).length : Int))) + (((p0.getD (Int.toNat xt4_9h) z_workflowlaw50_Step).Name).length : Int))) + (((p0.getD (Int.toNat xt4_9h) z_workflowlaw50_Step).To).length : Int)))) (IntKind.i64.wrap (xt4_9h + 1)) else none) else some xt3_9h) else some xt3_9h)
def workflowlaw50_small (K : Nat) (p0 : List workflowlaw50_Step) : Option Bool := (Option.bind (workflowlaw50_small.l9 K p0 K 0 0 : Option Int) (fun xt3_9 => (if (p0.length : Int) ≤ 60 then some (decide (xt3_9 ≤ 6000)) else some false)))
theorem workflowlaw50_small.body {Γ : Ent} {K : Nat} {p0 : List workflowlaw50_Step} {r : Bool} (h : workflowlaw50_small K p0 = some r) : AWp V P 44 100 Γ (Try.f17.body.getD .skip) (EndsE P V Try.f17 (.B r) []) ⟨args0 0 [.cv (.ro .t_workflowlaw50_Step p0)], []⟩ := by
 unfold workflowlaw50_small at h
 refine sr0 L 200 [] [] [] (S' := ⟨[(0, .cv (.ro .t_workflowlaw50_Step p0))], []⟩) ?_
 refine sr0 L 202 [] [] [] (S' := ⟨[(0, .cv (.ro .t_workflowlaw50_Step p0)), (3, .I 0)], []⟩) ?_
 refine awp_seq ?_
 refine sr0 L 204 [] [] [] (S' := ⟨[(0, .cv (.ro .t_workflowlaw50_Step p0)), (3, .I 0), (4, .I 0)], []⟩) ?_
 refine awp_block ?_
 refine kp (S' := ⟨[(0, .cv (.ro .t_workflowlaw50_Step p0)), (3, .I 0), (4, .I 0)], []⟩) ?_
 obtain ⟨o1, hp1, h⟩ := bind_some h
 refine awp_conseq (Q' := fun e S => (e = .exit 0 ∧ ∃ xt3_9 : Int, S = ⟨[(0, .cv (.ro .t_workflowlaw50_Step p0)), (3, .I xt3_9)], []⟩ ∧ xt3_9 = o1)) (awp_loop (fun k S => ∃ xt3_9h : Int, ∃ xt4_9h : Int, S = ⟨[(0, .cv (.ro .t_workflowlaw50_Step p0)), (3, .I xt3_9h), (4, .I xt4_9h)], []⟩ ∧ workflowlaw50_small.l9 K p0 k xt3_9h xt4_9h = some o1) ?_ ⟨_, _, rfl, hp1⟩) ?_
 ·clear h hp1
  intro k S hS
  obtain ⟨xt3_9h, xt4_9h, rfl, h⟩ := hS
  cases k with
  | zero => cases h
  | succ k =>
  unfold workflowlaw50_small.l9 at h
  refine awp_seq ?_
  refine awp_seq ?_
  rcases ite_some h with ⟨c1, h⟩ | ⟨c1, h⟩
  ·refine ar L 206 [(4, true)] [] [] (cs := [(decide (xt4_9h < (p0.length : Int))) = true]) (S' := ⟨[(0, .cv (.ro .t_workflowlaw50_Step p0)), (3, .I xt3_9h), (4, .I xt4_9h), (12, .B (decide (xt4_9h ≤ 60)))], []⟩) (decide_eq_true c1) ?_
   rcases ite_some h with ⟨c2, h⟩ | ⟨c2, h⟩
   ·refine tt (b := (decide (xt4_9h ≤ 60))) (decide_eq_true c2) ?_
    refine awp_skip' ?_
    refine awp_seq ?_
    refine awp_block ?_
    obtain ⟨g1, h⟩ := guard_some h
    refine ad L mixed 215 [] [] [] [] 22 (cs := [(0 : Int) ≤ xt4_9h, (xt4_9h : Int) < (p0.length : Int), (0 : Int) ≤ xt4_9h, (xt4_9h : Int) < (p0.length : Int), (0 : Int) ≤ xt4_9h, (xt4_9h : Int) < (p0.length : Int)]) (S' := ⟨[(0, .cv (.ro .t_workflowlaw50_Step p0)), (3, .I ((IntKind.i64.wrap ((IntKind.i64.wrap ((IntKind.i64.wrap (xt3_9h + (((p0.getD (Int.toNat xt4_9h) z_workflowlaw50_Step).Data).length : Int))) + (((p0.getD (Int.toNat xt4_9h) z_workflowlaw50_Step).Name).length : Int))) + (((p0.getD (Int.toNat xt4_9h) z_workflowlaw50_Step).To).length : Int))))), (4, .I xt4_9h)], []⟩) (And.intro g1.1 (And.intro g1.2 (And.intro g1.1 (And.intro g1.2 (And.intro g1.1 g1.2))))) ?_
    refine ar0 L 239 [] [] [] (S' := ⟨[(0, .cv (.ro .t_workflowlaw50_Step p0)), (3, .I ((IntKind.i64.wrap ((IntKind.i64.wrap ((IntKind.i64.wrap (xt3_9h + (((p0.getD (Int.toNat xt4_9h) z_workflowlaw50_Step).Data).length : Int))) + (((p0.getD (Int.toNat xt4_9h) z_workflowlaw50_Step).Name).length : Int))) + (((p0.getD (Int.toNat xt4_9h) z_workflowlaw50_Step).To).length : Int))))), (4, .I (IntKind.i64.wrap (xt4_9h + 1)))], []⟩) ?_
    exact ⟨k, Nat.lt_succ_self k, _, _, rfl, h⟩
   refine ff (b := (decide (xt4_9h ≤ 60))) (decide_eq_false c2) ?_
   refine ex (S' := ⟨[(0, .cv (.ro .t_workflowlaw50_Step p0)), (3, .I xt3_9h)], []⟩) ?_
   obtain rfl := Option.some.inj h
   exact ⟨rfl, _, rfl, rfl⟩
  refine ar L 206 [(4, false)] [] [] (cs := [(decide (xt4_9h < (p0.length : Int))) = false]) (S' := ⟨[(0, .cv (.ro .t_workflowlaw50_Step p0)), (3, .I xt3_9h), (4, .I xt4_9h), (12, .B false)], []⟩) (decide_eq_false c1) ?_
  refine ff (b := false) (rfl) ?_
  refine ex (S' := ⟨[(0, .cv (.ro .t_workflowlaw50_Step p0)), (3, .I xt3_9h)], []⟩) ?_
  obtain rfl := Option.some.inj h
  exact ⟨rfl, _, rfl, rfl⟩
 ·rintro e S ⟨rfl, xt3_9, rfl, rfl⟩
  refine ⟨_, Turns.refl, ?_⟩
  refine awp_seq ?_
  rcases ite_some h with ⟨c3, h⟩ | ⟨c3, h⟩
  ·refine ar L 243 [(3, true)] [] [] (cs := [(decide ((p0.length : Int) ≤ 60)) = true]) (S' := ⟨[(2, .B (decide (xt3_9 ≤ 6000)))], []⟩) (decide_eq_true c3) ?_
   refine awp_ret ?_
   obtain rfl := Option.some.inj h
   exact er (.B (decide (xt3_9 ≤ 6000)))
  refine ar L 243 [(3, false)] [] [] (cs := [(decide ((p0.length : Int) ≤ 60)) = false]) (S' := ⟨[(2, .B false)], []⟩) (decide_eq_false c3) ?_
  refine awp_ret ?_
  obtain rfl := Option.some.inj h
  exact er (.B false)
theorem workflowlaw50_small.ok {K : Nat} {p0 : List workflowlaw50_Step} {r : Bool} (h : workflowlaw50_small K p0 = some r) : PCall V P 17 [.cv (.ro .t_workflowlaw50_Step p0)] (.B r) := ECall.pcall (eo (fn := Try.f17) (n := 44) (m := 100) fun Γ => workflowlaw50_small.body h) (by kernel_rfl)
def workflowref50_New (K : Nat) (p0 : Int) : Option (Unit ⊕ Unit) := (if p0 < 0 then some (Sum.inl ()) else (if p0 > 4194304 then some (Sum.inl ()) else some (Sum.inr ())))
def workflowref50_New.rep (p0 : Int) : Unit ⊕ Unit → AV T
 | (Sum.inl ()) => .tup [.cv (.lit (.pointer none)), .I 2]
 | (Sum.inr ()) => .tup [.P 100, .I 0]
def workflowref50_New.post (p0 : Int) : Unit ⊕ Unit → List (Nat × Blk T)
 | (Sum.inl ()) => []
 | (Sum.inr ()) => [(100, .raw [.N, .I p0, .I (-1), .B false, .B true])]
theorem workflowref50_New.body {Γ : Ent} {K : Nat} {p0 : Int} {r : Unit ⊕ Unit} (h : workflowref50_New K p0 = some r) : AWp V P 13 100 Γ (Try.f18.body.getD .skip) (EndsE P V Try.f18 (workflowref50_New.rep p0 r) (workflowref50_New.post p0 r)) ⟨args0 0 [.I p0], []⟩ := by
 unfold workflowref50_New at h
 refine sr0 L 200 [] [] [] (S' := ⟨[(0, .I p0)], []⟩) ?_
 refine awp_seq ?_
 refine awp_seq ?_
 rcases ite_some h with ⟨c1, h⟩ | ⟨c1, h⟩
 ·refine ar L 203 [(2, true)] [] [] (cs := [(decide (p0 < 0)) = true]) (S' := ⟨[(0, .I p0), (9, .B true)], []⟩) (decide_eq_true c1) ?_
  refine tt (b := true) (rfl) ?_
  refine sr0 L 210 [] [] [] (S' := ⟨[(2, .cv (.lit (.pointer none))), (3, .I 2)], []⟩) ?_
  refine awp_ret ?_
  obtain rfl := Option.some.inj h
  exact er (.tup [.cv (.lit (.pointer none)), .I 2])
 refine ar L 203 [(2, false)] [] [] (cs := [(decide (p0 < 0)) = false]) (S' := ⟨[(0, .I p0), (9, .B (decide (p0 > 4194304)))], []⟩) (decide_eq_false c1) ?_
 rcases ite_some h with ⟨c2, h⟩ | ⟨c2, h⟩
 ·refine tt (b := (decide (p0 > 4194304))) (decide_eq_true c2) ?_
  refine sr0 L 210 [] [] [] (S' := ⟨[(2, .cv (.lit (.pointer none))), (3, .I 2)], []⟩) ?_
  refine awp_ret ?_
  obtain rfl := Option.some.inj h
  exact er (.tup [.cv (.lit (.pointer none)), .I 2])
 refine ff (b := (decide (p0 > 4194304))) (decide_eq_false c2) ?_
 refine awp_skip' ?_
 refine sr0 L 213 [] [] [] (S' := ⟨[(2, .P 215), (3, .I 0)], [(215, .raw [.N, .I p0, .I (-1), .B false, .B true])]⟩) ?_
 refine awp_turn (Turns.rn [(215, 100)] (S' := ⟨[(2, .P 100), (3, .I 0)], [(100, .raw [.N, .I p0, .I (-1), .B false, .B true])]⟩)) ?_
 refine awp_ret ?_
 obtain rfl := Option.some.inj h
 exact er (.tup [.P 100, .I 0])
theorem workflowref50_New.okE {K : Nat} {p0 : Int} {r : Unit ⊕ Unit} (h : workflowref50_New K p0 = some r) : ECall V P 18 [.I p0] [] [] (workflowref50_New.rep p0 r) (workflowref50_New.post p0 r) :=
 eo (fn := Try.f18) (n := 13) (m := 100) fun Γ => workflowref50_New.body h
def disk_Disk_Append_v3 (K : Nat) (p0 : List UInt8) (p1 : List UInt8) : Option Unit := (Option.bind (disk_Disk_named_v2 K ([p0] : List (List UInt8))) (fun _ => some ()))
theorem disk_Disk_Append_v3.body {Γ : Ent} {K : Nat} {p0 : List UInt8} {p1 : List UInt8} {r : Unit} (h : disk_Disk_Append_v3 K p0 p1 = some r) : AWp V P 28 100 Γ (Try.f11.body.getD .skip) (EndsE P V Try.f11 (.I 1) []) ⟨args0 0 [.cv (.lit (.pointer none)), .cv (.str p0), .cv (.ro .t_uint8 p1)], []⟩ := by
 unfold disk_Disk_Append_v3 at h
 refine sr0 L 200 [] [] [] (S' := ⟨[(3, .P 200), (4, .P 201), (5, .P 202)], [(200, .raw [.lit (.pointer none)]), (201, .raw [.str p0]), (202, .raw [.ro .t_uint8 p1])]⟩) ?_
 refine awp_seq ?_
 refine awp_seq ?_
 obtain ⟨⟨⟩, h1, h⟩ := bind_some h
 refine ar L 205 [] [(3, .I 1)] [] (cs := [PCall V P 27 [.cv (.lit (.pointer none)), .cv (.ro .t_string ([p0] : List (List UInt8)))] (.I 1), True]) (S' := ⟨[(3, .P 200), (4, .P 201), (5, .P 202), (7, .I 1)], [(200, .raw [.lit (.pointer none)]), (201, .raw [.str p0]), (202, .raw [.ro .t_uint8 p1])]⟩) (And.intro (disk_Disk_named_v2.ok h1) trivial) ?_
 refine sr0 L 211 [] [] [] (S' := ⟨[(3, .P 200), (4, .P 201), (5, .P 202), (7, .I 1), (13, .B true)], [(200, .raw [.lit (.pointer none)]), (201, .raw [.str p0]), (202, .raw [.ro .t_uint8 p1])]⟩) ?_
 refine tt (b := true) (rfl) ?_
 refine sr0 L 214 [] [] [] (S' := ⟨[(6, .I 1)], []⟩) ?_
 refine awp_ret ?_
 obtain rfl := Option.some.inj h
 exact er (.I 1)
theorem disk_Disk_Append_v3.ok {K : Nat} {p0 : List UInt8} {p1 : List UInt8} {r : Unit} (h : disk_Disk_Append_v3 K p0 p1 = some r) : PCall V P 11 [.cv (.lit (.pointer none)), .cv (.str p0), .cv (.ro .t_uint8 p1)] (.I 1) := ECall.pcall (eo (fn := Try.f11) (n := 28) (m := 100) fun Γ => disk_Disk_Append_v3.body h) (by kernel_rfl)
def disk_Disk_Rename (K : Nat) (p0 : List UInt8) (p1 : List UInt8) : Option Unit := (Option.bind (disk_Disk_existing_v3 K p0 ([p1] : List (List UInt8))) (fun a1 => some ()))
theorem disk_Disk_Rename.body {Γ : Ent} {K : Nat} {p0 : List UInt8} {p1 : List UInt8} {r : Unit} (h : disk_Disk_Rename K p0 p1 = some r) : AWp V P 23 100 Γ (Try.f33.body.getD .skip) (EndsE P V Try.f33 (.I 1) []) ⟨args0 0 [.cv (.lit (.pointer none)), .cv (.str p0), .cv (.str p1)], []⟩ := by
 unfold disk_Disk_Rename at h
 refine sr0 L 200 [] [] [] (S' := ⟨[(3, .P 200), (4, .P 201), (5, .P 202)], [(200, .raw [.lit (.pointer none)]), (201, .raw [.str p0]), (202, .raw [.str p1])]⟩) ?_
 refine awp_seq ?_
 obtain ⟨a1, h1, h⟩ := bind_some h
 refine ar L 205 [] [(4, .tup [.agg (d_disk_file a1), .I 1])] [] (cs := [PCall V P 30 [.cv (.lit (.pointer none)), .cv (.str p0), .cv (.ro .t_string ([p1] : List (List UInt8)))] (.tup [.agg (d_disk_file a1), .I 1]), True]) (S' := ⟨[(3, .P 200), (4, .P 201), (5, .P 202), (7, .P 213), (8, .I 1)], [(200, .raw [.lit (.pointer none)]), (201, .raw [.str p0]), (202, .raw [.str p1]), (213, .raw (d_disk_file a1))]⟩) (And.intro (disk_Disk_existing_v3.ok h1) trivial) ?_
 refine awp_seq ?_
 refine sr0 L 217 [] [] [] (S' := ⟨[(3, .P 200), (4, .P 201), (5, .P 202), (7, .P 213), (8, .I 1), (18, .B true)], [(200, .raw [.lit (.pointer none)]), (201, .raw [.str p0]), (202, .raw [.str p1]), (213, .raw (d_disk_file a1))]⟩) ?_
 refine tt (b := true) (rfl) ?_
 refine sr0 L 220 [] [] [] (S' := ⟨[(6, .I 1)], []⟩) ?_
 refine awp_ret ?_
 obtain rfl := Option.some.inj h
 exact er (.I 1)
theorem disk_Disk_Rename.ok {K : Nat} {p0 : List UInt8} {p1 : List UInt8} {r : Unit} (h : disk_Disk_Rename K p0 p1 = some r) : PCall V P 33 [.cv (.lit (.pointer none)), .cv (.str p0), .cv (.str p1)] (.I 1) := ECall.pcall (eo (fn := Try.f33) (n := 23) (m := 100) fun Γ => disk_Disk_Rename.body h) (by kernel_rfl)
def disk_Disk_Remove (K : Nat) (p0 : List UInt8) : Option Unit := (Option.bind (disk_Disk_existing_v3 K p0 ([] : List (List UInt8))) (fun a1 => some ()))
theorem disk_Disk_Remove.body {Γ : Ent} {K : Nat} {p0 : List UInt8} {r : Unit} (h : disk_Disk_Remove K p0 = some r) : AWp V P 19 100 Γ (Try.f23.body.getD .skip) (EndsE P V Try.f23 (.I 1) []) ⟨args0 0 [.cv (.lit (.pointer none)), .cv (.str p0)], []⟩ := by
 unfold disk_Disk_Remove at h
 refine sr0 L 200 [] [] [] (S' := ⟨[(2, .P 200), (3, .P 201)], [(200, .raw [.lit (.pointer none)]), (201, .raw [.str p0])]⟩) ?_
 refine awp_seq ?_
 refine awp_seq ?_
 obtain ⟨a1, h1, h⟩ := bind_some h
 refine ar L 204 [] [(2, .tup [.agg (d_disk_file a1), .I 1])] [] (cs := [PCall V P 30 [.cv (.lit (.pointer none)), .cv (.str p0), .N] (.tup [.agg (d_disk_file a1), .I 1]), True]) (S' := ⟨[(2, .P 200), (3, .P 201), (6, .I 1)], [(200, .raw [.lit (.pointer none)]), (201, .raw [.str p0])]⟩) (And.intro (PCall.co V (disk_Disk_existing_v3.ok h1) (by kernel_rfl)) trivial) ?_
 refine sr0 L 214 [] [] [] (S' := ⟨[(2, .P 200), (3, .P 201), (6, .I 1), (14, .B true)], [(200, .raw [.lit (.pointer none)]), (201, .raw [.str p0])]⟩) ?_
 refine tt (b := true) (rfl) ?_
 refine sr0 L 217 [] [] [] (S' := ⟨[(4, .I 1)], []⟩) ?_
 refine awp_ret ?_
 obtain rfl := Option.some.inj h
 exact er (.I 1)
theorem disk_Disk_Remove.ok {K : Nat} {p0 : List UInt8} {r : Unit} (h : disk_Disk_Remove K p0 = some r) : PCall V P 23 [.cv (.lit (.pointer none)), .cv (.str p0)] (.I 1) := ECall.pcall (eo (fn := Try.f23) (n := 19) (m := 100) fun Γ => disk_Disk_Remove.body h) (by kernel_rfl)
def disk_Disk_Read_v3 (K : Nat) (p0 : List UInt8) : Option Unit := (Option.bind (disk_Disk_existing_v3 K p0 ([] : List (List UInt8))) (fun a1 => some ()))
theorem disk_Disk_Read_v3.body {Γ : Ent} {K : Nat} {p0 : List UInt8} {r : Unit} (h : disk_Disk_Read_v3 K p0 = some r) : AWp V P 20 100 Γ (Try.f15.body.getD .skip) (EndsE P V Try.f15 (.tup [.cv (.ro .t_uint8 ([] : List UInt8)), .I 1]) []) ⟨args0 0 [.cv (.lit (.pointer none)), .cv (.str p0)], []⟩ := by
 unfold disk_Disk_Read_v3 at h
 refine sr0 L 200 [] [] [] (S' := ⟨[(0, .cv (.lit (.pointer none))), (1, .cv (.str p0))], []⟩) ?_
 refine awp_seq ?_
 obtain ⟨a1, h1, h⟩ := bind_some h
 refine ar L 203 [] [(2, .tup [.agg (d_disk_file a1), .I 1])] [] (cs := [PCall V P 30 [.cv (.lit (.pointer none)), .cv (.str p0), .N] (.tup [.agg (d_disk_file a1), .I 1]), True]) (S' := ⟨[(6, .P 209), (7, .I 1)], [(209, .raw (d_disk_file a1))]⟩) (And.intro (PCall.co V (disk_Disk_existing_v3.ok h1) (by kernel_rfl)) trivial) ?_
 refine awp_seq ?_
 refine sr0 L 213 [] [] [] (S' := ⟨[(6, .P 209), (7, .I 1), (15, .B true)], [(209, .raw (d_disk_file a1))]⟩) ?_
 refine tt (b := true) (rfl) ?_
 refine sr0 L 216 [] [] [] (S' := ⟨[(4, .N), (5, .I 1)], []⟩) ?_
 refine awp_ret ?_
 obtain rfl := Option.some.inj h
 exact er (.tup [.N, .I 1])
theorem disk_Disk_Read_v3.ok {K : Nat} {p0 : List UInt8} {r : Unit} (h : disk_Disk_Read_v3 K p0 = some r) : PCall V P 15 [.cv (.lit (.pointer none)), .cv (.str p0)] (.tup [.cv (.ro .t_uint8 ([] : List UInt8)), .I 1]) := ECall.pcall (eo (fn := Try.f15) (n := 20) (m := 100) fun Γ => disk_Disk_Read_v3.body h) (by kernel_rfl)
def disk_Disk_Crash_v3 (K : Nat) (p0 : Int) : Option Unit := (Option.bind (disk_Disk_ok_v2 K) (fun _ => some ()))
theorem disk_Disk_Crash_v3.body {Γ : Ent} {K : Nat} {p0 : Int} {r : Unit} (h : disk_Disk_Crash_v3 K p0 = some r) : AWp V P 60 100 Γ (Try.f16.body.getD .skip) (EndsE P V Try.f16 (.I 1) []) ⟨args0 0 [.cv (.lit (.pointer none)), .I p0], []⟩ := by
 unfold disk_Disk_Crash_v3 at h
 refine sr0 L 200 [] [] [] (S' := ⟨[(0, .cv (.lit (.pointer none))), (1, .I p0)], []⟩) ?_
 refine awp_seq ?_
 refine awp_seq ?_
 obtain ⟨⟨⟩, h1, h⟩ := bind_some h
 refine ar L 202 [] [(1, .B false)] [] (cs := [PCall V P 25 [.cv (.lit (.pointer none))] (.B false), True]) (S' := ⟨[(0, .cv (.lit (.pointer none))), (1, .I p0), (11, .B true)], []⟩) (And.intro (disk_Disk_ok_v2.ok h1) trivial) ?_
 refine tt (b := true) (rfl) ?_
 refine sr0 L 206 [] [] [] (S' := ⟨[(4, .I 1)], []⟩) ?_
 refine awp_ret ?_
 obtain rfl := Option.some.inj h
 exact er (.I 1)
theorem disk_Disk_Crash_v3.ok {K : Nat} {p0 : Int} {r : Unit} (h : disk_Disk_Crash_v3 K p0 = some r) : PCall V P 16 [.cv (.lit (.pointer none)), .I p0] (.I 1) := ECall.pcall (eo (fn := Try.f16) (n := 60) (m := 100) fun Γ => disk_Disk_Crash_v3.body h) (by kernel_rfl)
def workflowlaw50_does (K : Nat) (p0 : workflowlaw50_Step) : Option Int := (if p0.Kind = 0 then (Option.bind (disk_Disk_Append_v3 K p0.Name p0.Data) (fun _ => some 1)) else (if p0.Kind = 1 then (Option.bind (disk_Disk_Sync_v3 K p0.Name) (fun _ => some 1)) else (if p0.Kind = 2 then (Option.bind (disk_Disk_Rename K p0.Name p0.To) (fun _ => some 1)) else (if p0.Kind = 3 then (Option.bind (disk_Disk_Remove K p0.Name) (fun _ => some 1)) else (if p0.Kind = 4 then (Option.bind (disk_Disk_Read_v3 K p0.Name) (fun _ => some 1)) else (if p0.Kind = 5 then (Option.bind (disk_Disk_Fuse_v3 K p0.N) (fun _ => some 1)) else (if p0.Kind = 6 then (Option.bind (disk_Disk_Crash_v3 K p0.N) (fun _ => some 1)) else (Option.bind (disk_Disk_Copy_v2 K) (fun _ => some 0)))))))))
theorem workflowlaw50_does.body {Γ : Ent} {K : Nat} {p0 : workflowlaw50_Step} {r : Int} (h : workflowlaw50_does K p0 = some r) : AWp V P 71 100 Γ (Try.f19.body.getD .skip) (EndsE P V Try.f19 (.tup [.cv (.lit (.pointer none)), .I r, .cv (.ro .t_uint8 ([] : List UInt8))]) []) ⟨args0 0 [.cv (.lit (.pointer none)), .agg (d_workflowlaw50_Step p0)], []⟩ := by
 unfold workflowlaw50_does at h
 refine sr0 L 200 [] [] [] (S' := ⟨[(0, .cv (.lit (.pointer none))), (3, .P 200)], [(200, .raw (d_workflowlaw50_Step p0))]⟩) ?_
 refine awp_seq ?_
 refine sr0 L 205 [] [] [] (S' := ⟨[(0, .cv (.lit (.pointer none))), (3, .P 200), (10, .I p0.Kind)], [(200, .raw (d_workflowlaw50_Step p0))]⟩) ?_
 refine awp_block ?_
 refine sr0 L 208 [] [] [] (S' := ⟨[(0, .cv (.lit (.pointer none))), (3, .P 200), (10, .I p0.Kind), (11, .B (decide (p0.Kind = 0)))], [(200, .raw (d_workflowlaw50_Step p0))]⟩) ?_
 rcases ite_some h with ⟨c1, h⟩ | ⟨c1, h⟩
 ·refine tt (b := (decide (p0.Kind = 0))) (decide_eq_true c1) ?_
  refine awp_seq ?_
  obtain ⟨⟨⟩, h1, h⟩ := bind_some h
  refine ar L 211 [] [(6, .I 1)] [] (cs := [PCall V P 11 [.cv (.lit (.pointer none)), .cv (.str p0.Name), .cv (.ro .t_uint8 p0.Data)] (.I 1), True]) (S' := ⟨[(4, .cv (.lit (.pointer none))), (5, .I 1), (6, .N)], []⟩) (And.intro (disk_Disk_Append_v3.ok h1) trivial) ?_
  refine awp_ret ?_
  obtain rfl := Option.some.inj h
  exact er (.tup [.cv (.lit (.pointer none)), .I 1, .N])
 refine ff (b := (decide (p0.Kind = 0))) (decide_eq_false c1) ?_
 refine sr0 L 222 [] [] [] (S' := ⟨[(0, .cv (.lit (.pointer none))), (3, .P 200), (10, .I p0.Kind), (20, .B (decide (p0.Kind = 1)))], [(200, .raw (d_workflowlaw50_Step p0))]⟩) ?_
 rcases ite_some h with ⟨c2, h⟩ | ⟨c2, h⟩
 ·refine tt (b := (decide (p0.Kind = 1))) (decide_eq_true c2) ?_
  refine awp_seq ?_
  obtain ⟨⟨⟩, h2, h⟩ := bind_some h
  refine ar L 225 [] [(4, .I 1)] [] (cs := [PCall V P 13 [.cv (.lit (.pointer none)), .cv (.str p0.Name)] (.I 1), True]) (S' := ⟨[(4, .cv (.lit (.pointer none))), (5, .I 1), (6, .N)], []⟩) (And.intro (disk_Disk_Sync_v3.ok h2) trivial) ?_
  refine awp_ret ?_
  obtain rfl := Option.some.inj h
  exact er (.tup [.cv (.lit (.pointer none)), .I 1, .N])
 refine ff (b := (decide (p0.Kind = 1))) (decide_eq_false c2) ?_
 refine sr0 L 234 [] [] [] (S' := ⟨[(0, .cv (.lit (.pointer none))), (3, .P 200), (10, .I p0.Kind), (27, .B (decide (p0.Kind = 2)))], [(200, .raw (d_workflowlaw50_Step p0))]⟩) ?_
 rcases ite_some h with ⟨c3, h⟩ | ⟨c3, h⟩
 ·refine tt (b := (decide (p0.Kind = 2))) (decide_eq_true c3) ?_
  refine awp_seq ?_
  obtain ⟨⟨⟩, h3, h⟩ := bind_some h
  refine ar L 237 [] [(6, .I 1)] [] (cs := [PCall V P 33 [.cv (.lit (.pointer none)), .cv (.str p0.Name), .cv (.str p0.To)] (.I 1), True]) (S' := ⟨[(4, .cv (.lit (.pointer none))), (5, .I 1), (6, .N)], []⟩) (And.intro (disk_Disk_Rename.ok h3) trivial) ?_
  refine awp_ret ?_
  obtain rfl := Option.some.inj h
  exact er (.tup [.cv (.lit (.pointer none)), .I 1, .N])
 refine ff (b := (decide (p0.Kind = 2))) (decide_eq_false c3) ?_
 refine sr0 L 248 [] [] [] (S' := ⟨[(0, .cv (.lit (.pointer none))), (3, .P 200), (10, .I p0.Kind), (36, .B (decide (p0.Kind = 3)))], [(200, .raw (d_workflowlaw50_Step p0))]⟩) ?_
 rcases ite_some h with ⟨c4, h⟩ | ⟨c4, h⟩
 ·refine tt (b := (decide (p0.Kind = 3))) (decide_eq_true c4) ?_
  refine awp_seq ?_
  obtain ⟨⟨⟩, h4, h⟩ := bind_some h
  refine ar L 251 [] [(4, .I 1)] [] (cs := [PCall V P 23 [.cv (.lit (.pointer none)), .cv (.str p0.Name)] (.I 1), True]) (S' := ⟨[(4, .cv (.lit (.pointer none))), (5, .I 1), (6, .N)], []⟩) (And.intro (disk_Disk_Remove.ok h4) trivial) ?_
  refine awp_ret ?_
  obtain rfl := Option.some.inj h
  exact er (.tup [.cv (.lit (.pointer none)), .I 1, .N])
 refine ff (b := (decide (p0.Kind = 3))) (decide_eq_false c4) ?_
 refine sr0 L 260 [] [] [] (S' := ⟨[(0, .cv (.lit (.pointer none))), (3, .P 200), (10, .I p0.Kind), (43, .B (decide (p0.Kind = 4)))], [(200, .raw (d_workflowlaw50_Step p0))]⟩) ?_
 rcases ite_some h with ⟨c5, h⟩ | ⟨c5, h⟩
 ·refine tt (b := (decide (p0.Kind = 4))) (decide_eq_true c5) ?_
  refine awp_seq ?_
  obtain ⟨⟨⟩, h5, h⟩ := bind_some h
  refine ar L 263 [] [(3, .tup [.cv (.ro .t_uint8 ([] : List UInt8)), .I 1])] [] (cs := [PCall V P 15 [.cv (.lit (.pointer none)), .cv (.str p0.Name)] (.tup [.cv (.ro .t_uint8 ([] : List UInt8)), .I 1]), True]) (S' := ⟨[(0, .cv (.lit (.pointer none))), (7, .cv (.ro .t_uint8 ([] : List UInt8))), (8, .I 1)], []⟩) (And.intro (disk_Disk_Read_v3.ok h5) trivial) ?_
  refine sr0 L 273 [] [] [] (S' := ⟨[(4, .cv (.lit (.pointer none))), (5, .I 1), (6, .cv (.ro .t_uint8 ([] : List UInt8)))], []⟩) ?_
  refine awp_ret ?_
  obtain rfl := Option.some.inj h
  exact er (.tup [.cv (.lit (.pointer none)), .I 1, .cv (.ro .t_uint8 ([] : List UInt8))])
 refine ff (b := (decide (p0.Kind = 4))) (decide_eq_false c5) ?_
 refine sr0 L 280 [] [] [] (S' := ⟨[(0, .cv (.lit (.pointer none))), (3, .P 200), (10, .I p0.Kind), (55, .B (decide (p0.Kind = 5)))], [(200, .raw (d_workflowlaw50_Step p0))]⟩) ?_
 rcases ite_some h with ⟨c6, h⟩ | ⟨c6, h⟩
 ·refine tt (b := (decide (p0.Kind = 5))) (decide_eq_true c6) ?_
  refine awp_seq ?_
  obtain ⟨⟨⟩, h6, h⟩ := bind_some h
  refine ar L 283 [] [(4, .I 1)] [] (cs := [PCall V P 9 [.cv (.lit (.pointer none)), .I p0.N] (.I 1), True]) (S' := ⟨[(4, .cv (.lit (.pointer none))), (5, .I 1), (6, .N)], []⟩) (And.intro (disk_Disk_Fuse_v3.ok h6) trivial) ?_
  refine awp_ret ?_
  obtain rfl := Option.some.inj h
  exact er (.tup [.cv (.lit (.pointer none)), .I 1, .N])
 refine ff (b := (decide (p0.Kind = 5))) (decide_eq_false c6) ?_
 refine sr0 L 292 [] [] [] (S' := ⟨[(0, .cv (.lit (.pointer none))), (3, .P 200), (62, .B (decide (p0.Kind = 6)))], [(200, .raw (d_workflowlaw50_Step p0))]⟩) ?_
 rcases ite_some h with ⟨c7, h⟩ | ⟨c7, h⟩
 ·refine tt (b := (decide (p0.Kind = 6))) (decide_eq_true c7) ?_
  refine awp_seq ?_
  obtain ⟨⟨⟩, h7, h⟩ := bind_some h
  refine ar L 295 [] [(4, .I 1)] [] (cs := [PCall V P 16 [.cv (.lit (.pointer none)), .I p0.N] (.I 1), True]) (S' := ⟨[(4, .cv (.lit (.pointer none))), (5, .I 1), (6, .N)], []⟩) (And.intro (disk_Disk_Crash_v3.ok h7) trivial) ?_
  refine awp_ret ?_
  obtain rfl := Option.some.inj h
  exact er (.tup [.cv (.lit (.pointer none)), .I 1, .N])
 refine ff (b := (decide (p0.Kind = 6))) (decide_eq_false c7) ?_
 refine awp_skip' ?_
 refine awp_seq ?_
 obtain ⟨⟨⟩, h8, h⟩ := bind_some h
 refine ar L 304 [] [(1, .cv (.lit (.pointer none)))] [] (cs := [PCall V P 10 [.cv (.lit (.pointer none))] (.cv (.lit (.pointer none))), True]) (S' := ⟨[(4, .cv (.lit (.pointer none))), (5, .I 0), (6, .N)], []⟩) (And.intro (disk_Disk_Copy_v2.ok h8) trivial) ?_
 refine awp_ret ?_
 obtain rfl := Option.some.inj h
 exact er (.tup [.cv (.lit (.pointer none)), .I 0, .N])
theorem workflowlaw50_does.ok {K : Nat} {p0 : workflowlaw50_Step} {r : Int} (h : workflowlaw50_does K p0 = some r) : PCall V P 19 [.cv (.lit (.pointer none)), .agg (d_workflowlaw50_Step p0)] (.tup [.cv (.lit (.pointer none)), .I r, .cv (.ro .t_uint8 ([] : List UInt8))]) := ECall.pcall (eo (fn := Try.f19) (n := 71) (m := 100) fun Γ => workflowlaw50_does.body h) (by kernel_rfl)
def disk_Disk_Rename_c1 (K : Nat) (p0 : List UInt8) (p1 : disk_file) (p2 : List UInt8) (p3 : Int) (p4 : Bool) (p5 : Bool) (p6 : Int) (p7 : List (List UInt8 × disk_file)) : Option ((List UInt8) × disk_file × (List UInt8) × (List (List UInt8 × disk_file))) := some (p0, p1, p2, (mput p2 p1 (mdel p0 p7)))
theorem disk_Disk_Rename_c1.body {Γ : Ent} {K : Nat} {p0 : List UInt8} {p1 : disk_file} {p2 : List UInt8} {p3 : Int} {p4 : Bool} {p5 : Bool} {p6 : Int} {p7 : List (List UInt8 × disk_file)} {r : (List UInt8) × disk_file × (List UInt8) × (List (List UInt8 × disk_file))} (h : disk_Disk_Rename_c1 K p0 p1 p2 p3 p4 p5 p6 p7 = some r) : AWp V P 15 100 Γ (Try.f49.body.getD .skip) (EndsE P V Try.f49 (.tup []) [(0, .raw [.P 4]), (1, .raw [.str r.1]), (2, .raw [.ro .t_uint8 r.2.1.bytes, .I r.2.1.safe]), (3, .raw [.str r.2.2.1]), (4, .raw [.B true, .I p3, .mp 5, .B p4, .B p5, .I p6]), (5, .mpb .t_disk_file r.2.2.2)]) ⟨args0 0 [.P 0, .P 1, .P 2, .P 3], [(0, .raw [.P 4]), (1, .raw [.str p0]), (2, .raw (d_disk_file p1)), (3, .raw [.str p2]), (4, .raw [.B true, .I p3, .mp 5, .B p4, .B p5, .I p6]), (5, .mpb .t_disk_file p7)]⟩ := by
 unfold disk_Disk_Rename_c1 at h
 refine sd L mixed 200 [] [] [] [] 5 (cs := []) (S' := ⟨[(0, .P 0), (2, .P 2), (3, .P 3)], [(0, .raw [.P 4]), (1, .raw [.str p0]), (2, .raw (d_disk_file p1)), (3, .raw [.str p2]), (4, .raw [.B true, .I p3, .mp 5, .B p4, .B p5, .I p6]), (5, .mpb .t_disk_file (mdel p0 p7))]⟩) trivial ?_
 refine ad L mixed 207 [] [] [] [] 6 (cs := [True]) (S' := ⟨[], [(0, .raw [.P 4]), (1, .raw [.str p0]), (2, .raw (d_disk_file p1)), (3, .raw [.str p2]), (4, .raw [.B true, .I p3, .mp 5, .B p4, .B p5, .I p6]), (5, .mpb .t_disk_file (mput p2 p1 (mdel p0 p7)))]⟩) trivial ?_
 obtain rfl := Option.some.inj h
 exact en (.tup [])
theorem disk_Disk_Rename_c1.okE {K : Nat} {p0 : List UInt8} {p1 : disk_file} {p2 : List UInt8} {p3 : Int} {p4 : Bool} {p5 : Bool} {p6 : Int} {p7 : List (List UInt8 × disk_file)} {r : (List UInt8) × disk_file × (List UInt8) × (List (List UInt8 × disk_file))} (h : disk_Disk_Rename_c1 K p0 p1 p2 p3 p4 p5 p6 p7 = some r) : ECall V P 49 [.P 0, .P 1, .P 2, .P 3] [(0, .raw [.P 4]), (1, .raw [.str p0]), (2, .raw (d_disk_file p1)), (3, .raw [.str p2]), (4, .raw [.B true, .I p3, .mp 5, .B p4, .B p5, .I p6]), (5, .mpb .t_disk_file p7)] [0, 1, 2, 3, 4, 5] (.tup []) [(0, .raw [.P 4]), (1, .raw [.str r.1]), (2, .raw [.ro .t_uint8 r.2.1.bytes, .I r.2.1.safe]), (3, .raw [.str r.2.2.1]), (4, .raw [.B true, .I p3, .mp 5, .B p4, .B p5, .I p6]), (5, .mpb .t_disk_file r.2.2.2)] :=
 eo (fn := Try.f49) (n := 15) (m := 100) fun Γ => disk_Disk_Rename_c1.body h
def disk_Disk_change_v7 (K : Nat) (p0 : Int) (p1 : Bool) (p2 : Bool) (p3 : Int) (p4 : List UInt8) (p5 : disk_file) (p6 : List UInt8) (p7 : List (List UInt8 × disk_file)) : Option (Int × Bool × Int × (List UInt8) × disk_file × (List UInt8) × (List (List UInt8 × disk_file))) := (if p2 = true then (if p3 = 0 then some (28, true, p3, p4, p5, p6, p7) else (Option.bind (disk_Disk_Rename_c1 K p4 p5 p6 p0 p1 p2 (IntKind.i64.wrap (p3 - 1)) p7) (fun (a1_0, a1_1, a1_2, a1_3) => some (0, p1, (IntKind.i64.wrap (p3 - 1)), a1_0, a1_1, a1_2, a1_3)))) else (Option.bind (disk_Disk_Rename_c1 K p4 p5 p6 p0 p1 p2 p3 p7) (fun (a2_0, a2_1, a2_2, a2_3) => some (0, p1, p3, a2_0, a2_1, a2_2, a2_3))))
theorem disk_Disk_change_v7.body {Γ : Ent} {K : Nat} {p0 : Int} {p1 : Bool} {p2 : Bool} {p3 : Int} {p4 : List UInt8} {p5 : disk_file} {p6 : List UInt8} {p7 : List (List UInt8 × disk_file)} {r : Int × Bool × Int × (List UInt8) × disk_file × (List UInt8) × (List (List UInt8 × disk_file))} (h : disk_Disk_change_v7 K p0 p1 p2 p3 p4 p5 p6 p7 = some r) : AWp V P 26 100 Γ (Try.f28.body.getD .skip) (EndsE P V Try.f28 (.I r.1) [(0, .raw [.B true, .I p0, .mp 5, .B r.2.1, .B p2, .I r.2.2.1]), (1, .raw [.P 0]), (2, .raw [.str r.2.2.2.1]), (3, .raw [.ro .t_uint8 r.2.2.2.2.1.bytes, .I r.2.2.2.2.1.safe]), (4, .raw [.str r.2.2.2.2.2.1]), (5, .mpb .t_disk_file r.2.2.2.2.2.2)]) ⟨args0 0 [.P 0, .cv (.fn (.func 49) [] [.P 1, .P 2, .P 3, .P 4])], [(0, .raw [.B true, .I p0, .mp 5, .B p1, .B p2, .I p3]), (1, .raw [.P 0]), (2, .raw [.str p4]), (3, .raw (d_disk_file p5)), (4, .raw [.str p6]), (5, .mpb .t_disk_file p7)]⟩ := by
 unfold disk_Disk_change_v7 at h
 refine sr0 L 200 [] [] [] (S' := ⟨[(0, .P 0), (1, .cv (.fn (.func 49) [] [.P 1, .P 2, .P 3, .P 4]))], [(0, .raw [.B true, .I p0, .mp 5, .B p1, .B p2, .I p3]), (1, .raw [.P 0]), (2, .raw [.str p4]), (3, .raw (d_disk_file p5)), (4, .raw [.str p6]), (5, .mpb .t_disk_file p7)]⟩) ?_
 refine awp_seq ?_
 refine sr0 L 202 [] [] [] (S' := ⟨[(0, .P 0), (1, .cv (.fn (.func 49) [] [.P 1, .P 2, .P 3, .P 4])), (8, .B p2)], [(0, .raw [.B true, .I p0, .mp 5, .B p1, .B p2, .I p3]), (1, .raw [.P 0]), (2, .raw [.str p4]), (3, .raw (d_disk_file p5)), (4, .raw [.str p6]), (5, .mpb .t_disk_file p7)]⟩) ?_
 rcases ite_some h with ⟨c1, h⟩ | ⟨c1, h⟩
 ·refine tt (b := p2) (c1) ?_
  refine awp_seq ?_
  refine sr0 L 207 [] [] [] (S' := ⟨[(0, .P 0), (1, .cv (.fn (.func 49) [] [.P 1, .P 2, .P 3, .P 4])), (13, .B (decide (p3 = 0)))], [(0, .raw [.B true, .I p0, .mp 5, .B p1, .B p2, .I p3]), (1, .raw [.P 0]), (2, .raw [.str p4]), (3, .raw (d_disk_file p5)), (4, .raw [.str p6]), (5, .mpb .t_disk_file p7)]⟩) ?_
  rcases ite_some h with ⟨c2, h⟩ | ⟨c2, h⟩
  ·refine tt (b := (decide (p3 = 0))) (decide_eq_true c2) ?_
   refine sr0 L 213 [] [] [] (S' := ⟨[], [(0, .raw [.B true, .I p0, .mp 5, .B true, .B p2, .I p3]), (1, .raw [.P 0]), (2, .raw [.str p4]), (3, .raw (d_disk_file p5)), (4, .raw [.str p6]), (5, .mpb .t_disk_file p7)]⟩) ?_
   refine sr0 L 218 [] [] [] (S' := ⟨[(4, .I 28)], [(0, .raw [.B true, .I p0, .mp 5, .B true, .B p2, .I p3]), (1, .raw [.P 0]), (2, .raw [.str p4]), (3, .raw (d_disk_file p5)), (4, .raw [.str p6]), (5, .mpb .t_disk_file p7)]⟩) ?_
   refine awp_ret ?_
   obtain rfl := Option.some.inj h
   exact er (.I 28)
  refine ff (b := (decide (p3 = 0))) (decide_eq_false c2) ?_
  refine awp_skip' ?_
  refine ar0 L 220 [] [] [] (S' := ⟨[(1, .cv (.fn (.func 49) [] [.P 1, .P 2, .P 3, .P 4]))], [(0, .raw [.B true, .I p0, .mp 5, .B p1, .B p2, .I (IntKind.i64.wrap (p3 - 1))]), (1, .raw [.P 0]), (2, .raw [.str p4]), (3, .raw (d_disk_file p5)), (4, .raw [.str p6]), (5, .mpb .t_disk_file p7)]⟩) ?_
  refine awp_seq ?_
  obtain ⟨⟨a1_0, a1_1, a1_2, a1_3⟩, h1, h⟩ := bind_some h
  dsimp only at h
  refine ar L 229 [] [] [(1, { hids := [0, 1, 2, 3, 4, 5], fx := [0, 1, 2, 3, 4, 5], r := .tup [], H' := [(0, .raw [.P 4]), (1, .raw [.str a1_0]), (2, .raw (d_disk_file a1_1)), (3, .raw [.str a1_2]), (4, .raw [.B true, .I p0, .mp 5, .B p1, .B p2, .I (IntKind.i64.wrap (p3 - 1))]), (5, .mpb .t_disk_file a1_3)], σ := [(0, 1), (1, 2), (2, 3), (3, 4), (4, 0), (5, 5)] })] (cs := [ECall V P 49 [.P 0, .P 1, .P 2, .P 3] [(0, .raw [.P 4]), (1, .raw [.str p4]), (2, .raw (d_disk_file p5)), (3, .raw [.str p6]), (4, .raw [.B true, .I p0, .mp 5, .B p1, .B p2, .I (IntKind.i64.wrap (p3 - 1))]), (5, .mpb .t_disk_file p7)] [0, 1, 2, 3, 4, 5] (.tup []) [(0, .raw [.P 4]), (1, .raw [.str a1_0]), (2, .raw (d_disk_file a1_1)), (3, .raw [.str a1_2]), (4, .raw [.B true, .I p0, .mp 5, .B p1, .B p2, .I (IntKind.i64.wrap (p3 - 1))]), (5, .mpb .t_disk_file a1_3)]]) (S' := ⟨[], [(0, .raw [.B true, .I p0, .mp 5, .B p1, .B p2, .I (IntKind.i64.wrap (p3 - 1))]), (1, .raw [.P 0]), (2, .raw [.str a1_0]), (3, .raw (d_disk_file a1_1)), (4, .raw [.str a1_2]), (5, .mpb .t_disk_file a1_3)]⟩) (disk_Disk_Rename_c1.okE h1) ?_
  refine sr0 L 232 [] [] [] (S' := ⟨[(4, .I 0)], [(0, .raw [.B true, .I p0, .mp 5, .B p1, .B p2, .I (IntKind.i64.wrap (p3 - 1))]), (1, .raw [.P 0]), (2, .raw [.str a1_0]), (3, .raw (d_disk_file a1_1)), (4, .raw [.str a1_2]), (5, .mpb .t_disk_file a1_3)]⟩) ?_
  refine awp_ret ?_
  obtain rfl := Option.some.inj h
  exact er (.I 0)
 refine ff (b := p2) (eq_false_of_ne_true c1) ?_
 refine awp_skip' ?_
 refine awp_seq ?_
 obtain ⟨⟨a2_0, a2_1, a2_2, a2_3⟩, h2, h⟩ := bind_some h
 dsimp only at h
 refine ar L 229 [] [] [(1, { hids := [0, 1, 2, 3, 4, 5], fx := [0, 1, 2, 3, 4, 5], r := .tup [], H' := [(0, .raw [.P 4]), (1, .raw [.str a2_0]), (2, .raw (d_disk_file a2_1)), (3, .raw [.str a2_2]), (4, .raw [.B true, .I p0, .mp 5, .B p1, .B p2, .I p3]), (5, .mpb .t_disk_file a2_3)], σ := [(0, 1), (1, 2), (2, 3), (3, 4), (4, 0), (5, 5)] })] (cs := [ECall V P 49 [.P 0, .P 1, .P 2, .P 3] [(0, .raw [.P 4]), (1, .raw [.str p4]), (2, .raw (d_disk_file p5)), (3, .raw [.str p6]), (4, .raw [.B true, .I p0, .mp 5, .B p1, .B p2, .I p3]), (5, .mpb .t_disk_file p7)] [0, 1, 2, 3, 4, 5] (.tup []) [(0, .raw [.P 4]), (1, .raw [.str a2_0]), (2, .raw (d_disk_file a2_1)), (3, .raw [.str a2_2]), (4, .raw [.B true, .I p0, .mp 5, .B p1, .B p2, .I p3]), (5, .mpb .t_disk_file a2_3)]]) (S' := ⟨[], [(0, .raw [.B true, .I p0, .mp 5, .B p1, .B p2, .I p3]), (1, .raw [.P 0]), (2, .raw [.str a2_0]), (3, .raw (d_disk_file a2_1)), (4, .raw [.str a2_2]), (5, .mpb .t_disk_file a2_3)]⟩) (disk_Disk_Rename_c1.okE h2) ?_
 refine sr0 L 232 [] [] [] (S' := ⟨[(4, .I 0)], [(0, .raw [.B true, .I p0, .mp 5, .B p1, .B p2, .I p3]), (1, .raw [.P 0]), (2, .raw [.str a2_0]), (3, .raw (d_disk_file a2_1)), (4, .raw [.str a2_2]), (5, .mpb .t_disk_file a2_3)]⟩) ?_
 refine awp_ret ?_
 obtain rfl := Option.some.inj h
 exact er (.I 0)
theorem disk_Disk_change_v7.okE {K : Nat} {p0 : Int} {p1 : Bool} {p2 : Bool} {p3 : Int} {p4 : List UInt8} {p5 : disk_file} {p6 : List UInt8} {p7 : List (List UInt8 × disk_file)} {r : Int × Bool × Int × (List UInt8) × disk_file × (List UInt8) × (List (List UInt8 × disk_file))} (h : disk_Disk_change_v7 K p0 p1 p2 p3 p4 p5 p6 p7 = some r) : ECall V P 28 [.P 0, .cv (.fn (.func 49) [] [.P 1, .P 2, .P 3, .P 4])] [(0, .raw [.B true, .I p0, .mp 5, .B p1, .B p2, .I p3]), (1, .raw [.P 0]), (2, .raw [.str p4]), (3, .raw (d_disk_file p5)), (4, .raw [.str p6]), (5, .mpb .t_disk_file p7)] [0, 1, 2, 3, 4, 5] (.I r.1) [(0, .raw [.B true, .I p0, .mp 5, .B r.2.1, .B p2, .I r.2.2.1]), (1, .raw [.P 0]), (2, .raw [.str r.2.2.2.1]), (3, .raw [.ro .t_uint8 r.2.2.2.2.1.bytes, .I r.2.2.2.2.1.safe]), (4, .raw [.str r.2.2.2.2.2.1]), (5, .mpb .t_disk_file r.2.2.2.2.2.2)] :=
 eo (fn := Try.f28) (n := 26) (m := 100) fun Γ => disk_Disk_change_v7.body h
end Go.Proofs.Ytegkigdobekgjaa
