/- What functions of the program compute, as Lean functions, and that they compute it. -/
import Derived.Test.YtifjagfmfkemmaaGreatDoorFn3
set_option linter.unusedVariables false
set_option maxHeartbeats 0
namespace Go.Proofs.YtifjagfmfkemmaaGreatDoor
open Eng
structure C1 where
 Bh : Aa → Option Int
structure C1.Ok (R : C1) : Prop where
 Bh : ∀ {p0 : Aa} {r : Int}, R.Bh p0 = some r → ECall V P 14 [.agg (Ae p0)] [] [] (.I r) []
theorem Bh.okR {R : C1} (hR : R.Ok) {p0 : Aa} {r : Int} (h : R.Bh p0 = some r) : PCall V P 14 [.agg (Ae p0)] (.I r) := (hR.Bh h).pcall (by kernel_rfl)
def Bh.l9 (K : Nat) (R : C1) (p0 : Aa) : Nat → Int → Int → Option Int
 | 0, _, _ => none
 | k + 1, xt3_9h, xt4_9h => (if xt4_9h < (p0.Kids.length : Int) then (if (0 : Int) ≤ xt4_9h ∧ (xt4_9h : Int) < (p0.Kids.length : Int) then (Option.bind (R.Bh (p0.Kids.getD (Int.toNat xt4_9h) Ai)) (fun a1 => Bh.l9 K R p0 k (IntKind.i64.wrap (xt3_9h + a1)) (IntKind.i64.wrap (xt4_9h + 1)))) else none) else some xt3_9h)
def Bh.F (K : Nat) (R : C1) (p0 : Aa) : Option Int := (Option.bind (Bh.l9 K R p0 K 1 0 : Option Int) (fun xt3_9 => some xt3_9))
theorem Bh.body {Γ : Ent} {K : Nat} {R : C1} (hR : R.Ok) {p0 : Aa} {r : Int} (h : Bh.F K R p0 = some r) : AWp V P 21 100 Γ (Tryz.f14.body.getD .skip) (EndsE P V Tryz.f14 (.I r) []) ⟨args0 0 [.agg (Ae p0)], []⟩ := by
 unfold Bh.F at h
 refine sg0 L 200 <| sg0 L 203 <| awp_seq <| sg0 L 205 <| awp_block <| awp_turn (Turns.trans (Turns.kk [1, 3, 4] [200]) (Turns.rr [(200, 21900)])) ?_
 refine kp (S' := ⟨[(1, .P 21900), (3, .I 1), (4, .I 0)], [(21900, .raw (Ae p0))]⟩) ?_
 obtain ⟨o1, hp1, h⟩ := bind_some h
 refine awp_conseq (Q' := fun e S => (e = .exit 0 ∧ ∃ xt3_9 : Int, S = ⟨[(3, .I xt3_9)], []⟩ ∧ xt3_9 = o1)) (awp_loop (fun k S => ∃ xt3_9h : Int, ∃ xt4_9h : Int, S = ⟨[(1, .P 21900), (3, .I xt3_9h), (4, .I xt4_9h)], [(21900, .raw (Ae p0))]⟩ ∧ Bh.l9 K R p0 k xt3_9h xt4_9h = some o1) ?_ ⟨_, _, rfl, hp1⟩) ?_
 ·clear h hp1
  intro k S hS
  obtain ⟨xt3_9h, xt4_9h, rfl, h⟩ := hS
  cases k with
  | zero => cases h
  | succ k =>
  unfold Bh.l9 at h
  refine awp_seq <| sg0 L 207 ?_
  rcases ite_some h with ⟨c1, h⟩ | ⟨c1, h⟩
  ·refine tT c1 <| awp_skip' <| awp_seq <| awp_block ?_
   obtain ⟨g1, h⟩ := guard_some h
   obtain ⟨a1, h1, h⟩ := bind_some h
   refine rg L 213 [] [(6, .I a1)] [] (plc g1.1 (plc g1.2 (plc (Bh.okR hR h1) (pl1 trivial)))) ?_
   refine ar0 L 223 [] [] [] (S' := ⟨[(1, .P 21900), (3, .I (IntKind.i64.wrap (xt3_9h + a1))), (4, .I (IntKind.i64.wrap (xt4_9h + 1)))], [(21900, .raw (Ae p0))]⟩) ?_
   exact ⟨k, Nat.lt_succ_self k, _, _, rfl, h⟩
  refine fF c1 <| ex (S' := ⟨[(3, .I xt3_9h)], []⟩) ?_
  cases h
  exact ⟨rfl, _, rfl, rfl⟩
 ·rintro e S ⟨rfl, xt3_9, rfl, rfl⟩
  refine ⟨_, Turns.refl, ?_⟩
  refine sg0 L 227 <| awp_ret ?_
  cases h
  exact er0
def C1.upto (K : Nat) : Nat → C1
 | 0 => ⟨fun _ => none⟩
 | k + 1 => ⟨Bh.F K (C1.upto K k)⟩
theorem C1.upto_ok (K : Nat) : ∀ k, (C1.upto K k).Ok
 | 0 => ⟨fun h => (by cases h)⟩
 | k + 1 => ⟨fun {p0 r} h => eo (fn := Tryz.f14) (n := 21) (m := 100) fun Γ => Bh.body (K := K) (C1.upto_ok K k) h⟩
def Bh (K : Nat) (p0 : Aa) : Option Int := (C1.upto K K).Bh p0
theorem Bh.okE {K : Nat} {p0 : Aa} {r : Int} (h : Bh K p0 = some r) : ECall V P 14 [.agg (Ae p0)] [] [] (.I r) [] := (C1.upto_ok K K).Bh h
theorem Bh.ok {K : Nat} {p0 : Aa} {r : Int} (h : Bh K p0 = some r) : PCall V P 14 [.agg (Ae p0)] (.I r) := (Bh.okE h).pcall (by kernel_rfl)
structure Cy where
 Ba : Aa → Option Int
structure Cy.Ok (R : Cy) : Prop where
 Ba : ∀ {p0 : Aa} {r : Int}, R.Ba p0 = some r → ECall V P 23 [.agg (Ae p0)] [] [] (.I r) []
theorem Ba.okR {R : Cy} (hR : R.Ok) {p0 : Aa} {r : Int} (h : R.Ba p0 = some r) : PCall V P 23 [.agg (Ae p0)] (.I r) := (hR.Ba h).pcall (by kernel_rfl)
def Ba.l9 (K : Nat) (R : Cy) (p0 : Aa) : Nat → Int → Int → Option Int
 | 0, _, _ => none
 | k + 1, xt3_9h, xt4_9h => (if xt4_9h < (p0.Kids.length : Int) then (if (0 : Int) ≤ xt4_9h ∧ (xt4_9h : Int) < (p0.Kids.length : Int) then (Option.bind (R.Ba (p0.Kids.getD (Int.toNat xt4_9h) Ai)) (fun a1 => (if a1 > xt3_9h then Ba.l9 K R p0 k a1 (IntKind.i64.wrap (xt4_9h + 1)) else Ba.l9 K R p0 k xt3_9h (IntKind.i64.wrap (xt4_9h + 1))))) else none) else some xt3_9h)
def Ba.F (K : Nat) (R : Cy) (p0 : Aa) : Option Int := (Option.bind (Ba.l9 K R p0 K 0 0 : Option Int) (fun xt3_9 => some (IntKind.i64.wrap (xt3_9 + 1))))
theorem Ba.body {Γ : Ent} {K : Nat} {R : Cy} (hR : R.Ok) {p0 : Aa} {r : Int} (h : Ba.F K R p0 = some r) : AWp V P 25 100 Γ (Tryz.f23.body.getD .skip) (EndsE P V Tryz.f23 (.I r) []) ⟨args0 0 [.agg (Ae p0)], []⟩ := by
 unfold Ba.F at h
 refine sg0 L 200 <| sg0 L 203 <| awp_seq <| sg0 L 205 <| awp_block <| awp_turn (Turns.trans (Turns.kk [1, 3, 4] [200]) (Turns.rr [(200, 21900)])) ?_
 refine kp (S' := ⟨[(1, .P 21900), (3, .I 0), (4, .I 0)], [(21900, .raw (Ae p0))]⟩) ?_
 obtain ⟨o1, hp1, h⟩ := bind_some h
 refine awp_conseq (Q' := fun e S => (e = .exit 0 ∧ ∃ xt3_9 : Int, S = ⟨[(3, .I xt3_9)], []⟩ ∧ xt3_9 = o1)) (awp_loop (fun k S => ∃ xt3_9h : Int, ∃ xt4_9h : Int, S = ⟨[(1, .P 21900), (3, .I xt3_9h), (4, .I xt4_9h)], [(21900, .raw (Ae p0))]⟩ ∧ Ba.l9 K R p0 k xt3_9h xt4_9h = some o1) ?_ ⟨_, _, rfl, hp1⟩) ?_
 ·clear h hp1
  intro k S hS
  obtain ⟨xt3_9h, xt4_9h, rfl, h⟩ := hS
  cases k with
  | zero => cases h
  | succ k =>
  unfold Ba.l9 at h
  refine awp_seq <| sg0 L 207 ?_
  rcases ite_some h with ⟨c1, h⟩ | ⟨c1, h⟩
  ·refine tT c1 <| awp_skip' <| awp_seq <| awp_block <| awp_seq ?_
   obtain ⟨g1, h⟩ := guard_some h
   obtain ⟨a1, h1, h⟩ := bind_some h
   refine rg L 213 [] [(5, .I a1)] [] (plc g1.1 (plc g1.2 (plc (Ba.okR hR h1) (pl1 trivial)))) ?_
   refine sg0 L 221 ?_
   rcases ite_some h with ⟨c2, h⟩ | ⟨c2, h⟩
   ·refine tT c2 <| rg0 L 225 ?_
    refine ar0 L 228 [] [] [] (S' := ⟨[(1, .P 21900), (3, .I a1), (4, .I (IntKind.i64.wrap (xt4_9h + 1)))], [(21900, .raw (Ae p0))]⟩) ?_
    exact ⟨k, Nat.lt_succ_self k, _, _, rfl, h⟩
   refine fF c2 <| awp_skip' <| ar0 L 228 [] [] [] (S' := ⟨[(1, .P 21900), (3, .I xt3_9h), (4, .I (IntKind.i64.wrap (xt4_9h + 1)))], [(21900, .raw (Ae p0))]⟩) ?_
   exact ⟨k, Nat.lt_succ_self k, _, _, rfl, h⟩
  refine fF c1 <| ex (S' := ⟨[(3, .I xt3_9h)], []⟩) ?_
  cases h
  exact ⟨rfl, _, rfl, rfl⟩
 ·rintro e S ⟨rfl, xt3_9, rfl, rfl⟩
  refine ⟨_, Turns.refl, ?_⟩
  refine sg0 L 232 <| awp_ret ?_
  cases h
  exact er0
def Cy.upto (K : Nat) : Nat → Cy
 | 0 => ⟨fun _ => none⟩
 | k + 1 => ⟨Ba.F K (Cy.upto K k)⟩
theorem Cy.upto_ok (K : Nat) : ∀ k, (Cy.upto K k).Ok
 | 0 => ⟨fun h => (by cases h)⟩
 | k + 1 => ⟨fun {p0 r} h => eo (fn := Tryz.f23) (n := 25) (m := 100) fun Γ => Ba.body (K := K) (Cy.upto_ok K k) h⟩
def Ba (K : Nat) (p0 : Aa) : Option Int := (Cy.upto K K).Ba p0
theorem Ba.okE {K : Nat} {p0 : Aa} {r : Int} (h : Ba K p0 = some r) : ECall V P 23 [.agg (Ae p0)] [] [] (.I r) [] := (Cy.upto_ok K K).Ba h
theorem Ba.ok {K : Nat} {p0 : Aa} {r : Int} (h : Ba K p0 = some r) : PCall V P 23 [.agg (Ae p0)] (.I r) := (Ba.okE h).pcall (by kernel_rfl)
def D2 (K : Nat) (p0 : Aa) : Option Bool := (Option.bind (Ee K p0) (fun a1 => (if a1 = true then (Option.bind (A0 K p0) (fun a2 => some a2)) else some false)))
theorem D2.body {Γ : Ent} {K : Nat} {p0 : Aa} {r : Bool} (h : D2 K p0 = some r) : AWp V P 9 100 Γ (Tryz.f17.body.getD .skip) (EndsE P V Tryz.f17 (.B r) []) ⟨args0 0 [.agg (Ae p0)], []⟩ := by
 unfold D2 at h
 refine sg0 L 200 <| awp_seq ?_
 obtain ⟨a1, h1, h⟩ := bind_some h
 rcases ite_some h with ⟨c1, h⟩ | ⟨c1, h⟩
 ·obtain ⟨a2, h2, h⟩ := bind_some h
  refine rg L 203 [(2, true)] [(1, .B a1), (4, .B a2)] [] (plc (Ee.ok h1) (plc trivial (plc c1 (plc (A0.ok h2) (pl1 trivial))))) ?_
  refine awp_ret ?_
  cases h
  exact er0
 refine rg L 203 [(2, false)] [(1, .B a1)] [] (plc (Ee.ok h1) (plc trivial (pl1 (eq_false_of_ne_true c1)))) ?_
 refine awp_ret ?_
 cases h
 exact er0
theorem D2.ok {K : Nat} {p0 : Aa} {r : Bool} (h : D2 K p0 = some r) : PCall V P 17 [.agg (Ae p0)] (.B r) := ECall.pcall (eo (fn := Tryz.f17) (n := 9) (m := 100) fun Γ => D2.body h) (by kernel_rfl)
structure C5 where
 Bz : Aa → Int → Option Int
structure C5.Ok (R : C5) : Prop where
 Bz : ∀ {p0 : Aa} {p1 : Int} {r : Int}, R.Bz p0 p1 = some r → ECall V P 34 [.agg (Ae p0), .I p1] [] [] (.I r) []
theorem Bz.okR {R : C5} (hR : R.Ok) {p0 : Aa} {p1 : Int} {r : Int} (h : R.Bz p0 p1 = some r) : PCall V P 34 [.agg (Ae p0), .I p1] (.I r) := (hR.Bz h).pcall (by kernel_rfl)
def Bz.l9 (K : Nat) (R : C5) (p0 : Aa) : Nat → Int → Int → Option Int
 | 0, _, _ => none
 | k + 1, xt1_9h, xt5_9h => (if xt5_9h < (p0.Kids.length : Int) then (if xt1_9h ≥ 0 then (if (0 : Int) ≤ xt5_9h ∧ (xt5_9h : Int) < (p0.Kids.length : Int) then (Option.bind (R.Bz (p0.Kids.getD (Int.toNat xt5_9h) Ai) xt1_9h) (fun a1 => Bz.l9 K R p0 k a1 (IntKind.i64.wrap (xt5_9h + 1)))) else none) else some xt1_9h) else some xt1_9h)
def Bz.F (K : Nat) (R : C5) (p0 : Aa) (p1 : Int) : Option Int := (Option.bind (Bz.l9 K R p0 K (IntKind.i64.wrap (p1 - 1)) 0 : Option Int) (fun xt1_9 => some xt1_9))
theorem Bz.body {Γ : Ent} {K : Nat} {R : C5} (hR : R.Ok) {p0 : Aa} {p1 : Int} {r : Int} (h : Bz.F K R p0 p1 = some r) : AWp V P 27 100 Γ (Tryz.f34.body.getD .skip) (EndsE P V Tryz.f34 (.I r) []) ⟨args0 0 [.agg (Ae p0), .I p1], []⟩ := by
 unfold Bz.F at h
 refine sg0 L 200 <| sg0 L 203 <| awp_seq <| sg0 L 207 <| awp_block <| awp_turn (Turns.trans (Turns.kk [1, 2, 5] [200]) (Turns.rr [(200, 21900)])) ?_
 refine kp (S' := ⟨[(1, .I (IntKind.i64.wrap (p1 - 1))), (2, .P 21900), (5, .I 0)], [(21900, .raw (Ae p0))]⟩) ?_
 obtain ⟨o1, hp1, h⟩ := bind_some h
 refine awp_conseq (Q' := fun e S => (e = .exit 0 ∧ ∃ xt1_9 : Int, S = ⟨[(1, .I xt1_9)], []⟩ ∧ xt1_9 = o1)) (awp_loop (fun k S => ∃ xt1_9h : Int, ∃ xt5_9h : Int, S = ⟨[(1, .I xt1_9h), (2, .P 21900), (5, .I xt5_9h)], [(21900, .raw (Ae p0))]⟩ ∧ Bz.l9 K R p0 k xt1_9h xt5_9h = some o1) ?_ ⟨_, _, rfl, hp1⟩) ?_
 ·clear h hp1
  intro k S hS
  obtain ⟨xt1_9h, xt5_9h, rfl, h⟩ := hS
  cases k with
  | zero => cases h
  | succ k =>
  unfold Bz.l9 at h
  refine awp_seq <| awp_seq ?_
  rcases ite_some h with ⟨c1, h⟩ | ⟨c1, h⟩
  ·refine rg L 209 [(5, true)] [] [] (pl1 (decide_eq_true c1)) ?_
   rcases ite_some h with ⟨c2, h⟩ | ⟨c2, h⟩
   ·refine tT c2 <| awp_skip' <| awp_seq <| awp_block ?_
    obtain ⟨g1, h⟩ := guard_some h
    obtain ⟨a1, h1, h⟩ := bind_some h
    refine rg L 219 [] [(6, .I a1)] [] (plc g1.1 (plc g1.2 (plc (Bz.okR hR h1) (pl1 trivial)))) ?_
    refine ar0 L 228 [] [] [] (S' := ⟨[(1, .I a1), (2, .P 21900), (5, .I (IntKind.i64.wrap (xt5_9h + 1)))], [(21900, .raw (Ae p0))]⟩) ?_
    exact ⟨k, Nat.lt_succ_self k, _, _, rfl, h⟩
   refine fF c2 <| ex (S' := ⟨[(1, .I xt1_9h)], []⟩) ?_
   cases h
   exact ⟨rfl, _, rfl, rfl⟩
  refine rg L 209 [(5, false)] [] [] (pl1 (decide_eq_false c1)) ?_
  refine ff (b := false) (rfl) ?_
  refine ex (S' := ⟨[(1, .I xt1_9h)], []⟩) ?_
  cases h
  exact ⟨rfl, _, rfl, rfl⟩
 ·rintro e S ⟨rfl, xt1_9, rfl, rfl⟩
  refine ⟨_, Turns.refl, ?_⟩
  refine sg0 L 232 <| awp_ret ?_
  cases h
  exact er0
def C5.upto (K : Nat) : Nat → C5
 | 0 => ⟨fun _ _ => none⟩
 | k + 1 => ⟨Bz.F K (C5.upto K k)⟩
theorem C5.upto_ok (K : Nat) : ∀ k, (C5.upto K k).Ok
 | 0 => ⟨fun h => (by cases h)⟩
 | k + 1 => ⟨fun {p0 p1 r} h => eo (fn := Tryz.f34) (n := 27) (m := 100) fun Γ => Bz.body (K := K) (C5.upto_ok K k) h⟩
def Bz (K : Nat) (p0 : Aa) (p1 : Int) : Option Int := (C5.upto K K).Bz p0 p1
theorem Bz.okE {K : Nat} {p0 : Aa} {p1 : Int} {r : Int} (h : Bz K p0 p1 = some r) : ECall V P 34 [.agg (Ae p0), .I p1] [] [] (.I r) [] := (C5.upto_ok K K).Bz h
theorem Bz.ok {K : Nat} {p0 : Aa} {p1 : Int} {r : Int} (h : Bz K p0 p1 = some r) : PCall V P 34 [.agg (Ae p0), .I p1] (.I r) := (Bz.okE h).pcall (by kernel_rfl)
def Ef (K : Nat) (p0 : Aa) (p1 : Int) : Option Bool := (Option.bind (Bz K p0 p1) (fun a1 => some (decide (a1 ≥ 0))))
theorem Ef.body {Γ : Ent} {K : Nat} {p0 : Aa} {p1 : Int} {r : Bool} (h : Ef K p0 p1 = some r) : AWp V P 9 100 Γ (Tryz.f18.body.getD .skip) (EndsE P V Tryz.f18 (.B r) []) ⟨args0 0 [.agg (Ae p0), .I p1], []⟩ := by
 unfold Ef at h
 refine sg0 L 200 <| awp_seq ?_
 obtain ⟨a1, h1, h⟩ := bind_some h
 refine rg L 203 [] [(2, .I a1)] [] (plt (Bz.ok h1)) ?_
 refine awp_ret ?_
 cases h
 exact er0
theorem Ef.ok {K : Nat} {p0 : Aa} {p1 : Int} {r : Bool} (h : Ef K p0 p1 = some r) : PCall V P 18 [.agg (Ae p0), .I p1] (.B r) := ECall.pcall (eo (fn := Tryz.f18) (n := 9) (m := 100) fun Γ => Ef.body h) (by kernel_rfl)
def Db (K : Nat) (p0 : Int) : Option Bool := (if p0 ≥ 97 then (if p0 ≤ 122 then some true else (if p0 ≥ 65 then (if p0 ≤ 90 then some true else some (decide (p0 = 95))) else some (decide (p0 = 95)))) else (if p0 ≥ 65 then (if p0 ≤ 90 then some true else some (decide (p0 = 95))) else some (decide (p0 = 95))))
theorem Db.body {Γ : Ent} {K : Nat} {p0 : Int} {r : Bool} (h : Db K p0 = some r) : AWp V P 21 100 Γ (Tryz.f94.body.getD .skip) (EndsE P V Tryz.f94 (.B r) []) ⟨args0 0 [.cv (.lit (.int .u8 p0))], []⟩ := by
 unfold Db at h
 refine sg0 L 200 <| awp_seq ?_
 rcases ite_some h with ⟨c1, h⟩ | ⟨c1, h⟩
 ·rcases ite_some h with ⟨c2, h⟩ | ⟨c2, h⟩
  ·refine rg L 202 [(2, true), (6, true)] [] [] (pl2 (decide_eq_true c1) (decide_eq_true c2)) ?_
   refine awp_ret ?_
   cases h
   exact er0
  rcases ite_some h with ⟨c3, h⟩ | ⟨c3, h⟩
  ·rcases ite_some h with ⟨c4, h⟩ | ⟨c4, h⟩
   ·refine rg L 202 [(2, true), (6, false), (9, true), (14, true)] [] [] (plc (decide_eq_true c1) (plc (decide_eq_false c2) (plc (decide_eq_true c3) (pl1 (decide_eq_true c4))))) ?_
    refine awp_ret ?_
    cases h
    exact er0
   refine rg L 202 [(2, true), (6, false), (9, true), (14, false)] [] [] (plc (decide_eq_true c1) (plc (decide_eq_false c2) (plc (decide_eq_true c3) (pl1 (decide_eq_false c4))))) ?_
   refine awp_ret ?_
   cases h
   exact er0
  refine rg L 202 [(2, true), (6, false), (9, false)] [] [] (plc (decide_eq_true c1) (plc (decide_eq_false c2) (pl1 (decide_eq_false c3)))) ?_
  refine awp_ret ?_
  cases h
  exact er0
 rcases ite_some h with ⟨c5, h⟩ | ⟨c5, h⟩
 ·rcases ite_some h with ⟨c6, h⟩ | ⟨c6, h⟩
  ·refine rg L 202 [(2, false), (9, true), (14, true)] [] [] (plc (decide_eq_false c1) (plc (decide_eq_true c5) (pl1 (decide_eq_true c6)))) ?_
   refine awp_ret ?_
   cases h
   exact er0
  refine rg L 202 [(2, false), (9, true), (14, false)] [] [] (plc (decide_eq_false c1) (plc (decide_eq_true c5) (pl1 (decide_eq_false c6)))) ?_
  refine awp_ret ?_
  cases h
  exact er0
 refine rg L 202 [(2, false), (9, false)] [] [] (pl2 (decide_eq_false c1) (decide_eq_false c5)) ?_
 refine awp_ret ?_
 cases h
 exact er0
theorem Db.ok {K : Nat} {p0 : Int} {r : Bool} (h : Db K p0 = some r) : PCall V P 94 [.cv (.lit (.int .u8 p0))] (.B r) := ECall.pcall (eo (fn := Tryz.f94) (n := 21) (m := 100) fun Γ => Db.body h) (by kernel_rfl)
def Bm.l15 (K : Nat) (p0 : List UInt8) : Nat → Int → Option (Out Bool Unit)
 | 0, _ => none
 | k + 1, xt3_15h => (if xt3_15h < (p0.length : Int) then (if (0 : Int) ≤ xt3_15h ∧ (xt3_15h : Int) < (p0.length : Int) then (Option.bind (Db K ((p0.getD (Int.toNat xt3_15h) 0).toNat : Int)) (fun a3 => (if a3 = true then Bm.l15 K p0 k (IntKind.i64.wrap (xt3_15h + 1)) else (if ((p0.getD (Int.toNat xt3_15h) 0).toNat : Int) < 48 then some (Out.done false) else (if ((p0.getD (Int.toNat xt3_15h) 0).toNat : Int) > 57 then some (Out.done false) else Bm.l15 K p0 k (IntKind.i64.wrap (xt3_15h + 1))))))) else none) else some (Out.go ()))
def Bm (K : Nat) (p0 : List UInt8) : Option Bool := (if p0 = ([] : List UInt8) then some false else (if (p0.length : Int) > 64 then some false else (if (0 : Int) < (p0.length : Int) then (Option.bind (Db K ((p0.getD (Int.toNat 0) 0).toNat : Int)) (fun a1 => (if a1 = true then (Option.bind (Cq K p0) (fun a2 => (if a2 = true then some false else (obind (Bm.l15 K p0 K 0 : Option (Out Bool Unit)) (fun r => r) (fun _ => some true))))) else some false))) else none)))
theorem Bm.body {Γ : Ent} {K : Nat} {p0 : List UInt8} {r : Bool} (h : Bm K p0 = some r) : AWp V P 44 100 Γ (Tryz.f65.body.getD .skip) (EndsE P V Tryz.f65 (.B r) []) ⟨args0 0 [.cv (.str p0)], []⟩ := by
 unfold Bm at h
 refine sg0 L 200 <| awp_seq <| awp_seq ?_
 rcases ite_some h with ⟨c1, h⟩ | ⟨c1, h⟩
 ·refine rg L 202 [(2, true)] [] [] (pl1 (decide_eq_true c1)) ?_
  refine tt (b := true) (rfl) ?_
  refine sg0 L 220 <| awp_ret ?_
  cases h
  exact er0
 rcases ite_some h with ⟨c2, h⟩ | ⟨c2, h⟩
 ·refine rg L 202 [(2, false), (7, true)] [] [] (pl2 (decide_eq_false c1) (decide_eq_true c2)) ?_
  refine tt (b := true) (rfl) ?_
  refine sg0 L 220 <| awp_ret ?_
  cases h
  exact er0
 obtain ⟨g1, h⟩ := guard_some h
 obtain ⟨a1, h1, h⟩ := bind_some h
 rcases ite_some h with ⟨c3, h⟩ | ⟨c3, h⟩
 ·obtain ⟨a2, h2, h⟩ := bind_some h
  refine rg L 202 [(2, false), (7, false), (13, false)] [(10, .B a1), (15, .B a2)] [] (plc (decide_eq_false c1) (plc (decide_eq_false c2) (plc (show (0 : Int) ≤ 0 from by decide) (plc g1 (plc (Db.ok h1) (plc trivial (plc (show (!a1) = false from congrArg Bool.not (c3)) (plc (Cq.ok h2) (pl1 trivial))))))))) ?_
  rcases ite_some h with ⟨c4, h⟩ | ⟨c4, h⟩
  ·refine tt c4 <| sg0 L 220 <| awp_ret ?_
   cases h
   exact er0
  refine fN c4 <| awp_skip' <| awp_seq <| sg0 L 222 <| awp_block <| kp (S' := ⟨[(0, .cv (.str p0)), (3, .I 0)], []⟩) ?_
  obtain ⟨o1, hp1, h⟩ := obind_some h
  refine awp_conseq (Q' := fun e S => (e = .exit 0 ∧ S = ⟨[], []⟩ ∧ Out.go () = o1) ∨ (e = .ret ∧ ∃ a, Out.done a = o1 ∧ EndsE P V Tryz.f65 (.B a) [] .ret S)) (awp_loop (fun k S => ∃ xt3_15h : Int, S = ⟨[(0, .cv (.str p0)), (3, .I xt3_15h)], []⟩ ∧ Bm.l15 K p0 k xt3_15h = some o1) ?_ ⟨_, rfl, hp1⟩) ?_
  ·clear h hp1
   intro k S hS
   obtain ⟨xt3_15h, rfl, h⟩ := hS
   cases k with
   | zero => cases h
   | succ k =>
   unfold Bm.l15 at h
   refine awp_seq <| sg0 L 224 ?_
   rcases ite_some h with ⟨c5, h⟩ | ⟨c5, h⟩
   ·refine tT c5 <| awp_skip' <| awp_seq <| awp_block <| awp_seq ?_
    obtain ⟨g2, h⟩ := guard_some h
    obtain ⟨a3, h3, h⟩ := bind_some h
    rcases ite_some h with ⟨c6, h⟩ | ⟨c6, h⟩
    ·refine rg L 229 [(5, false)] [(3, .B a3)] [] (plc g2.1 (plc g2.2 (plc (Db.ok h3) (plc trivial (pl1 (show (!a3) = false from congrArg Bool.not (c6))))))) ?_
     refine ff (b := false) (rfl) ?_
     refine awp_skip' <| ar0 L 249 [] [] [] (S' := ⟨[(0, .cv (.str p0)), (3, .I (IntKind.i64.wrap (xt3_15h + 1)))], []⟩) ?_
     exact ⟨k, Nat.lt_succ_self k, _, rfl, h⟩
    rcases ite_some h with ⟨c7, h⟩ | ⟨c7, h⟩
    ·refine rg L 229 [(5, true), (10, true)] [(3, .B a3)] [] (plc g2.1 (plc g2.2 (plc (Db.ok h3) (plc trivial (plc (show (!a3) = true from congrArg Bool.not (eq_false_of_ne_true c6)) (plc g2.1 (plc g2.2 (pl1 (decide_eq_true c7))))))))) ?_
     refine tt (b := true) (rfl) ?_
     refine sg0 L 247 <| awp_ret ?_
     cases h
     exact .inr ⟨rfl, _, rfl, er0⟩
    refine rg L 229 [(5, true), (10, false)] [(3, .B a3)] [] (plc g2.1 (plc g2.2 (plc (Db.ok h3) (plc trivial (plc (show (!a3) = true from congrArg Bool.not (eq_false_of_ne_true c6)) (plc g2.1 (plc g2.2 (plc (decide_eq_false c7) (plc g2.1 (pl1 g2.2)))))))))) ?_
    rcases ite_some h with ⟨c8, h⟩ | ⟨c8, h⟩
    ·refine tT c8 <| sg0 L 247 <| awp_ret ?_
     cases h
     exact .inr ⟨rfl, _, rfl, er0⟩
    refine fF c8 <| awp_skip' <| ar0 L 249 [] [] [] (S' := ⟨[(0, .cv (.str p0)), (3, .I (IntKind.i64.wrap (xt3_15h + 1)))], []⟩) ?_
    exact ⟨k, Nat.lt_succ_self k, _, rfl, h⟩
   refine fF c5 <| ex (S' := ⟨[], []⟩) ?_
   cases h
   exact .inl ⟨rfl, rfl, rfl⟩
  ·rintro e S (⟨rfl, rfl, rfl⟩ | ⟨rfl, a, rfl, hr⟩)
   ·rcases h with ⟨_, e1, h⟩ | ⟨_, e1, h⟩
    ·cases e1
    ·have e2 := Out.go.inj e1
     subst e2
     refine ⟨_, Turns.refl, ?_⟩
     refine sg0 L 253 <| awp_ret ?_
     cases h
     exact er0
   ·rcases h with ⟨_, e1, h⟩ | ⟨_, e1, h⟩
    ·have e2 := Out.done.inj e1
     subst e2
     subst h
     exact ⟨_, Turns.refl, hr⟩
    ·cases e1
 refine rg L 202 [(2, false), (7, false), (13, true)] [(10, .B a1)] [] (plc (decide_eq_false c1) (plc (decide_eq_false c2) (plc (show (0 : Int) ≤ 0 from by decide) (plc g1 (plc (Db.ok h1) (plc trivial (pl1 (show (!a1) = true from congrArg Bool.not (eq_false_of_ne_true c3))))))))) ?_
 refine tt (b := true) (rfl) ?_
 refine sg0 L 220 <| awp_ret ?_
 cases h
 exact er0
theorem Bm.ok {K : Nat} {p0 : List UInt8} {r : Bool} (h : Bm K p0 = some r) : PCall V P 65 [.cv (.str p0)] (.B r) := ECall.pcall (eo (fn := Tryz.f65) (n := 44) (m := 100) fun Γ => Bm.body h) (by kernel_rfl)
def Ah (K : Nat) (p0 : Aa) (p1 : Bool) (p2 : Bool) : Option Bool := (if p1 = true then (if p0.Int = 0 then (if p2 = true then (Option.bind (Bm K p0.Name) (fun a1 => (if a1 = true then some (decide ((p0.Text.length : Int) ≤ 4096)) else some false))) else (if p0.Text = ([] : List UInt8) then (Option.bind (Bm K p0.Name) (fun a2 => (if a2 = true then some (decide ((p0.Text.length : Int) ≤ 4096)) else some false))) else some false)) else some false) else (if p0.Name = ([] : List UInt8) then (if p0.Int = 0 then (if p2 = true then some (decide ((p0.Text.length : Int) ≤ 4096)) else (if p0.Text = ([] : List UInt8) then some (decide ((p0.Text.length : Int) ≤ 4096)) else some false)) else some false) else some false))
theorem Ah.body {Γ : Ent} {K : Nat} {p0 : Aa} {p1 : Bool} {p2 : Bool} {r : Bool} (h : Ah K p0 p1 p2 = some r) : AWp V P 41 100 Γ (Tryz.f35.body.getD .skip) (EndsE P V Tryz.f35 (.B r) []) ⟨args0 0 [.agg (Ae p0), .B p1, .B p2], []⟩ := by
 unfold Ah at h
 refine sg0 L 200 <| awp_seq ?_
 rcases ite_some h with ⟨c1, h⟩ | ⟨c1, h⟩
 ·rcases ite_some h with ⟨c2, h⟩ | ⟨c2, h⟩
  ·rcases ite_some h with ⟨c3, h⟩ | ⟨c3, h⟩
   ·obtain ⟨a1, h1, h⟩ := bind_some h
    rcases ite_some h with ⟨c4, h⟩ | ⟨c4, h⟩
    ·refine rg L 203 [(1, true), (11, true), (13, true), (22, false), (28, true)] [(25, .B a1)] [] (plc c1 (plc (decide_eq_true c2) (plc c3 (plc (show (!p1) = false from congrArg Bool.not (c1)) (plc (Bm.ok h1) (plc trivial (pl1 c4))))))) ?_
     refine awp_ret ?_
     cases h
     exact er0
    refine rg L 203 [(1, true), (11, true), (13, true), (22, false), (28, false)] [(25, .B a1)] [] (plc c1 (plc (decide_eq_true c2) (plc c3 (plc (show (!p1) = false from congrArg Bool.not (c1)) (plc (Bm.ok h1) (plc trivial (pl1 (eq_false_of_ne_true c4)))))))) ?_
    refine awp_ret ?_
    cases h
    exact er0
   rcases ite_some h with ⟨c5, h⟩ | ⟨c5, h⟩
   ·obtain ⟨a2, h2, h⟩ := bind_some h
    rcases ite_some h with ⟨c6, h⟩ | ⟨c6, h⟩
    ·refine rg L 203 [(1, true), (11, true), (13, false), (19, true), (22, false), (28, true)] [(25, .B a2)] [] (plc c1 (plc (decide_eq_true c2) (plc (eq_false_of_ne_true c3) (plc (decide_eq_true c5) (plc (show (!p1) = false from congrArg Bool.not (c1)) (plc (Bm.ok h2) (plc trivial (pl1 c6)))))))) ?_
     refine awp_ret ?_
     cases h
     exact er0
    refine rg L 203 [(1, true), (11, true), (13, false), (19, true), (22, false), (28, false)] [(25, .B a2)] [] (plc c1 (plc (decide_eq_true c2) (plc (eq_false_of_ne_true c3) (plc (decide_eq_true c5) (plc (show (!p1) = false from congrArg Bool.not (c1)) (plc (Bm.ok h2) (plc trivial (pl1 (eq_false_of_ne_true c6))))))))) ?_
    refine awp_ret ?_
    cases h
    exact er0
   refine rg L 203 [(1, true), (11, true), (13, false), (19, false)] [] [] (plc c1 (plc (decide_eq_true c2) (plc (eq_false_of_ne_true c3) (pl1 (decide_eq_false c5))))) ?_
   refine awp_ret ?_
   cases h
   exact er0
  refine rg L 203 [(1, true), (11, false)] [] [] (pl2 c1 (decide_eq_false c2)) ?_
  refine awp_ret ?_
  cases h
  exact er0
 rcases ite_some h with ⟨c7, h⟩ | ⟨c7, h⟩
 ·rcases ite_some h with ⟨c8, h⟩ | ⟨c8, h⟩
  ·rcases ite_some h with ⟨c9, h⟩ | ⟨c9, h⟩
   ·refine rg L 203 [(1, false), (6, true), (11, true), (13, true), (22, true)] [] [] (plc (eq_false_of_ne_true c1) (plc (decide_eq_true c7) (plc (decide_eq_true c8) (plc c9 (pl1 (show (!p1) = true from congrArg Bool.not (eq_false_of_ne_true c1))))))) ?_
    refine awp_ret ?_
    cases h
    exact er0
   rcases ite_some h with ⟨c10, h⟩ | ⟨c10, h⟩
   ·refine rg L 203 [(1, false), (6, true), (11, true), (13, false), (19, true), (22, true)] [] [] (plc (eq_false_of_ne_true c1) (plc (decide_eq_true c7) (plc (decide_eq_true c8) (plc (eq_false_of_ne_true c9) (plc (decide_eq_true c10) (pl1 (show (!p1) = true from congrArg Bool.not (eq_false_of_ne_true c1)))))))) ?_
    refine awp_ret ?_
    cases h
    exact er0
   refine rg L 203 [(1, false), (6, true), (11, true), (13, false), (19, false)] [] [] (plc (eq_false_of_ne_true c1) (plc (decide_eq_true c7) (plc (decide_eq_true c8) (plc (eq_false_of_ne_true c9) (pl1 (decide_eq_false c10)))))) ?_
   refine awp_ret ?_
   cases h
   exact er0
  refine rg L 203 [(1, false), (6, true), (11, false)] [] [] (plc (eq_false_of_ne_true c1) (plc (decide_eq_true c7) (pl1 (decide_eq_false c8)))) ?_
  refine awp_ret ?_
  cases h
  exact er0
 refine rg L 203 [(1, false), (6, false)] [] [] (pl2 (eq_false_of_ne_true c1) (decide_eq_false c7)) ?_
 refine awp_ret ?_
 cases h
 exact er0
theorem Ah.ok {K : Nat} {p0 : Aa} {p1 : Bool} {p2 : Bool} {r : Bool} (h : Ah K p0 p1 p2 = some r) : PCall V P 35 [.agg (Ae p0), .B p1, .B p2] (.B r) := ECall.pcall (eo (fn := Tryz.f35) (n := 41) (m := 100) fun Γ => Ah.body h) (by kernel_rfl)
def Do (K : Nat) (p0 : Aa) : Option Bool := (Option.bind (Bh K p0) (fun a1 => (if a1 ≤ 4000 then (Option.bind (Ba K p0) (fun a2 => some (decide (a2 ≤ 40)))) else some false)))
theorem Do.body {Γ : Ent} {K : Nat} {p0 : Aa} {r : Bool} (h : Do K p0 = some r) : AWp V P 11 100 Γ (Tryz.f36.body.getD .skip) (EndsE P V Tryz.f36 (.B r) []) ⟨args0 0 [.agg (Ae p0)], []⟩ := by
 unfold Do at h
 refine sg0 L 200 <| awp_seq ?_
 obtain ⟨a1, h1, h⟩ := bind_some h
 rcases ite_some h with ⟨c1, h⟩ | ⟨c1, h⟩
 ·obtain ⟨a2, h2, h⟩ := bind_some h
  refine rg L 203 [(3, true)] [(1, .I a1), (5, .I a2)] [] (plc (Bh.ok h1) (plc trivial (plc (decide_eq_true c1) (plc (Ba.ok h2) (pl1 trivial))))) ?_
  refine awp_ret ?_
  cases h
  exact er0
 refine rg L 203 [(3, false)] [(1, .I a1)] [] (plc (Bh.ok h1) (plc trivial (pl1 (decide_eq_false c1)))) ?_
 refine awp_ret ?_
 cases h
 exact er0
theorem Do.ok {K : Nat} {p0 : Aa} {r : Bool} (h : Do K p0 = some r) : PCall V P 36 [.agg (Ae p0)] (.B r) := ECall.pcall (eo (fn := Tryz.f36) (n := 11) (m := 100) fun Γ => Do.body h) (by kernel_rfl)
structure Bk where
 Ay : (List Aa) → Option Bool
 Am : Aa → Option Bool
structure Bk.Ok (R : Bk) : Prop where
 Ay : ∀ {p0 : List Aa} {r : Bool}, R.Ay p0 = some r → ECall V P 69 [.cv (.ro .Ad p0)] [] [] (.B r) []
 Am : ∀ {p0 : Aa} {r : Bool}, R.Am p0 = some r → ECall V P 38 [.agg (Ae p0)] [] [] (.B r) []
theorem Ay.okR {R : Bk} (hR : R.Ok) {p0 : List Aa} {r : Bool} (h : R.Ay p0 = some r) : PCall V P 69 [.cv (.ro .Ad p0)] (.B r) := (hR.Ay h).pcall (by kernel_rfl)
theorem Am.okR {R : Bk} (hR : R.Ok) {p0 : Aa} {r : Bool} (h : R.Am p0 = some r) : PCall V P 38 [.agg (Ae p0)] (.B r) := (hR.Am h).pcall (by kernel_rfl)
def Ay.l7 (K : Nat) (R : Bk) (p0 : List Aa) : Nat → Int → Option (Out Bool Unit)
 | 0, _ => none
 | k + 1, xt3_7h => (if xt3_7h < (p0.length : Int) then (if (0 : Int) ≤ xt3_7h ∧ (xt3_7h : Int) < (p0.length : Int) then (Option.bind (R.Am (p0.getD (Int.toNat xt3_7h) Ai)) (fun a1 => (if a1 = true then Ay.l7 K R p0 k (IntKind.i64.wrap (xt3_7h + 1)) else some (Out.done false)))) else none) else some (Out.go ()))
def Ay.F (K : Nat) (R : Bk) (p0 : List Aa) : Option Bool := (obind (Ay.l7 K R p0 K 0 : Option (Out Bool Unit)) (fun r => r) (fun _ => some true))
theorem Ay.body {Γ : Ent} {K : Nat} {R : Bk} (hR : R.Ok) {p0 : List Aa} {r : Bool} (h : Ay.F K R p0 = some r) : AWp V P 16 100 Γ (Tryz.f69.body.getD .skip) (EndsE P V Tryz.f69 (.B r) []) ⟨args0 0 [.cv (.ro .Ad p0)], []⟩ := by
 unfold Ay.F at h
 refine sg0 L 200 <| awp_seq <| sg0 L 202 <| awp_block <| kp (S' := ⟨[(0, .cv (.ro .Ad p0)), (3, .I 0)], []⟩) ?_
 obtain ⟨o1, hp1, h⟩ := obind_some h
 refine awp_conseq (Q' := fun e S => (e = .exit 0 ∧ S = ⟨[], []⟩ ∧ Out.go () = o1) ∨ (e = .ret ∧ ∃ a, Out.done a = o1 ∧ EndsE P V Tryz.f69 (.B a) [] .ret S)) (awp_loop (fun k S => ∃ xt3_7h : Int, S = ⟨[(0, .cv (.ro .Ad p0)), (3, .I xt3_7h)], []⟩ ∧ Ay.l7 K R p0 k xt3_7h = some o1) ?_ ⟨_, rfl, hp1⟩) ?_
 ·clear h hp1
  intro k S hS
  obtain ⟨xt3_7h, rfl, h⟩ := hS
  cases k with
  | zero => cases h
  | succ k =>
  unfold Ay.l7 at h
  refine awp_seq <| sg0 L 204 ?_
  rcases ite_some h with ⟨c1, h⟩ | ⟨c1, h⟩
  ·refine tT c1 <| awp_skip' <| awp_seq <| awp_block <| awp_seq ?_
   obtain ⟨g1, h⟩ := guard_some h
   obtain ⟨a1, h1, h⟩ := bind_some h
   refine rg L 209 [] [(4, .B a1)] [] (plc g1.1 (plc g1.2 (plc (Am.okR hR h1) (pl1 trivial)))) ?_
   rcases ite_some h with ⟨c2, h⟩ | ⟨c2, h⟩
   ·refine ff (b := (!a1)) (congrArg Bool.not (c2)) ?_
    refine awp_skip' <| ar0 L 218 [] [] [] (S' := ⟨[(0, .cv (.ro .Ad p0)), (3, .I (IntKind.i64.wrap (xt3_7h + 1)))], []⟩) ?_
    exact ⟨k, Nat.lt_succ_self k, _, rfl, h⟩
   refine tt (b := (!a1)) (congrArg Bool.not (eq_false_of_ne_true c2)) ?_
   refine sg0 L 216 <| awp_ret ?_
   cases h
   exact .inr ⟨rfl, _, rfl, er0⟩
  refine fF c1 <| ex (S' := ⟨[], []⟩) ?_
  cases h
  exact .inl ⟨rfl, rfl, rfl⟩
 ·rintro e S (⟨rfl, rfl, rfl⟩ | ⟨rfl, a, rfl, hr⟩)
  ·rcases h with ⟨_, e1, h⟩ | ⟨_, e1, h⟩
   ·cases e1
   ·have e2 := Out.go.inj e1
    subst e2
    refine ⟨_, Turns.refl, ?_⟩
    refine sg0 L 222 <| awp_ret ?_
    cases h
    exact er0
  ·rcases h with ⟨_, e1, h⟩ | ⟨_, e1, h⟩
   ·have e2 := Out.done.inj e1
    subst e2
    subst h
    exact ⟨_, Turns.refl, hr⟩
   ·cases e1
def Am.l54 (K : Nat) (R : Bk) (p0 : Aa) : Nat → Int → Option (Out Bool Unit)
 | 0, _ => none
 | k + 1, xt4_54h => (if xt4_54h < (p0.Kids.length : Int) then (if (0 : Int) ≤ xt4_54h ∧ (xt4_54h : Int) < (p0.Kids.length : Int) then (if (p0.Kids.getD (Int.toNat xt4_54h) Ai).Op ≠ 9 then some (Out.done false) else (Option.bind (Ah K (p0.Kids.getD (Int.toNat xt4_54h) Ai) false true) (fun a6 => (if a6 = true then (if (((p0.Kids.getD (Int.toNat xt4_54h) Ai).Kids).length : Int) ≠ 1 then some (Out.done false) else (Option.bind (R.Ay ((p0.Kids.getD (Int.toNat xt4_54h) Ai).Kids)) (fun a7 => (if a7 = true then Am.l54 K R p0 k (IntKind.i64.wrap (xt4_54h + 1)) else some (Out.done false))))) else some (Out.done false))))) else none) else some (Out.go ()))
def Am.F (K : Nat) (R : Bk) (p0 : Aa) : Option Bool := (Option.bind ((if p0.Op = 1 then some (decide (p0.Op = 1)) else (if p0.Op = 2 then some (decide (p0.Op = 2)) else some (decide (p0.Op = 3)))) : Option Bool) (fun xt11_9 => (if xt11_9 = true then (Option.bind (Ah K p0 false false) (fun a1 => (if a1 = true then some (decide ((p0.Kids.length : Int) = 0)) else some false))) else (if p0.Op = 4 then (if p0.Name = ([] : List UInt8) then (if p0.Text = ([] : List UInt8) then (if p0.Int ≥ 0 then some (decide ((p0.Kids.length : Int) = 0)) else some false) else some false) else some false) else (if p0.Op = 5 then (Option.bind (Ah K p0 false true) (fun a2 => (if a2 = true then some (decide ((p0.Kids.length : Int) = 0)) else some false))) else (if p0.Op = 6 then (Option.bind (Ah K p0 true false) (fun a3 => (if a3 = true then some (decide ((p0.Kids.length : Int) = 0)) else some false))) else (if p0.Op = 7 then (Option.bind (Ah K p0 false false) (fun a4 => (if a4 = true then (Option.bind (R.Ay p0.Kids) (fun a5 => some a5)) else some false))) else (if p0.Op = 8 then (obind (Am.l54 K R p0 K 0 : Option (Out Bool Unit)) (fun r => r) (fun _ => (Option.bind (Ah K p0 false false) (fun a8 => some a8)))) else (Option.bind ((if p0.Op = 10 then some (decide (p0.Op = 10)) else some (decide (p0.Op = 11))) : Option Bool) (fun xt99_76 => (if xt99_76 = true then (Option.bind (Ah K p0 true false) (fun a9 => (if a9 = true then (Option.bind (R.Ay p0.Kids) (fun a10 => some a10)) else some false))) else (Option.bind ((if p0.Op = 12 then some (decide (p0.Op = 12)) else (if p0.Op = 13 then some (decide (p0.Op = 13)) else some (decide (p0.Op = 14)))) : Option Bool) (fun xt109_86 => (if xt109_86 = true then (Option.bind (Ah K p0 false false) (fun a11 => (if a11 = true then (if (p0.Kids.length : Int) = 1 then (Option.bind (R.Ay p0.Kids) (fun a12 => some a12)) else some false) else some false))) else (if p0.Op = 29 then (Option.bind (Ah K p0 true false) (fun a13 => (if a13 = true then (if (p0.Kids.length : Int) = 1 then (Option.bind (R.Ay p0.Kids) (fun a14 => some a14)) else some false) else some false))) else (if p0.Op ≥ 15 then (if p0.Op ≤ 28 then (Option.bind (Ah K p0 false false) (fun a15 => (if a15 = true then (if (p0.Kids.length : Int) = 2 then (Option.bind (R.Ay p0.Kids) (fun a16 => some a16)) else some false) else some false))) else some false) else some false))))))))))))))))
theorem Am.body {Γ : Ent} {K : Nat} {R : Bk} (hR : R.Ok) {p0 : Aa} {r : Bool} (h : Am.F K R p0 = some r) : AWp V P 158 100 Γ (Tryz.f38.body.getD .skip) (EndsE P V Tryz.f38 (.B r) []) ⟨args0 0 [.agg (Ae p0)], []⟩ := by
 unfold Am.F at h
 refine sg0 L 200 <| sg0 L 203 <| awp_seq <| sg0 L 208 <| awp_block ?_
 obtain ⟨o1, hp1, h⟩ := bind_some h
 refine awp_seq (awp_mono (Q' := fun e S => (e = .normal ∧ ∃ xt11_9 : Bool, S = ⟨[(1, .P 21800), (3, .I (p0.Kids.length : Int)), (10, .I p0.Op), (11, .B xt11_9)], [(21800, .raw (Ae p0))]⟩ ∧ xt11_9 = o1)) ?_ ?_)
 ·clear h
  replace h := hp1
  refine sg0 L 211 ?_
  rcases ite_some h with ⟨c1, h⟩ | ⟨c1, h⟩
  ·refine tT c1 <| awp_turn (Turns.trans (Turns.kk [1, 3, 10, 11] [200]) (Turns.rr [(200, 21800)])) ?_
   refine sk (S' := ⟨[(1, .P 21800), (3, .I (p0.Kids.length : Int)), (10, .I p0.Op), (11, .B (decide (p0.Op = 1)))], [(21800, .raw (Ae p0))]⟩) ?_
   cases h
   exact ⟨rfl, _, rfl, rfl⟩
  refine fF c1 <| sg0 L 214 ?_
  rcases ite_some h with ⟨c2, h⟩ | ⟨c2, h⟩
  ·refine tT c2 <| awp_turn (Turns.trans (Turns.kk [1, 3, 10, 11] [200]) (Turns.rr [(200, 21800)])) ?_
   refine sk (S' := ⟨[(1, .P 21800), (3, .I (p0.Kids.length : Int)), (10, .I p0.Op), (11, .B (decide (p0.Op = 2)))], [(21800, .raw (Ae p0))]⟩) ?_
   cases h
   exact ⟨rfl, _, rfl, rfl⟩
  refine fF c2 <| awp_post (rg0 L 217 ⟨rfl, rfl⟩) (Turns.trans (Turns.kk [1, 3, 10, 11] [200]) (Turns.trans (Turns.rr [(200, 21800)]) (Turns.kp (S' := ⟨[(1, .P 21800), (3, .I (p0.Kids.length : Int)), (10, .I p0.Op), (11, .B (decide (p0.Op = 3)))], [(21800, .raw (Ae p0))]⟩)))) ?_
  cases h
  exact ⟨rfl, _, rfl, rfl⟩
 ·rintro e S ⟨rfl, xt11_9, rfl, rfl⟩
  rcases ite_some h with ⟨c3, h⟩ | ⟨c3, h⟩
  ·refine tt c3 <| awp_seq ?_
   obtain ⟨a1, h1, h⟩ := bind_some h
   rcases ite_some h with ⟨c4, h⟩ | ⟨c4, h⟩
   ·refine rg L 220 [(2, true)] [(1, .B a1)] [] (plc (Ah.ok h1) (plc trivial (pl1 c4))) ?_
    refine awp_ret ?_
    cases h
    exact er0
   refine rg L 220 [(2, false)] [(1, .B a1)] [] (plc (Ah.ok h1) (plc trivial (pl1 (eq_false_of_ne_true c4)))) ?_
   refine awp_ret ?_
   cases h
   exact er0
  refine fN c3 <| sg0 L 228 ?_
  rcases ite_some h with ⟨c5, h⟩ | ⟨c5, h⟩
  ·refine tT c5 <| awp_seq ?_
   rcases ite_some h with ⟨c6, h⟩ | ⟨c6, h⟩
   ·rcases ite_some h with ⟨c7, h⟩ | ⟨c7, h⟩
    ·rcases ite_some h with ⟨c8, h⟩ | ⟨c8, h⟩
     ·refine rg L 231 [(3, true), (8, true), (13, true)] [] [] (plc (decide_eq_true c6) (plc (decide_eq_true c7) (pl1 (decide_eq_true c8)))) ?_
      refine awp_ret ?_
      cases h
      exact er0
     refine rg L 231 [(3, true), (8, true), (13, false)] [] [] (plc (decide_eq_true c6) (plc (decide_eq_true c7) (pl1 (decide_eq_false c8)))) ?_
     refine awp_ret ?_
     cases h
     exact er0
    refine rg L 231 [(3, true), (8, false)] [] [] (pl2 (decide_eq_true c6) (decide_eq_false c7)) ?_
    refine awp_ret ?_
    cases h
    exact er0
   refine rg L 231 [(3, false)] [] [] (pl1 (decide_eq_false c6)) ?_
   refine awp_ret ?_
   cases h
   exact er0
  refine fF c5 <| sg0 L 250 ?_
  rcases ite_some h with ⟨c9, h⟩ | ⟨c9, h⟩
  ·refine tT c9 <| awp_seq ?_
   obtain ⟨a2, h2, h⟩ := bind_some h
   rcases ite_some h with ⟨c10, h⟩ | ⟨c10, h⟩
   ·refine rg L 253 [(2, true)] [(1, .B a2)] [] (plc (Ah.ok h2) (plc trivial (pl1 c10))) ?_
    refine awp_ret ?_
    cases h
    exact er0
   refine rg L 253 [(2, false)] [(1, .B a2)] [] (plc (Ah.ok h2) (plc trivial (pl1 (eq_false_of_ne_true c10)))) ?_
   refine awp_ret ?_
   cases h
   exact er0
  refine fF c9 <| sg0 L 261 ?_
  rcases ite_some h with ⟨c11, h⟩ | ⟨c11, h⟩
  ·refine tT c11 <| awp_seq ?_
   obtain ⟨a3, h3, h⟩ := bind_some h
   rcases ite_some h with ⟨c12, h⟩ | ⟨c12, h⟩
   ·refine rg L 264 [(2, true)] [(1, .B a3)] [] (plc (Ah.ok h3) (plc trivial (pl1 c12))) ?_
    refine awp_ret ?_
    cases h
    exact er0
   refine rg L 264 [(2, false)] [(1, .B a3)] [] (plc (Ah.ok h3) (plc trivial (pl1 (eq_false_of_ne_true c12)))) ?_
   refine awp_ret ?_
   cases h
   exact er0
  refine fF c11 <| sg0 L 272 ?_
  rcases ite_some h with ⟨c13, h⟩ | ⟨c13, h⟩
  ·refine tT c13 <| awp_seq ?_
   obtain ⟨a4, h4, h⟩ := bind_some h
   rcases ite_some h with ⟨c14, h⟩ | ⟨c14, h⟩
   ·obtain ⟨a5, h5, h⟩ := bind_some h
    refine rg L 275 [(2, true)] [(1, .B a4), (5, .B a5)] [] (plc (Ah.ok h4) (plc trivial (plc c14 (plc (Ay.okR hR h5) (pl1 trivial))))) ?_
    refine awp_ret ?_
    cases h
    exact er0
   refine rg L 275 [(2, false)] [(1, .B a4)] [] (plc (Ah.ok h4) (plc trivial (pl1 (eq_false_of_ne_true c14)))) ?_
   refine awp_ret ?_
   cases h
   exact er0
  refine fF c13 <| sg0 L 284 ?_
  rcases ite_some h with ⟨c15, h⟩ | ⟨c15, h⟩
  ·refine tT c15 <| awp_seq <| sg0 L 287 <| awp_block <| awp_turn (Turns.trans (Turns.kk [1, 3, 4] [21800]) (Turns.rr [(21800, 30900)])) ?_
   refine kp (S' := ⟨[(1, .P 30900), (3, .I (p0.Kids.length : Int)), (4, .I 0)], [(30900, .raw (Ae p0))]⟩) ?_
   obtain ⟨o2, hp2, h⟩ := obind_some h
   refine awp_conseq (Q' := fun e S => (e = .exit 1 ∧ S = ⟨[(1, .P 30800)], [(30800, .raw (Ae p0))]⟩ ∧ Out.go () = o2) ∨ (e = .ret ∧ ∃ a, Out.done a = o2 ∧ EndsE P V Tryz.f38 (.B a) [] .ret S)) (awp_loop (fun k S => ∃ xt4_54h : Int, S = ⟨[(1, .P 30900), (3, .I (p0.Kids.length : Int)), (4, .I xt4_54h)], [(30900, .raw (Ae p0))]⟩ ∧ Am.l54 K R p0 k xt4_54h = some o2) ?_ ⟨_, rfl, hp2⟩) ?_
   ·clear h hp2
    intro k S hS
    obtain ⟨xt4_54h, rfl, h⟩ := hS
    cases k with
    | zero => cases h
    | succ k =>
    unfold Am.l54 at h
    refine awp_seq <| sg0 L 289 ?_
    rcases ite_some h with ⟨c16, h⟩ | ⟨c16, h⟩
    ·refine tT c16 <| awp_skip' <| awp_seq <| awp_block <| awp_seq ?_
     obtain ⟨g1, h⟩ := guard_some h
     refine rg L 293 [] [] [] (pl2 g1.1 g1.2) ?_
     refine awp_seq ?_
     rcases ite_some h with ⟨c17, h⟩ | ⟨c17, h⟩
     ·refine rg L 301 [(3, true)] [] [] (pl1 (decide_eq_true c17)) ?_
      refine tt (b := true) (rfl) ?_
      refine sg0 L 322 <| awp_ret ?_
      cases h
      exact .inr ⟨rfl, _, rfl, er0⟩
     obtain ⟨a6, h6, h⟩ := bind_some h
     rcases ite_some h with ⟨c18, h⟩ | ⟨c18, h⟩
     ·rcases ite_some h with ⟨c19, h⟩ | ⟨c19, h⟩
      ·refine rg L 301 [(3, false), (8, false), (14, true)] [(5, .B a6)] [] (plc (decide_eq_false c17) (plc (Ah.ok h6) (plc trivial (plc (show (!a6) = false from congrArg Bool.not (c18)) (pl1 (decide_eq_true c19)))))) ?_
       refine tt (b := true) (rfl) ?_
       refine sg0 L 322 <| awp_ret ?_
       cases h
       exact .inr ⟨rfl, _, rfl, er0⟩
      obtain ⟨a7, h7, h⟩ := bind_some h
      refine rg L 301 [(3, false), (8, false), (14, false)] [(5, .B a6), (17, .B a7)] [] (plc (decide_eq_false c17) (plc (Ah.ok h6) (plc trivial (plc (show (!a6) = false from congrArg Bool.not (c18)) (plc (decide_eq_false c19) (plc (Ay.okR hR h7) (pl1 trivial))))))) ?_
      rcases ite_some h with ⟨c20, h⟩ | ⟨c20, h⟩
      ·refine ff (b := (!a7)) (congrArg Bool.not (c20)) ?_
       refine awp_skip' <| ar0 L 324 [] [] [] (S' := ⟨[(1, .P 30900), (3, .I (p0.Kids.length : Int)), (4, .I (IntKind.i64.wrap (xt4_54h + 1)))], [(30900, .raw (Ae p0))]⟩) ?_
       exact ⟨k, Nat.lt_succ_self k, _, rfl, h⟩
      refine tt (b := (!a7)) (congrArg Bool.not (eq_false_of_ne_true c20)) ?_
      refine sg0 L 322 <| awp_ret ?_
      cases h
      exact .inr ⟨rfl, _, rfl, er0⟩
     refine rg L 301 [(3, false), (8, true)] [(5, .B a6)] [] (plc (decide_eq_false c17) (plc (Ah.ok h6) (plc trivial (pl1 (show (!a6) = true from congrArg Bool.not (eq_false_of_ne_true c18)))))) ?_
     refine tt (b := true) (rfl) ?_
     refine sg0 L 322 <| awp_ret ?_
     cases h
     exact .inr ⟨rfl, _, rfl, er0⟩
    refine fF c16 <| awp_turn (Turns.trans (Turns.kk [1] [30900]) (Turns.rr [(30900, 30800)])) ?_
    refine ex (S' := ⟨[(1, .P 30800)], [(30800, .raw (Ae p0))]⟩) ?_
    cases h
    exact .inl ⟨rfl, rfl, rfl⟩
   ·rintro e S (⟨rfl, rfl, rfl⟩ | ⟨rfl, a, rfl, hr⟩)
    ·rcases h with ⟨_, e1, h⟩ | ⟨_, e1, h⟩
     ·cases e1
     ·have e2 := Out.go.inj e1
      subst e2
      refine ⟨_, Turns.refl, ?_⟩
      refine awp_seq ?_
      obtain ⟨a8, h8, h⟩ := bind_some h
      refine rg L 328 [] [(1, .B a8)] [] (plt (Ah.ok h8)) ?_
      refine awp_ret ?_
      cases h
      exact er0
    ·rcases h with ⟨_, e1, h⟩ | ⟨_, e1, h⟩
     ·have e2 := Out.done.inj e1
      subst e2
      subst h
      exact ⟨_, Turns.refl, hr⟩
     ·cases e1
  refine fF c15 ?_
  obtain ⟨o3, hp3, h⟩ := bind_some h
  refine awp_seq (awp_mono (Q' := fun e S => (e = .normal ∧ ∃ xt99_76 : Bool, S = ⟨[(1, .P 35200), (3, .I (p0.Kids.length : Int)), (10, .I p0.Op), (99, .B xt99_76)], [(35200, .raw (Ae p0))]⟩ ∧ xt99_76 = o3)) ?_ ?_)
  ·clear h
   replace h := hp3
   refine sg0 L 332 ?_
   rcases ite_some h with ⟨c21, h⟩ | ⟨c21, h⟩
   ·refine tT c21 <| awp_turn (Turns.trans (Turns.kk [1, 3, 10, 99] [21800]) (Turns.rr [(21800, 35200)])) ?_
    refine sk (S' := ⟨[(1, .P 35200), (3, .I (p0.Kids.length : Int)), (10, .I p0.Op), (99, .B (decide (p0.Op = 10)))], [(35200, .raw (Ae p0))]⟩) ?_
    cases h
    exact ⟨rfl, _, rfl, rfl⟩
   refine fF c21 <| awp_post (rg0 L 335 ⟨rfl, rfl⟩) (Turns.trans (Turns.kk [1, 3, 10, 99] [21800]) (Turns.trans (Turns.rr [(21800, 35200)]) (Turns.kp (S' := ⟨[(1, .P 35200), (3, .I (p0.Kids.length : Int)), (10, .I p0.Op), (99, .B (decide (p0.Op = 11)))], [(35200, .raw (Ae p0))]⟩)))) ?_
   cases h
   exact ⟨rfl, _, rfl, rfl⟩
  ·rintro e S ⟨rfl, xt99_76, rfl, rfl⟩
   rcases ite_some h with ⟨c22, h⟩ | ⟨c22, h⟩
   ·refine tt c22 <| awp_seq ?_
    obtain ⟨a9, h9, h⟩ := bind_some h
    rcases ite_some h with ⟨c23, h⟩ | ⟨c23, h⟩
    ·obtain ⟨a10, h10, h⟩ := bind_some h
     refine rg L 338 [(2, true)] [(1, .B a9), (5, .B a10)] [] (plc (Ah.ok h9) (plc trivial (plc c23 (plc (Ay.okR hR h10) (pl1 trivial))))) ?_
     refine awp_ret ?_
     cases h
     exact er0
    refine rg L 338 [(2, false)] [(1, .B a9)] [] (plc (Ah.ok h9) (plc trivial (pl1 (eq_false_of_ne_true c23)))) ?_
    refine awp_ret ?_
    cases h
    exact er0
   refine fN c22 ?_
   obtain ⟨o4, hp4, h⟩ := bind_some h
   refine awp_seq (awp_mono (Q' := fun e S => (e = .normal ∧ ∃ xt109_86 : Bool, S = ⟨[(1, .P 37200), (3, .I (p0.Kids.length : Int)), (10, .I p0.Op), (109, .B xt109_86)], [(37200, .raw (Ae p0))]⟩ ∧ xt109_86 = o4)) ?_ ?_)
   ·clear h
    replace h := hp4
    refine sg0 L 347 ?_
    rcases ite_some h with ⟨c24, h⟩ | ⟨c24, h⟩
    ·refine tT c24 <| awp_turn (Turns.trans (Turns.kk [1, 3, 10, 109] [35200]) (Turns.rr [(35200, 37200)])) ?_
     refine sk (S' := ⟨[(1, .P 37200), (3, .I (p0.Kids.length : Int)), (10, .I p0.Op), (109, .B (decide (p0.Op = 12)))], [(37200, .raw (Ae p0))]⟩) ?_
     cases h
     exact ⟨rfl, _, rfl, rfl⟩
    refine fF c24 <| sg0 L 350 ?_
    rcases ite_some h with ⟨c25, h⟩ | ⟨c25, h⟩
    ·refine tT c25 <| awp_turn (Turns.trans (Turns.kk [1, 3, 10, 109] [35200]) (Turns.rr [(35200, 37200)])) ?_
     refine sk (S' := ⟨[(1, .P 37200), (3, .I (p0.Kids.length : Int)), (10, .I p0.Op), (109, .B (decide (p0.Op = 13)))], [(37200, .raw (Ae p0))]⟩) ?_
     cases h
     exact ⟨rfl, _, rfl, rfl⟩
    refine fF c25 <| awp_post (rg0 L 353 ⟨rfl, rfl⟩) (Turns.trans (Turns.kk [1, 3, 10, 109] [35200]) (Turns.trans (Turns.rr [(35200, 37200)]) (Turns.kp (S' := ⟨[(1, .P 37200), (3, .I (p0.Kids.length : Int)), (10, .I p0.Op), (109, .B (decide (p0.Op = 14)))], [(37200, .raw (Ae p0))]⟩)))) ?_
    cases h
    exact ⟨rfl, _, rfl, rfl⟩
   ·rintro e S ⟨rfl, xt109_86, rfl, rfl⟩
    rcases ite_some h with ⟨c26, h⟩ | ⟨c26, h⟩
    ·refine tt c26 <| awp_seq ?_
     obtain ⟨a11, h11, h⟩ := bind_some h
     rcases ite_some h with ⟨c27, h⟩ | ⟨c27, h⟩
     ·rcases ite_some h with ⟨c28, h⟩ | ⟨c28, h⟩
      ·obtain ⟨a12, h12, h⟩ := bind_some h
       refine rg L 356 [(2, true), (6, true)] [(1, .B a11), (9, .B a12)] [] (plc (Ah.ok h11) (plc trivial (plc c27 (plc (decide_eq_true c28) (plc (Ay.okR hR h12) (pl1 trivial)))))) ?_
       refine awp_ret ?_
       cases h
       exact er0
      refine rg L 356 [(2, true), (6, false)] [(1, .B a11)] [] (plc (Ah.ok h11) (plc trivial (plc c27 (pl1 (decide_eq_false c28))))) ?_
      refine awp_ret ?_
      cases h
      exact er0
     refine rg L 356 [(2, false)] [(1, .B a11)] [] (plc (Ah.ok h11) (plc trivial (pl1 (eq_false_of_ne_true c27)))) ?_
     refine awp_ret ?_
     cases h
     exact er0
    refine fN c26 <| sg0 L 369 ?_
    rcases ite_some h with ⟨c29, h⟩ | ⟨c29, h⟩
    ·refine tT c29 <| awp_seq ?_
     obtain ⟨a13, h13, h⟩ := bind_some h
     rcases ite_some h with ⟨c30, h⟩ | ⟨c30, h⟩
     ·rcases ite_some h with ⟨c31, h⟩ | ⟨c31, h⟩
      ·obtain ⟨a14, h14, h⟩ := bind_some h
       refine rg L 372 [(2, true), (6, true)] [(1, .B a13), (9, .B a14)] [] (plc (Ah.ok h13) (plc trivial (plc c30 (plc (decide_eq_true c31) (plc (Ay.okR hR h14) (pl1 trivial)))))) ?_
       refine awp_ret ?_
       cases h
       exact er0
      refine rg L 372 [(2, true), (6, false)] [(1, .B a13)] [] (plc (Ah.ok h13) (plc trivial (plc c30 (pl1 (decide_eq_false c31))))) ?_
      refine awp_ret ?_
      cases h
      exact er0
     refine rg L 372 [(2, false)] [(1, .B a13)] [] (plc (Ah.ok h13) (plc trivial (pl1 (eq_false_of_ne_true c30)))) ?_
     refine awp_ret ?_
     cases h
     exact er0
    refine fF c29 <| awp_skip' <| awp_seq ?_
    rcases ite_some h with ⟨c32, h⟩ | ⟨c32, h⟩
    ·rcases ite_some h with ⟨c33, h⟩ | ⟨c33, h⟩
     ·obtain ⟨a15, h15, h⟩ := bind_some h
      rcases ite_some h with ⟨c34, h⟩ | ⟨c34, h⟩
      ·rcases ite_some h with ⟨c35, h⟩ | ⟨c35, h⟩
       ·obtain ⟨a16, h16, h⟩ := bind_some h
        refine rg L 385 [(3, true), (8, true), (12, true), (16, true)] [(10, .B a15), (19, .B a16)] [] (plc (decide_eq_true c32) (plc (decide_eq_true c33) (plc (Ah.ok h15) (plc trivial (plc c34 (plc (decide_eq_true c35) (plc (Ay.okR hR h16) (pl1 trivial)))))))) ?_
        refine awp_ret ?_
        cases h
        exact er0
       refine rg L 385 [(3, true), (8, true), (12, true), (16, false)] [(10, .B a15)] [] (plc (decide_eq_true c32) (plc (decide_eq_true c33) (plc (Ah.ok h15) (plc trivial (plc c34 (pl1 (decide_eq_false c35))))))) ?_
       refine awp_ret ?_
       cases h
       exact er0
      refine rg L 385 [(3, true), (8, true), (12, false)] [(10, .B a15)] [] (plc (decide_eq_true c32) (plc (decide_eq_true c33) (plc (Ah.ok h15) (plc trivial (pl1 (eq_false_of_ne_true c34)))))) ?_
      refine awp_ret ?_
      cases h
      exact er0
     refine rg L 385 [(3, true), (8, false)] [] [] (pl2 (decide_eq_true c32) (decide_eq_false c33)) ?_
     refine awp_ret ?_
     cases h
     exact er0
    refine rg L 385 [(3, false)] [] [] (pl1 (decide_eq_false c32)) ?_
    refine awp_ret ?_
    cases h
    exact er0
def Bk.upto (K : Nat) : Nat → Bk
 | 0 => ⟨fun _ => none, fun _ => none⟩
 | k + 1 => ⟨Ay.F K (Bk.upto K k), Am.F K (Bk.upto K k)⟩
theorem Bk.upto_ok (K : Nat) : ∀ k, (Bk.upto K k).Ok
 | 0 => ⟨fun h => (by cases h), fun h => (by cases h)⟩
 | k + 1 => ⟨fun {p0 r} h => eo (fn := Tryz.f69) (n := 16) (m := 100) fun Γ => Ay.body (K := K) (Bk.upto_ok K k) h, fun {p0 r} h => eo (fn := Tryz.f38) (n := 158) (m := 100) fun Γ => Am.body (K := K) (Bk.upto_ok K k) h⟩
def Ay (K : Nat) (p0 : List Aa) : Option Bool := (Bk.upto K K).Ay p0
theorem Ay.okE {K : Nat} {p0 : List Aa} {r : Bool} (h : Ay K p0 = some r) : ECall V P 69 [.cv (.ro .Ad p0)] [] [] (.B r) [] := (Bk.upto_ok K K).Ay h
theorem Ay.ok {K : Nat} {p0 : List Aa} {r : Bool} (h : Ay K p0 = some r) : PCall V P 69 [.cv (.ro .Ad p0)] (.B r) := (Ay.okE h).pcall (by kernel_rfl)
def Am (K : Nat) (p0 : Aa) : Option Bool := (Bk.upto K K).Am p0
theorem Am.okE {K : Nat} {p0 : Aa} {r : Bool} (h : Am K p0 = some r) : ECall V P 38 [.agg (Ae p0)] [] [] (.B r) [] := (Bk.upto_ok K K).Am h
theorem Am.ok {K : Nat} {p0 : Aa} {r : Bool} (h : Am K p0 = some r) : PCall V P 38 [.agg (Ae p0)] (.B r) := (Am.okE h).pcall (by kernel_rfl)
def Dm (K : Nat) (p0 : Aa) : Option Bool := (if p0.Op = 14 then (Option.bind (Am K p0) (fun a1 => (if a1 = true then (if (0 : Int) < (p0.Kids.length : Int) then some (decide ((p0.Kids.getD (Int.toNat 0) Ai).Op = 4)) else none) else some false))) else (Option.bind (Am K p0) (fun a2 => (if a2 = true then (if p0.Op ≥ 1 then some (decide (p0.Op ≤ 5)) else some false) else some false))))
theorem Dm.body {Γ : Ent} {K : Nat} {p0 : Aa} {r : Bool} (h : Dm K p0 = some r) : AWp V P 28 100 Γ (Tryz.f66.body.getD .skip) (EndsE P V Tryz.f66 (.B r) []) ⟨args0 0 [.agg (Ae p0)], []⟩ := by
 unfold Dm at h
 refine sg0 L 200 <| awp_seq <| sg0 L 203 ?_
 rcases ite_some h with ⟨c1, h⟩ | ⟨c1, h⟩
 ·refine tT c1 <| awp_seq ?_
  obtain ⟨a1, h1, h⟩ := bind_some h
  rcases ite_some h with ⟨c2, h⟩ | ⟨c2, h⟩
  ·obtain ⟨g1, h⟩ := guard_some h
   refine rg L 207 [(2, true)] [(1, .B a1)] [] (plc (Am.ok h1) (plc trivial (plc c2 (plc (show (0 : Int) ≤ 0 from by decide) (pl1 g1))))) ?_
   refine awp_ret ?_
   cases h
   exact er0
  refine rg L 207 [(2, false)] [(1, .B a1)] [] (plc (Am.ok h1) (plc trivial (pl1 (eq_false_of_ne_true c2)))) ?_
  refine awp_ret ?_
  cases h
  exact er0
 refine fF c1 <| awp_skip' <| awp_seq ?_
 obtain ⟨a2, h2, h⟩ := bind_some h
 rcases ite_some h with ⟨c3, h⟩ | ⟨c3, h⟩
 ·rcases ite_some h with ⟨c4, h⟩ | ⟨c4, h⟩
  ·refine rg L 219 [(2, true), (7, true)] [(1, .B a2)] [] (plc (Am.ok h2) (plc trivial (plc c3 (pl1 (decide_eq_true c4))))) ?_
   refine awp_ret ?_
   cases h
   exact er0
  refine rg L 219 [(2, true), (7, false)] [(1, .B a2)] [] (plc (Am.ok h2) (plc trivial (plc c3 (pl1 (decide_eq_false c4))))) ?_
  refine awp_ret ?_
  cases h
  exact er0
 refine rg L 219 [(2, false)] [(1, .B a2)] [] (plc (Am.ok h2) (plc trivial (pl1 (eq_false_of_ne_true c3)))) ?_
 refine awp_ret ?_
 cases h
 exact er0
theorem Dm.ok {K : Nat} {p0 : Aa} {r : Bool} (h : Dm K p0 = some r) : PCall V P 66 [.agg (Ae p0)] (.B r) := ECall.pcall (eo (fn := Tryz.f66) (n := 28) (m := 100) fun Γ => Dm.body h) (by kernel_rfl)
structure Ar where
 A7 : (List Aa) → Option Bool
 Bd : (List Aa) → Option Bool
 Bq : Aa → Option Bool
 Ao : Aa → Option Bool
structure Ar.Ok (R : Ar) : Prop where
 A7 : ∀ {p0 : List Aa} {r : Bool}, R.A7 p0 = some r → ECall V P 68 [.cv (.ro .Ad p0)] [] [] (.B r) []
 Bd : ∀ {p0 : List Aa} {r : Bool}, R.Bd p0 = some r → ECall V P 124 [.cv (.ro .Ad p0)] [] [] (.B r) []
 Bq : ∀ {p0 : Aa} {r : Bool}, R.Bq p0 = some r → ECall V P 96 [.agg (Ae p0)] [] [] (.B r) []
 Ao : ∀ {p0 : Aa} {r : Bool}, R.Ao p0 = some r → ECall V P 67 [.agg (Ae p0)] [] [] (.B r) []
theorem A7.okR {R : Ar} (hR : R.Ok) {p0 : List Aa} {r : Bool} (h : R.A7 p0 = some r) : PCall V P 68 [.cv (.ro .Ad p0)] (.B r) := (hR.A7 h).pcall (by kernel_rfl)
theorem Bd.okR {R : Ar} (hR : R.Ok) {p0 : List Aa} {r : Bool} (h : R.Bd p0 = some r) : PCall V P 124 [.cv (.ro .Ad p0)] (.B r) := (hR.Bd h).pcall (by kernel_rfl)
theorem Bq.okR {R : Ar} (hR : R.Ok) {p0 : Aa} {r : Bool} (h : R.Bq p0 = some r) : PCall V P 96 [.agg (Ae p0)] (.B r) := (hR.Bq h).pcall (by kernel_rfl)
theorem Ao.okR {R : Ar} (hR : R.Ok) {p0 : Aa} {r : Bool} (h : R.Ao p0 = some r) : PCall V P 67 [.agg (Ae p0)] (.B r) := (hR.Ao h).pcall (by kernel_rfl)
def A7.l7 (K : Nat) (R : Ar) (p0 : List Aa) : Nat → Int → Option (Out Bool Unit)
 | 0, _ => none
 | k + 1, xt3_7h => (if xt3_7h < (p0.length : Int) then (if (0 : Int) ≤ xt3_7h ∧ (xt3_7h : Int) < (p0.length : Int) then (Option.bind (R.Ao (p0.getD (Int.toNat xt3_7h) Ai)) (fun a1 => (if a1 = true then A7.l7 K R p0 k (IntKind.i64.wrap (xt3_7h + 1)) else some (Out.done false)))) else none) else some (Out.go ()))
def A7.F (K : Nat) (R : Ar) (p0 : List Aa) : Option Bool := (obind (A7.l7 K R p0 K 0 : Option (Out Bool Unit)) (fun r => r) (fun _ => some true))
theorem A7.body {Γ : Ent} {K : Nat} {R : Ar} (hR : R.Ok) {p0 : List Aa} {r : Bool} (h : A7.F K R p0 = some r) : AWp V P 16 100 Γ (Tryz.f68.body.getD .skip) (EndsE P V Tryz.f68 (.B r) []) ⟨args0 0 [.cv (.ro .Ad p0)], []⟩ := by
 unfold A7.F at h
 refine sg0 L 200 <| awp_seq <| sg0 L 202 <| awp_block <| kp (S' := ⟨[(0, .cv (.ro .Ad p0)), (3, .I 0)], []⟩) ?_
 obtain ⟨o1, hp1, h⟩ := obind_some h
 refine awp_conseq (Q' := fun e S => (e = .exit 0 ∧ S = ⟨[], []⟩ ∧ Out.go () = o1) ∨ (e = .ret ∧ ∃ a, Out.done a = o1 ∧ EndsE P V Tryz.f68 (.B a) [] .ret S)) (awp_loop (fun k S => ∃ xt3_7h : Int, S = ⟨[(0, .cv (.ro .Ad p0)), (3, .I xt3_7h)], []⟩ ∧ A7.l7 K R p0 k xt3_7h = some o1) ?_ ⟨_, rfl, hp1⟩) ?_
 ·clear h hp1
  intro k S hS
  obtain ⟨xt3_7h, rfl, h⟩ := hS
  cases k with
  | zero => cases h
  | succ k =>
  unfold A7.l7 at h
  refine awp_seq <| sg0 L 204 ?_
  rcases ite_some h with ⟨c1, h⟩ | ⟨c1, h⟩
  ·refine tT c1 <| awp_skip' <| awp_seq <| awp_block <| awp_seq ?_
   obtain ⟨g1, h⟩ := guard_some h
   obtain ⟨a1, h1, h⟩ := bind_some h
   refine rg L 209 [] [(4, .B a1)] [] (plc g1.1 (plc g1.2 (plc (Ao.okR hR h1) (pl1 trivial)))) ?_
   rcases ite_some h with ⟨c2, h⟩ | ⟨c2, h⟩
   ·refine ff (b := (!a1)) (congrArg Bool.not (c2)) ?_
    refine awp_skip' <| ar0 L 218 [] [] [] (S' := ⟨[(0, .cv (.ro .Ad p0)), (3, .I (IntKind.i64.wrap (xt3_7h + 1)))], []⟩) ?_
    exact ⟨k, Nat.lt_succ_self k, _, rfl, h⟩
   refine tt (b := (!a1)) (congrArg Bool.not (eq_false_of_ne_true c2)) ?_
   refine sg0 L 216 <| awp_ret ?_
   cases h
   exact .inr ⟨rfl, _, rfl, er0⟩
  refine fF c1 <| ex (S' := ⟨[], []⟩) ?_
  cases h
  exact .inl ⟨rfl, rfl, rfl⟩
 ·rintro e S (⟨rfl, rfl, rfl⟩ | ⟨rfl, a, rfl, hr⟩)
  ·rcases h with ⟨_, e1, h⟩ | ⟨_, e1, h⟩
   ·cases e1
   ·have e2 := Out.go.inj e1
    subst e2
    refine ⟨_, Turns.refl, ?_⟩
    refine sg0 L 222 <| awp_ret ?_
    cases h
    exact er0
  ·rcases h with ⟨_, e1, h⟩ | ⟨_, e1, h⟩
   ·have e2 := Out.done.inj e1
    subst e2
    subst h
    exact ⟨_, Turns.refl, hr⟩
   ·cases e1
end Go.Proofs.YtifjagfmfkemmaaGreatDoor
