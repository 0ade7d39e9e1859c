/- What functions of the program compute, as Lean functions, and that they compute it. -/
import Derived.Test.YtifjagfmfkemmaaGreatDoorFn1
set_option linter.unusedVariables false
set_option maxHeartbeats 0
namespace Go.Proofs.YtifjagfmfkemmaaGreatDoor
open Eng
def Bu (K : Nat) (p0 : Ab) : Option (Int ⊕ (Aa × Ab)) := (Option.bind (Au K p0) (fun a1 => match a1 with | (Sum.inl a1) => some (Sum.inl a1) | (Sum.inr (a1_0, a1_1)) => (Option.bind (Al K ([59] : List UInt8) a1_1) (fun a2 => match a2 with | (Sum.inl a2) => some (Sum.inr (a1_0, a2)) | (Sum.inr a2) => some (Sum.inl a2)))))
def Bu.rep (p0 : Ab) : Int ⊕ (Aa × Ab) → Outc T
 | (Sum.inl v0) => .pan (ofi 49 v0)
 | (Sum.inr (v0, v1)) => .ret (.agg [.I v0.Op, .str v0.Name, .I v0.Int, .str v0.Text, .ro .Ad v0.Kids])
def Bu.post (p0 : Ab) : Int ⊕ (Aa × Ab) → List (Nat × Blk T)
 | (Sum.inl v0) => []
 | (Sum.inr (v0, v1)) => [(0, .raw [.ro .Ax v1.l, .I v1.i])]
theorem Bu.body {Γ : Ent} {K : Nat} {p0 : Ab} {r : Int ⊕ (Aa × Ab)} (h : Bu K p0 = some r) : AWp V P 9 100 Γ (Tryz.f104.body.getD .skip) (EndsX P V Tryz.f104 (Bu.rep p0 r) (Bu.post p0 r)) ⟨args0 0 [.P 0], [(0, .raw (Ac p0))]⟩ := by
 unfold Bu at h
 refine sg0 L 200 <| awp_seq ?_
 obtain ⟨a1, h1, h⟩ := bind_some h
 rcases a1 with a1 | a1
 ·dsimp only at h
  refine qn L 202 [] [] [] 1 (ef0 (.tup []) []) (ofi 49 a1) (pl1 (Au.okE h1)) ?_
  cases h
  exact rfl
 ·obtain ⟨a1_0, a1_1⟩ := a1
  dsimp only at h
  refine rg L 202 [] [] [(1, (ef0 (.agg (Ae a1_0)) [(0, .raw (Ac a1_1))]))] (pl1 (Au.okE h1)) ?_
  refine awp_seq ?_
  obtain ⟨a2, h2, h⟩ := bind_some h
  rcases a2 with a2 | a2
  ·dsimp only at h
   refine rg L 207 [] [] [(1, (ef0 (.tup []) [(0, .raw (Ac a2))]))] (pl1 (Al.okE h2)) ?_
   refine sg0 L 210 <| awp_turn (Turns.trans (Turns.kk [2] [0, 200]) (Turns.rr [(0, 0), (200, 100)])) ?_
   refine awp_ret ?_
   cases h
   exact xr0
  ·obtain ⟨a2, rfl⟩ : ∃ z, z = a2 := ⟨_, rfl⟩
   dsimp only at h
   refine qn L 207 [] [] [] 1 (ef0 (.tup []) []) (ofi 49 a2) (pl1 (Al.okE h2)) ?_
   cases h
   exact rfl
theorem Bu.okE {K : Nat} {p0 : Ab} {r : Int ⊕ (Aa × Ab)} (h : Bu K p0 = some r) : XCall V P 104 [.P 0] [(0, .raw (Ac p0))] [0] (Bu.post p0 r) (Bu.rep p0 r) :=
 xo (fn := Tryz.f104) (n := 9) (m := 100) fun Γ => Bu.body h
def Cp (K : Nat) (p0 : Ab) : Option (Int ⊕ (Aa × Ab)) := (if (0 : Int) ≤ (if (IntKind.i64.wrap ((p0.l.length : Int) - 1)) < (IntKind.i64.wrap (p0.i + 1)) then (IntKind.i64.wrap ((p0.l.length : Int) - 1)) else (IntKind.i64.wrap (p0.i + 1))) ∧ ((if (IntKind.i64.wrap ((p0.l.length : Int) - 1)) < (IntKind.i64.wrap (p0.i + 1)) then (IntKind.i64.wrap ((p0.l.length : Int) - 1)) else (IntKind.i64.wrap (p0.i + 1))) : Int) < (p0.l.length : Int) then (Option.bind (((Option.bind (Bo K p0) (fun a1 => (if a1.Kind = 1 then (if ((p0.l.getD (Int.toNat (if (IntKind.i64.wrap ((p0.l.length : Int) - 1)) < (IntKind.i64.wrap (p0.i + 1)) then (IntKind.i64.wrap ((p0.l.length : Int) - 1)) else (IntKind.i64.wrap (p0.i + 1)))) Fd)).Kind = 5 then some ((decide (((p0.l.getD (Int.toNat (if (IntKind.i64.wrap ((p0.l.length : Int) - 1)) < (IntKind.i64.wrap (p0.i + 1)) then (IntKind.i64.wrap ((p0.l.length : Int) - 1)) else (IntKind.i64.wrap (p0.i + 1)))) Fd)).Text = ([61] : List UInt8)))) else some false) else some false)))) : Option Bool) (fun xt36_6 => (if xt36_6 = true then (Option.bind (Aq K p0) (fun a2 => match a2 with | (Sum.inl a2) => some (Sum.inl a2) | (Sum.inr (a2_0, a2_1)) => (Option.bind (Bu K (⟨a2_1.l, (IntKind.i64.wrap (a2_1.i + 1))⟩ : Ab)) (fun a3 => match a3 with | (Sum.inl a3) => some (Sum.inl a3) | (Sum.inr (a3_0, a3_1)) => some (Sum.inr ((⟨41, a2_0, 0, [], ([(⟨a3_0.Op, a3_0.Name, a3_0.Int, a3_0.Text, a3_0.Kids⟩ : Aa)] : List Aa)⟩ : Aa), a3_1)))))) else (Option.bind (Bu K p0) (fun a4 => match a4 with | (Sum.inl a4) => some (Sum.inl a4) | (Sum.inr (a4_0, a4_1)) => (Option.bind (Cl K 52 ([(⟨a4_0.Op, a4_0.Name, a4_0.Int, a4_0.Text, a4_0.Kids⟩ : Aa)] : List Aa)) (fun a5 => some (Sum.inr (a5, a4_1))))))))) else none)
def Cp.rep (p0 : Ab) : Int ⊕ (Aa × Ab) → Outc T
 | (Sum.inl v0) => .pan (ofi 49 v0)
 | (Sum.inr (v0, v1)) => .ret (.agg [.I v0.Op, .str v0.Name, .I v0.Int, .str v0.Text, .ro .Ad v0.Kids])
def Cp.post (p0 : Ab) : Int ⊕ (Aa × Ab) → List (Nat × Blk T)
 | (Sum.inl v0) => []
 | (Sum.inr (v0, v1)) => [(0, .raw [.ro .Ax v1.l, .I v1.i])]
theorem Cp.body {Γ : Ent} {K : Nat} {p0 : Ab} {r : Int ⊕ (Aa × Ab)} (h : Cp K p0 = some r) : AWp V P 55 100 Γ (Tryz.f108.body.getD .skip) (EndsX P V Tryz.f108 (Cp.rep p0 r) (Cp.post p0 r)) ⟨args0 0 [.P 0], [(0, .raw (Ac p0))]⟩ := by
 unfold Cp at h
 refine sg0 L 200 <| awp_seq <| awp_seq ?_
 obtain ⟨g1, h⟩ := guard_some h
 refine rd L mixed 202 [] [] [] [220] 20 (pl2 g1.1 g1.2) ?_
 obtain ⟨o1, hp1, h⟩ := bind_some h
 refine awp_seq (awp_mono (Q' := fun e S => (e = .normal ∧ ∃ xt36_6 : Bool, S = ⟨[(0, .P 0), (2, .P 21200), (36, .B xt36_6)], [(0, .raw (Ac p0)), (21200, .raw [.I 0, .str [], .I 0, .str [], .N])]⟩ ∧ xt36_6 = o1)) ?_ ?_)
 ·clear h
  replace h := hp1
  obtain ⟨a1, h1, h⟩ := bind_some h
  rcases ite_some h with ⟨c1, h⟩ | ⟨c1, h⟩
  ·rcases ite_some h with ⟨c2, h⟩ | ⟨c2, h⟩
   ·refine awp_post (rg L 223 [(4, true), (9, true)] [(1, .agg (Dp a1))] [] (plc (Bo.ok h1) (plc trivial (plc (decide_eq_true c1) (pl1 (decide_eq_true c2))))) ⟨rfl, rfl⟩) (Turns.trans (Turns.kk [0, 2, 36] [0, 200]) (Turns.trans (Turns.rr [(0, 0), (200, 21200)]) (Turns.kp (S' := ⟨[(0, .P 0), (2, .P 21200), (36, .B ((decide (((p0.l.getD (Int.toNat (if (IntKind.i64.wrap ((p0.l.length : Int) - 1)) < (IntKind.i64.wrap (p0.i + 1)) then (IntKind.i64.wrap ((p0.l.length : Int) - 1)) else (IntKind.i64.wrap (p0.i + 1)))) Fd)).Text = ([61] : List UInt8)))))], [(0, .raw (Ac p0)), (21200, .raw [.I 0, .str [], .I 0, .str [], .N])]⟩)))) ?_
    cases h
    exact ⟨rfl, _, rfl, rfl⟩
   refine awp_post (rg L 223 [(4, true), (9, false)] [(1, .agg (Dp a1))] [] (plc (Bo.ok h1) (plc trivial (plc (decide_eq_true c1) (pl1 (decide_eq_false c2))))) ⟨rfl, rfl⟩) (Turns.trans (Turns.kk [0, 2, 36] [0, 200]) (Turns.trans (Turns.rr [(0, 0), (200, 21200)]) (Turns.kp (S' := ⟨[(0, .P 0), (2, .P 21200), (36, .B false)], [(0, .raw (Ac p0)), (21200, .raw [.I 0, .str [], .I 0, .str [], .N])]⟩)))) ?_
   cases h
   exact ⟨rfl, _, rfl, rfl⟩
  refine awp_post (rg L 223 [(4, false)] [(1, .agg (Dp a1))] [] (plc (Bo.ok h1) (plc trivial (pl1 (decide_eq_false c1)))) ⟨rfl, rfl⟩) (Turns.trans (Turns.kk [0, 2, 36] [0, 200]) (Turns.trans (Turns.rr [(0, 0), (200, 21200)]) (Turns.kp (S' := ⟨[(0, .P 0), (2, .P 21200), (36, .B false)], [(0, .raw (Ac p0)), (21200, .raw [.I 0, .str [], .I 0, .str [], .N])]⟩)))) ?_
  cases h
  exact ⟨rfl, _, rfl, rfl⟩
 ·rintro e S ⟨rfl, xt36_6, rfl, rfl⟩
  rcases ite_some h with ⟨c3, h⟩ | ⟨c3, h⟩
  ·refine tt c3 <| awp_seq ?_
   obtain ⟨a2, h2, h⟩ := bind_some h
   rcases a2 with a2 | a2
   ·dsimp only at h
    refine qn L 238 [] [] [] 1 (ef0 (.tup []) []) (ofi 49 a2) (pl1 (Aq.okE h2)) ?_
    cases h
    exact rfl
   ·obtain ⟨a2_0, a2_1⟩ := a2
    dsimp only at h
    refine rg L 238 [] [] [(1, (ef0 (.cv (.str a2_0)) [(0, .raw (Ac a2_1))]))] (pl1 (Aq.okE h2)) ?_
    refine sg0 L 242 <| awp_seq ?_
    obtain ⟨a3, h3, h⟩ := bind_some h
    rcases a3 with a3 | a3
    ·dsimp only at h
     refine qn L 251 [] [] [] 2 (ef0 (.tup []) []) (ofi 49 a3) (pl1 (Bu.okE h3)) ?_
     cases h
     exact rfl
    ·obtain ⟨a3_0, a3_1⟩ := a3
     dsimp only at h
     refine rg L 251 [] [] [(2, (ef0 (.agg (Ae a3_0)) [(0, .raw (Ac a3_1))]))] (pl1 (Bu.okE h3)) ?_
     refine awp_turn (Turns.trans (Turns.kk [2] [0, 21200]) (Turns.rr [(0, 0), (21200, 100)])) ?_
     refine awp_ret ?_
     cases h
     exact xr0
  refine fN c3 <| awp_skip' <| awp_seq ?_
  obtain ⟨a4, h4, h⟩ := bind_some h
  rcases a4 with a4 | a4
  ·dsimp only at h
   refine qn L 258 [] [] [] 1 (ef0 (.tup []) []) (ofi 49 a4) (pl1 (Bu.okE h4)) ?_
   cases h
   exact rfl
  ·obtain ⟨a4_0, a4_1⟩ := a4
   dsimp only at h
   obtain ⟨a5, h5, h⟩ := bind_some h
   refine rg L 258 [] [(3, .agg (Ae a5))] [(1, (ef0 (.agg (Ae a4_0)) [(0, .raw (Ac a4_1))]))] (plc (Bu.okE h4) (plc (Cl.ok h5) (pl1 trivial))) ?_
   refine awp_turn (Turns.trans (Turns.kk [2] [0, 21200]) (Turns.rr [(0, 0), (21200, 100)])) ?_
   refine awp_ret ?_
   cases h
   exact xr0
theorem Cp.okE {K : Nat} {p0 : Ab} {r : Int ⊕ (Aa × Ab)} (h : Cp K p0 = some r) : XCall V P 108 [.P 0] [(0, .raw (Ac p0))] [0] (Cp.post p0 r) (Cp.rep p0 r) :=
 xo (fn := Tryz.f108) (n := 55) (m := 100) fun Γ => Cp.body h
def E2 (K : Nat) (p0 : Int) (p1 : List Aa) : Option (List Aa) := some p1
theorem E2.body {Γ : Ent} {K : Nat} {p0 : Int} {p1 : List Aa} {r : List Aa} (h : E2 K p0 p1 = some r) : AWp V P 8 100 Γ (Tryz.f75.body.getD .skip) (EndsE P V Tryz.f75 (.agg [.I p0, .str [], .I 0, .str [], .own .Ad 0]) [(0, .lst .Ad r)]) ⟨args0 0 [.I p0, .cv (.own .Ad 0)], [(0, .lst .Ad p1)]⟩ := by
 unfold E2 at h
 refine sg0 L 200 <| sg0 L 202 <| awp_turn (Turns.trans (Turns.kk [4] [0, 200]) (Turns.rr [(0, 0), (200, 100)])) ?_
 refine awp_ret ?_
 cases h
 exact er0
theorem E2.okE {K : Nat} {p0 : Int} {p1 : List Aa} {r : List Aa} (h : E2 K p0 p1 = some r) : ECall V P 75 [.I p0, .cv (.own .Ad 0)] [(0, .lst .Ad p1)] [0] (.agg [.I p0, .str [], .I 0, .str [], .own .Ad 0]) [(0, .lst .Ad r)] :=
 eo (fn := Tryz.f75) (n := 8) (m := 100) fun Γ => E2.body h
def A1.rep (p0 : Ab) : Int ⊕ (Aa × Ab) → Outc T
 | (Sum.inl v0) => .pan (ofi 49 v0)
 | (Sum.inr (v0, v1)) => .ret (.agg [.I v0.Op, .str v0.Name, .I v0.Int, .str v0.Text, .ro .Ad v0.Kids])
def A1.post (p0 : Ab) : Int ⊕ (Aa × Ab) → List (Nat × Blk T)
 | (Sum.inl v0) => []
 | (Sum.inr (v0, v1)) => [(0, .raw [.ro .Ax v1.l, .I v1.i])]
def A2.rep (p0 : Ab) : Int ⊕ (Aa × Ab) → Outc T
 | (Sum.inl v0) => .pan (ofi 49 v0)
 | (Sum.inr (v0, v1)) => .ret (.agg [.I v0.Op, .str v0.Name, .I v0.Int, .str v0.Text, .ro .Ad v0.Kids])
def A2.post (p0 : Ab) : Int ⊕ (Aa × Ab) → List (Nat × Blk T)
 | (Sum.inl v0) => []
 | (Sum.inr (v0, v1)) => [(0, .raw [.ro .Ax v1.l, .I v1.i])]
def Bc.rep (p0 : Ab) : Int ⊕ (Aa × Ab) → Outc T
 | (Sum.inl v0) => .pan (ofi 49 v0)
 | (Sum.inr (v0, v1)) => .ret (.agg [.I v0.Op, .str v0.Name, .I v0.Int, .str v0.Text, .ro .Ad v0.Kids])
def Bc.post (p0 : Ab) : Int ⊕ (Aa × Ab) → List (Nat × Blk T)
 | (Sum.inl v0) => []
 | (Sum.inr (v0, v1)) => [(0, .raw [.ro .Ax v1.l, .I v1.i])]
def Ak.rep (p0 : Ab) : Int ⊕ (Aa × Ab) → Outc T
 | (Sum.inl v0) => .pan (ofi 49 v0)
 | (Sum.inr (v0, v1)) => .ret (.agg [.I v0.Op, .str v0.Name, .I v0.Int, .str v0.Text, .ro .Ad v0.Kids])
def Ak.post (p0 : Ab) : Int ⊕ (Aa × Ab) → List (Nat × Blk T)
 | (Sum.inl v0) => []
 | (Sum.inr (v0, v1)) => [(0, .raw [.ro .Ax v1.l, .I v1.i])]
structure A5 where
 A1 : Ab → Option (Int ⊕ (Aa × Ab))
 A2 : Ab → Option (Int ⊕ (Aa × Ab))
 Bc : Ab → Option (Int ⊕ (Aa × Ab))
 Ak : Ab → Option (Int ⊕ (Aa × Ab))
structure A5.Ok (R : A5) : Prop where
 A1 : ∀ {p0 : Ab} {r : Int ⊕ (Aa × Ab)}, R.A1 p0 = some r → XCall V P 105 [.P 0] [(0, .raw (Ac p0))] [0] (A1.post p0 r) (A1.rep p0 r)
 A2 : ∀ {p0 : Ab} {r : Int ⊕ (Aa × Ab)}, R.A2 p0 = some r → XCall V P 107 [.P 0] [(0, .raw (Ac p0))] [0] (A2.post p0 r) (A2.rep p0 r)
 Bc : ∀ {p0 : Ab} {r : Int ⊕ (Aa × Ab)}, R.Bc p0 = some r → XCall V P 77 [.P 0] [(0, .raw (Ac p0))] [0] (Bc.post p0 r) (Bc.rep p0 r)
 Ak : ∀ {p0 : Ab} {r : Int ⊕ (Aa × Ab)}, R.Ak p0 = some r → XCall V P 50 [.P 0] [(0, .raw (Ac p0))] [0] (Ak.post p0 r) (Ak.rep p0 r)
def A1.F (K : Nat) (R : A5) (p0 : Ab) : Option (Int ⊕ (Aa × Ab)) := (Option.bind (Au K p0) (fun a1 => match a1 with | (Sum.inl a1) => some (Sum.inl a1) | (Sum.inr (a1_0, a1_1)) => (Option.bind (R.Ak a1_1) (fun a2 => match a2 with | (Sum.inl a2) => some (Sum.inl a2) | (Sum.inr (a2_0, a2_1)) => (Option.bind (E2 K 42 ([(⟨a1_0.Op, a1_0.Name, a1_0.Int, a1_0.Text, a1_0.Kids⟩ : Aa), (⟨a2_0.Op, a2_0.Name, a2_0.Int, a2_0.Text, a2_0.Kids⟩ : Aa)] : List Aa)) (fun a3 => (Option.bind (Aj K ([101, 108, 115, 101] : List UInt8) a2_1) (fun (a4_0, a4_1) => (if a4_0 = true then (Option.bind (Aj K ([105, 102] : List UInt8) a4_1) (fun (a5_0, a5_1) => (if a5_0 = true then (Option.bind (R.A1 a5_1) (fun a6 => match a6 with | (Sum.inl a6) => some (Sum.inl a6) | (Sum.inr (a6_0, a6_1)) => (if (a3.length + ([(⟨a6_0.Op, a6_0.Name, a6_0.Int, a6_0.Text, a6_0.Kids⟩ : Aa)] : List Aa).length) * 72 ≤ 140737488355328 then some ((Sum.inr ((⟨42, [], 0, [], (a3 ++ ([(⟨a6_0.Op, a6_0.Name, a6_0.Int, a6_0.Text, a6_0.Kids⟩ : Aa)] : List Aa))⟩ : Aa), a6_1))) else none))) else (Option.bind (R.Ak a5_1) (fun a7 => match a7 with | (Sum.inl a7) => some (Sum.inl a7) | (Sum.inr (a7_0, a7_1)) => (if (a3.length + ([(⟨a7_0.Op, a7_0.Name, a7_0.Int, a7_0.Text, a7_0.Kids⟩ : Aa)] : List Aa).length) * 72 ≤ 140737488355328 then some ((Sum.inr ((⟨42, [], 0, [], (a3 ++ ([(⟨a7_0.Op, a7_0.Name, a7_0.Int, a7_0.Text, a7_0.Kids⟩ : Aa)] : List Aa))⟩ : Aa), a7_1))) else none)))))) else some (Sum.inr ((⟨42, [], 0, [], a3⟩ : Aa), a4_1)))))))))))
theorem A1.body {Γ : Ent} {K : Nat} {R : A5} (hR : R.Ok) {p0 : Ab} {r : Int ⊕ (Aa × Ab)} (h : A1.F K R p0 = some r) : AWp V P 31 100 Γ (Tryz.f105.body.getD .skip) (EndsX P V Tryz.f105 (A1.rep p0 r) (A1.post p0 r)) ⟨args0 0 [.P 0], [(0, .raw (Ac p0))]⟩ := by
 unfold A1.F at h
 refine sg0 L 200 <| awp_seq ?_
 obtain ⟨a1, h1, h⟩ := bind_some h
 rcases a1 with a1 | a1
 ·dsimp only at h
  refine qn L 100202 [] [] [] 1 (ef0 (.tup []) []) (ofi 49 a1) (pl1 (Au.okE h1)) ?_
  cases h
  exact rfl
 ·obtain ⟨a1_0, a1_1⟩ := a1
  dsimp only at h
  obtain ⟨a2, h2, h⟩ := bind_some h
  rcases a2 with a2 | a2
  ·dsimp only at h
   refine qn L 100202 [] [] [(1, (ef0 (.agg (Ae a1_0)) [(0, .raw (Ac a1_1))]))] 3 (ef0 (.tup []) []) (ofi 49 a2) (pl2 (Au.okE h1) (hR.Ak h2)) ?_
   cases h
   exact rfl
  ·obtain ⟨a2_0, a2_1⟩ := a2
   dsimp only at h
   obtain ⟨a3, h3, h⟩ := bind_some h
   refine rg L 100202 [] [] [(1, (ef0 (.agg (Ae a1_0)) [(0, .raw (Ac a1_1))])), (3, (ef0 (.agg (Ae a2_0)) [(0, .raw (Ac a2_1))])), (5, (ef [0] [0] (.agg [.I 42, .str [], .I 0, .str [], .own .Ad 0]) [(0, .lst .Ad a3)] [(0, 100206)]))] (plc (Au.okE h1) (plc (hR.Ak h2) (pl1 (E2.okE h3)))) ?_
   refine awp_seq <| awp_seq ?_
   obtain ⟨⟨a4_0, a4_1⟩, h4, h⟩ := bind_some h
   dsimp only at h
   refine rg L 211 [] [] [(1, (ef0 (.B a4_0) [(0, .raw (Ac a4_1))]))] (pl1 (Aj.okE h4)) ?_
   rcases ite_some h with ⟨c1, h⟩ | ⟨c1, h⟩
   ·refine ff (b := (!a4_0)) (congrArg Bool.not (c1)) ?_
    refine awp_skip' <| awp_seq <| awp_seq ?_
    obtain ⟨⟨a5_0, a5_1⟩, h5, h⟩ := bind_some h
    dsimp only at h
    refine rg L 218 [] [] [(1, (ef0 (.B a5_0) [(0, .raw (Ac a5_1))]))] (pl1 (Aj.okE h5)) ?_
    rcases ite_some h with ⟨c2, h⟩ | ⟨c2, h⟩
    ·refine tt c2 ?_
     obtain ⟨a6, h6, h⟩ := bind_some h
     rcases a6 with a6 | a6
     ·dsimp only at h
      refine qP L mixed 221 [] [] [] [0, 2] 3 (ef0 (.tup []) []) (ofi 49 a6) (pl2 (hR.A1 h6) (hR.A1 h6)) ?_
      cases h
      exact rfl
     ·obtain ⟨a6_0, a6_1⟩ := a6
      dsimp only at h
      obtain ⟨g1, h⟩ := guard_some h
      refine hB L mixed 221 [] [] [(3, (ef0 (.agg (Ae a6_0)) [(0, .raw (Ac a6_1))]))] [0, 2] 3 (plc (hR.A1 h6) (plc g1 (plc trivial (plc (hR.A1 h6) (plc g1 (plc trivial (plc g1 (pl1 trivial)))))))) (S' := ⟨[(2, .P 200), (3, .P 100208)], [(0, .raw (Ac a6_1)), (200, .raw [.I 0, .str [], .I 0, .str [], .N]), (100206, .lst .Ad (a3 ++ ([(⟨a6_0.Op, a6_0.Name, a6_0.Int, a6_0.Text, a6_0.Kids⟩ : Aa)] : List Aa))), (100208, .raw [.I 42, .str [], .I 0, .str [], .own .Ad 100206])]⟩) ?_
      refine sg0 L 239 <| awp_turn (Turns.trans (Turns.kk [2] [0, 200, 100206]) (Turns.trans (Turns.fz 100206) (Turns.rr [(0, 0), (200, 100)]))) ?_
      refine awp_ret ?_
      cases h
      exact xr0
    refine fN c2 ?_
    obtain ⟨a7, h7, h⟩ := bind_some h
    rcases a7 with a7 | a7
    ·dsimp only at h
     refine qP L mixed 230 [] [] [] [0, 2] 3 (ef0 (.tup []) []) (ofi 49 a7) (pl2 (hR.Ak h7) (hR.Ak h7)) ?_
     cases h
     exact rfl
    ·obtain ⟨a7_0, a7_1⟩ := a7
     dsimp only at h
     obtain ⟨g2, h⟩ := guard_some h
     refine hB L mixed 230 [] [] [(3, (ef0 (.agg (Ae a7_0)) [(0, .raw (Ac a7_1))]))] [0, 2] 3 (plc (hR.Ak h7) (plc g2 (plc trivial (plc (hR.Ak h7) (plc g2 (plc trivial (plc g2 (pl1 trivial)))))))) (S' := ⟨[(2, .P 200), (3, .P 100208)], [(0, .raw (Ac a7_1)), (200, .raw [.I 0, .str [], .I 0, .str [], .N]), (100206, .lst .Ad (a3 ++ ([(⟨a7_0.Op, a7_0.Name, a7_0.Int, a7_0.Text, a7_0.Kids⟩ : Aa)] : List Aa))), (100208, .raw [.I 42, .str [], .I 0, .str [], .own .Ad 100206])]⟩) ?_
     refine sg0 L 239 <| awp_turn (Turns.trans (Turns.kk [2] [0, 200, 100206]) (Turns.trans (Turns.fz 100206) (Turns.rr [(0, 0), (200, 100)]))) ?_
     refine awp_ret ?_
     cases h
     exact xr0
   refine tt (b := (!a4_0)) (congrArg Bool.not (eq_false_of_ne_true c1)) ?_
   refine sg0 L 215 <| awp_turn (Turns.trans (Turns.kk [2] [0, 200, 100206]) (Turns.trans (Turns.fz 100206) (Turns.rr [(0, 0), (200, 100)]))) ?_
   refine awp_ret ?_
   cases h
   exact xr0
def A2.l9 (K : Nat) (R : A5) : Nat → (List Aw) → Int → (List Aa) → Option (Out (Int ⊕ (Aa × Ab)) ((List Aw) × Int × (List Aa)))
 | 0, _, _, _ => none
 | k + 1, xh0_0_9h, xh0_1_9h, x21902 => (Option.bind (Dw K (⟨xh0_0_9h, xh0_1_9h⟩ : Ab) ([99, 97, 115, 101] : List UInt8)) (fun a2 => (if a2 = true then (if (x21902.length : Int) = 16 then (Option.bind (Bj K (⟨xh0_0_9h, xh0_1_9h⟩ : Ab)) (fun a3 => some (Out.done (Sum.inl a3)))) else (obind (((if (0 : Int) ≤ (if (IntKind.i64.wrap ((xh0_0_9h.length : Int) - 1)) < (IntKind.i64.wrap ((IntKind.i64.wrap (xh0_1_9h + 1)) + 1)) then (IntKind.i64.wrap ((xh0_0_9h.length : Int) - 1)) else (IntKind.i64.wrap ((IntKind.i64.wrap (xh0_1_9h + 1)) + 1))) ∧ ((if (IntKind.i64.wrap ((xh0_0_9h.length : Int) - 1)) < (IntKind.i64.wrap ((IntKind.i64.wrap (xh0_1_9h + 1)) + 1)) then (IntKind.i64.wrap ((xh0_0_9h.length : Int) - 1)) else (IntKind.i64.wrap ((IntKind.i64.wrap (xh0_1_9h + 1)) + 1))) : Int) < (xh0_0_9h.length : Int) then (Option.bind (((Option.bind (Bo K (⟨xh0_0_9h, (IntKind.i64.wrap (xh0_1_9h + 1))⟩ : Ab)) (fun a4 => (if a4.Kind = 1 then (if ((xh0_0_9h.getD (Int.toNat (if (IntKind.i64.wrap ((xh0_0_9h.length : Int) - 1)) < (IntKind.i64.wrap ((IntKind.i64.wrap (xh0_1_9h + 1)) + 1)) then (IntKind.i64.wrap ((xh0_0_9h.length : Int) - 1)) else (IntKind.i64.wrap ((IntKind.i64.wrap (xh0_1_9h + 1)) + 1)))) Fd)).Kind = 5 then some ((decide (((xh0_0_9h.getD (Int.toNat (if (IntKind.i64.wrap ((xh0_0_9h.length : Int) - 1)) < (IntKind.i64.wrap ((IntKind.i64.wrap (xh0_1_9h + 1)) + 1)) then (IntKind.i64.wrap ((xh0_0_9h.length : Int) - 1)) else (IntKind.i64.wrap ((IntKind.i64.wrap (xh0_1_9h + 1)) + 1)))) Fd)).Text = ([61] : List UInt8)))) else some false) else some false)))) : Option Bool) (fun xt56_30 => (if xt56_30 = true then (Option.bind (Aq K (⟨xh0_0_9h, (IntKind.i64.wrap (xh0_1_9h + 1))⟩ : Ab)) (fun a5 => match a5 with | (Sum.inl a5) => some (Out.done (Sum.inl a5)) | (Sum.inr (a5_0, a5_1)) => some (Out.go (a5_1.l, (IntKind.i64.wrap (a5_1.i + 1)), a5_0)))) else some (Out.go (xh0_0_9h, (IntKind.i64.wrap (xh0_1_9h + 1)), []))))) else none)) : Option (Out (Int ⊕ (Aa × Ab)) ((List Aw) × Int × (List UInt8)))) Out.done (fun (xh0_0_27, xh0_1_27, x25402_1) => (Option.bind (Au K (⟨xh0_0_27, xh0_1_27⟩ : Ab)) (fun a6 => match a6 with | (Sum.inl a6) => some (Out.done (Sum.inl a6)) | (Sum.inr (a6_0, a6_1)) => (Option.bind (R.Ak a6_1) (fun a7 => match a7 with | (Sum.inl a7) => some (Out.done (Sum.inl a7)) | (Sum.inr (a7_0, a7_1)) => (if (x21902.length + ([(⟨50, x25402_1, 0, [], ([(⟨a6_0.Op, a6_0.Name, a6_0.Int, a6_0.Text, a6_0.Kids⟩ : Aa), (⟨a7_0.Op, a7_0.Name, a7_0.Int, a7_0.Text, a7_0.Kids⟩ : Aa)] : List Aa)⟩ : Aa)] : List Aa).length) * 72 ≤ 140737488355328 then A2.l9 K R k a7_1.l a7_1.i (x21902 ++ ([(⟨50, x25402_1, 0, [], ([(⟨a6_0.Op, a6_0.Name, a6_0.Int, a6_0.Text, a6_0.Kids⟩ : Aa), (⟨a7_0.Op, a7_0.Name, a7_0.Int, a7_0.Text, a7_0.Kids⟩ : Aa)] : List Aa)⟩ : Aa)] : List Aa)) else none)))))))) else some (Out.go (xh0_0_9h, xh0_1_9h, x21902)))))
def A2.F (K : Nat) (R : A5) (p0 : Ab) : Option (Int ⊕ (Aa × Ab)) := (Option.bind (Al K ([123] : List UInt8) p0) (fun a1 => match a1 with | (Sum.inl a1) => (obind (A2.l9 K R K a1.l a1.i ([] : List Aa) : Option (Out (Int ⊕ (Aa × Ab)) ((List Aw) × Int × (List Aa)))) (fun r => r) (fun (xh0_0_9, xh0_1_9, x21802) => (obind (((Option.bind (Aj K ([101, 108, 115, 101] : List UInt8) (⟨xh0_0_9, xh0_1_9⟩ : Ab)) (fun (a8_0, a8_1) => (if a8_0 = true then (Option.bind (R.Ak a8_1) (fun a9 => match a9 with | (Sum.inl a9) => some (Out.done (Sum.inl a9)) | (Sum.inr (a9_0, a9_1)) => (Option.bind (Cl K 51 ([(⟨a9_0.Op, a9_0.Name, a9_0.Int, a9_0.Text, a9_0.Kids⟩ : Aa)] : List Aa)) (fun a10 => (if (x21802.length + ([(⟨a10.Op, a10.Name, a10.Int, a10.Text, a10.Kids⟩ : Aa)] : List Aa).length) * 72 ≤ 140737488355328 then some (Out.go (a9_1.l, a9_1.i, (x21802 ++ ([(⟨a10.Op, a10.Name, a10.Int, a10.Text, a10.Kids⟩ : Aa)] : List Aa)))) else none))))) else some (Out.go (a8_1.l, a8_1.i, x21802)))))) : Option (Out (Int ⊕ (Aa × Ab)) ((List Aw) × Int × (List Aa)))) (fun r => r) (fun (xh0_0_40, xh0_1_40, x28002) => (if (x28002.length : Int) = 0 then (Option.bind (Bj K (⟨xh0_0_40, xh0_1_40⟩ : Ab)) (fun a11 => some (Sum.inl a11))) else (Option.bind (Al K ([125] : List UInt8) (⟨xh0_0_40, xh0_1_40⟩ : Ab)) (fun a12 => match a12 with | (Sum.inl a12) => some (Sum.inr ((⟨49, [], 0, [], x28002⟩ : Aa), a12)) | (Sum.inr a12) => some (Sum.inl a12)))))))) | (Sum.inr a1) => some (Sum.inl a1)))
theorem A2.body {Γ : Ent} {K : Nat} {R : A5} (hR : R.Ok) {p0 : Ab} {r : Int ⊕ (Aa × Ab)} (h : A2.F K R p0 = some r) : AWp V P 99 100 Γ (Tryz.f107.body.getD .skip) (EndsX P V Tryz.f107 (A2.rep p0 r) (A2.post p0 r)) ⟨args0 0 [.P 0], [(0, .raw (Ac p0))]⟩ := by
 unfold A2.F at h
 refine sg0 L 200 <| sg0 L 202 <| awp_seq ?_
 obtain ⟨a1, h1, h⟩ := bind_some h
 rcases a1 with a1 | a1
 ·dsimp only at h
  refine rg L 206 [] [] [(1, (ef0 (.tup []) [(0, .raw (Ac a1))]))] (pl1 (Al.okE h1)) ?_
  refine awp_seq <| awp_block <| awp_turn (Turns.trans (Turns.kk [0, 2, 3] [0, 200, 203]) (Turns.trans (Turns.nc 203 4 9500 Tag.Ad) (Turns.trans (Turns.kk [0, 2, 3] [0, 200, 203, 9500]) (Turns.rr [(0, 0), (200, 21900), (203, 21901), (9500, 21902)])))) ?_
  refine kp (S' := ⟨[(0, .P 0), (2, .P 21900), (3, .P 21901)], [(0, .raw (Ac a1)), (21900, .raw [.I 0, .str [], .I 0, .str [], .N]), (21901, .raw [.I 49, .str [], .I 0, .str [], .own .Ad 21902]), (21902, .lst .Ad ([] : List Aa))]⟩) ?_
  obtain ⟨o3, hp3, h⟩ := obind_some h
  refine awp_conseq (Q' := fun e S => (e = .exit 0 ∧ ∃ xh0_0_9 : List Aw, ∃ xh0_1_9 : Int, ∃ x21802 : List Aa, S = ⟨[(0, .P 0), (2, .P 21800), (3, .P 21801)], [(0, .raw [.ro .Ax xh0_0_9, .I xh0_1_9]), (21800, .raw [.I 0, .str [], .I 0, .str [], .N]), (21801, .raw [.I 49, .str [], .I 0, .str [], .own .Ad 21802]), (21802, .lst .Ad x21802)]⟩ ∧ Out.go (xh0_0_9, xh0_1_9, x21802) = o3) ∨ ((e = .ret ∨ ∃ ch, e = .panic ch) ∧ ∃ a, Out.done a = o3 ∧ EndsX P V Tryz.f107 (A2.rep p0 a) (A2.post p0 a) e S)) (awp_loop (fun k S => ∃ xh0_0_9h : List Aw, ∃ xh0_1_9h : Int, ∃ x21902 : List Aa, S = ⟨[(0, .P 0), (2, .P 21900), (3, .P 21901)], [(0, .raw [.ro .Ax xh0_0_9h, .I xh0_1_9h]), (21900, .raw [.I 0, .str [], .I 0, .str [], .N]), (21901, .raw [.I 49, .str [], .I 0, .str [], .own .Ad 21902]), (21902, .lst .Ad x21902)]⟩ ∧ A2.l9 K R k xh0_0_9h xh0_1_9h x21902 = some o3) ?_ ⟨_, _, _, rfl, hp3⟩) ?_
  ·clear h hp3
   intro k S hS
   obtain ⟨xh0_0_9h, xh0_1_9h, x21902, rfl, h⟩ := hS
   cases k with
   | zero => cases h
   | succ k =>
   unfold A2.l9 at h
   refine awp_seq <| awp_seq ?_
   obtain ⟨a2, h2, h⟩ := bind_some h
   refine rg L 209 [] [(1, .B a2)] [] (plt (Dw.ok h2)) ?_
   rcases ite_some h with ⟨c1, h⟩ | ⟨c1, h⟩
   ·refine tt c1 <| awp_skip' <| awp_block <| awp_seq <| sg0 L 212 ?_
    rcases ite_some h with ⟨c2, h⟩ | ⟨c2, h⟩
    ·refine tT c2 ?_
     obtain ⟨a3, h3, h⟩ := bind_some h
     refine qn L 217 [] [] [] 1 (ef0 (.tup []) []) (ofi 49 a3) (pl1 (Bj.okE h3)) ?_
     cases h
     exact .inr ⟨.inr ⟨_, rfl⟩, _, rfl, rfl⟩
    refine fF c2 <| awp_skip' <| sg0 L 220 <| sg0 L 229 ?_
    obtain ⟨o2, hp2, h⟩ := obind_some h
    refine awp_seq (awp_mono (Q' := fun e S => (e = .normal ∧ ∃ xh0_0_27 : List Aw, ∃ xh0_1_27 : Int, ∃ x25402_1 : List UInt8, S = ⟨[(0, .P 0), (2, .P 25400), (3, .P 25401), (4, .P 25402)], [(0, .raw [.ro .Ax xh0_0_27, .I xh0_1_27]), (25400, .raw [.I 0, .str [], .I 0, .str [], .N]), (25401, .raw [.I 49, .str [], .I 0, .str [], .own .Ad 25403]), (25402, .raw [.I 50, .str x25402_1, .I 0, .str [], .N]), (25403, .lst .Ad x21902)]⟩ ∧ Out.go (xh0_0_27, xh0_1_27, x25402_1) = o2) ∨ ((e = .ret ∨ ∃ ch, e = .panic ch) ∧ ∃ a, Out.done a = o2 ∧ EndsX P V Tryz.f107 (A2.rep p0 a) (A2.post p0 a) e S)) ?_ ?_)
    ·clear h
     replace h := hp2
     refine awp_seq ?_
     obtain ⟨g1, h⟩ := guard_some h
     refine rd L mixed 233 [] [] [] [251] 20 (pl2 g1.1 g1.2) ?_
     obtain ⟨o1, hp1, h⟩ := bind_some h
     refine awp_seq (awp_mono (Q' := fun e S => (e = .normal ∧ ∃ xt56_30 : Bool, S = ⟨[(0, .P 0), (2, .P 26000), (3, .P 26001), (4, .P 26002), (56, .B xt56_30)], [(0, .raw [.ro .Ax xh0_0_9h, .I (IntKind.i64.wrap (xh0_1_9h + 1))]), (26000, .raw [.I 0, .str [], .I 0, .str [], .N]), (26001, .raw [.I 49, .str [], .I 0, .str [], .own .Ad 26003]), (26002, .raw [.I 50, .str [], .I 0, .str [], .N]), (26003, .lst .Ad x21902)]⟩ ∧ xt56_30 = o1)) ?_ ?_)
     ·clear h
      replace h := hp1
      obtain ⟨a4, h4, h⟩ := bind_some h
      rcases ite_some h with ⟨c3, h⟩ | ⟨c3, h⟩
      ·rcases ite_some h with ⟨c4, h⟩ | ⟨c4, h⟩
       ·refine awp_post (rg L 254 [(4, true), (9, true)] [(1, .agg (Dp a4))] [] (plc (Bo.ok h4) (plc trivial (plc (decide_eq_true c3) (pl1 (decide_eq_true c4))))) ⟨rfl, rfl⟩) (Turns.trans (Turns.kk [0, 2, 3, 4, 56] [0, 230, 21900, 21901, 21902]) (Turns.trans (Turns.rr [(0, 0), (230, 26002), (21900, 26000), (21901, 26001), (21902, 26003)]) (Turns.kp (S' := ⟨[(0, .P 0), (2, .P 26000), (3, .P 26001), (4, .P 26002), (56, .B ((decide (((xh0_0_9h.getD (Int.toNat (if (IntKind.i64.wrap ((xh0_0_9h.length : Int) - 1)) < (IntKind.i64.wrap ((IntKind.i64.wrap (xh0_1_9h + 1)) + 1)) then (IntKind.i64.wrap ((xh0_0_9h.length : Int) - 1)) else (IntKind.i64.wrap ((IntKind.i64.wrap (xh0_1_9h + 1)) + 1)))) Fd)).Text = ([61] : List UInt8)))))], [(0, .raw [.ro .Ax xh0_0_9h, .I (IntKind.i64.wrap (xh0_1_9h + 1))]), (26000, .raw [.I 0, .str [], .I 0, .str [], .N]), (26001, .raw [.I 49, .str [], .I 0, .str [], .own .Ad 26003]), (26002, .raw [.I 50, .str [], .I 0, .str [], .N]), (26003, .lst .Ad x21902)]⟩)))) ?_
        cases h
        exact ⟨rfl, _, rfl, rfl⟩
       refine awp_post (rg L 254 [(4, true), (9, false)] [(1, .agg (Dp a4))] [] (plc (Bo.ok h4) (plc trivial (plc (decide_eq_true c3) (pl1 (decide_eq_false c4))))) ⟨rfl, rfl⟩) (Turns.trans (Turns.kk [0, 2, 3, 4, 56] [0, 230, 21900, 21901, 21902]) (Turns.trans (Turns.rr [(0, 0), (230, 26002), (21900, 26000), (21901, 26001), (21902, 26003)]) (Turns.kp (S' := ⟨[(0, .P 0), (2, .P 26000), (3, .P 26001), (4, .P 26002), (56, .B false)], [(0, .raw [.ro .Ax xh0_0_9h, .I (IntKind.i64.wrap (xh0_1_9h + 1))]), (26000, .raw [.I 0, .str [], .I 0, .str [], .N]), (26001, .raw [.I 49, .str [], .I 0, .str [], .own .Ad 26003]), (26002, .raw [.I 50, .str [], .I 0, .str [], .N]), (26003, .lst .Ad x21902)]⟩)))) ?_
       cases h
       exact ⟨rfl, _, rfl, rfl⟩
      refine awp_post (rg L 254 [(4, false)] [(1, .agg (Dp a4))] [] (plc (Bo.ok h4) (plc trivial (pl1 (decide_eq_false c3)))) ⟨rfl, rfl⟩) (Turns.trans (Turns.kk [0, 2, 3, 4, 56] [0, 230, 21900, 21901, 21902]) (Turns.trans (Turns.rr [(0, 0), (230, 26002), (21900, 26000), (21901, 26001), (21902, 26003)]) (Turns.kp (S' := ⟨[(0, .P 0), (2, .P 26000), (3, .P 26001), (4, .P 26002), (56, .B false)], [(0, .raw [.ro .Ax xh0_0_9h, .I (IntKind.i64.wrap (xh0_1_9h + 1))]), (26000, .raw [.I 0, .str [], .I 0, .str [], .N]), (26001, .raw [.I 49, .str [], .I 0, .str [], .own .Ad 26003]), (26002, .raw [.I 50, .str [], .I 0, .str [], .N]), (26003, .lst .Ad x21902)]⟩)))) ?_
      cases h
      exact ⟨rfl, _, rfl, rfl⟩
     ·rintro e S ⟨rfl, xt56_30, rfl, rfl⟩
      rcases ite_some h with ⟨c5, h⟩ | ⟨c5, h⟩
      ·refine tt c5 <| awp_seq ?_
       obtain ⟨a5, h5, h⟩ := bind_some h
       rcases a5 with a5 | a5
       ·dsimp only at h
        refine qn L 269 [] [] [] 1 (ef0 (.tup []) []) (ofi 49 a5) (pl1 (Aq.okE h5)) ?_
        cases h
        exact .inr ⟨.inr ⟨_, rfl⟩, _, rfl, rfl⟩
       ·obtain ⟨a5_0, a5_1⟩ := a5
        dsimp only at h
        refine rg L 269 [] [] [(1, (ef0 (.cv (.str a5_0)) [(0, .raw (Ac a5_1))]))] (pl1 (Aq.okE h5)) ?_
        refine awp_post (rg0 L 274 ⟨rfl, rfl⟩) (Turns.trans (Turns.kk [0, 2, 3, 4] [0, 26000, 26001, 26002, 26003]) (Turns.trans (Turns.rr [(0, 0), (26000, 25400), (26001, 25401), (26002, 25402), (26003, 25403)]) (Turns.kp (S' := ⟨[(0, .P 0), (2, .P 25400), (3, .P 25401), (4, .P 25402)], [(0, .raw [.ro .Ax a5_1.l, .I (IntKind.i64.wrap (a5_1.i + 1))]), (25400, .raw [.I 0, .str [], .I 0, .str [], .N]), (25401, .raw [.I 49, .str [], .I 0, .str [], .own .Ad 25403]), (25402, .raw [.I 50, .str a5_0, .I 0, .str [], .N]), (25403, .lst .Ad x21902)]⟩)))) ?_
        cases h
        exact .inl ⟨rfl, _, _, _, rfl, rfl⟩
      refine fN c5 <| awp_turn (Turns.trans (Turns.kk [0, 2, 3, 4] [0, 26000, 26001, 26002, 26003]) (Turns.rr [(0, 0), (26000, 25400), (26001, 25401), (26002, 25402), (26003, 25403)])) ?_
      refine sk (S' := ⟨[(0, .P 0), (2, .P 25400), (3, .P 25401), (4, .P 25402)], [(0, .raw [.ro .Ax xh0_0_9h, .I (IntKind.i64.wrap (xh0_1_9h + 1))]), (25400, .raw [.I 0, .str [], .I 0, .str [], .N]), (25401, .raw [.I 49, .str [], .I 0, .str [], .own .Ad 25403]), (25402, .raw [.I 50, .str [], .I 0, .str [], .N]), (25403, .lst .Ad x21902)]⟩) ?_
      cases h
      exact .inl ⟨rfl, _, _, _, rfl, rfl⟩
    ·rintro e S (⟨rfl, xh0_0_27, xh0_1_27, x25402_1, rfl, rfl⟩ | ⟨he, a, rfl, hr⟩)
     ·rcases h with ⟨_, e1, h⟩ | ⟨_, e1, h⟩
      ·cases e1
      ·have e2 := Out.go.inj e1
       subst e2
       dsimp only at h
       refine awp_seq ?_
       obtain ⟨a6, h6, h⟩ := bind_some h
       rcases a6 with a6 | a6
       ·dsimp only at h
        refine qn L 283 [] [] [] 1 (ef0 (.tup []) []) (ofi 49 a6) (pl1 (Au.okE h6)) ?_
        cases h
        exact .inr ⟨.inr ⟨_, rfl⟩, _, rfl, rfl⟩
       ·obtain ⟨a6_0, a6_1⟩ := a6
        dsimp only at h
        obtain ⟨a7, h7, h⟩ := bind_some h
        rcases a7 with a7 | a7
        ·dsimp only at h
         refine qn L 283 [] [] [(1, (ef0 (.agg (Ae a6_0)) [(0, .raw (Ac a6_1))]))] 3 (ef0 (.tup []) []) (ofi 49 a7) (pl2 (Au.okE h6) (hR.Ak h7)) ?_
         cases h
         exact .inr ⟨.inr ⟨_, rfl⟩, _, rfl, rfl⟩
        ·obtain ⟨a7_0, a7_1⟩ := a7
         dsimp only at h
         refine rg L 283 [] [] [(1, (ef0 (.agg (Ae a6_0)) [(0, .raw (Ac a6_1))])), (3, (ef0 (.agg (Ae a7_0)) [(0, .raw (Ac a7_1))]))] (pl2 (Au.okE h6) (hR.Ak h7)) ?_
         obtain ⟨g2, h⟩ := guard_some h
         refine awp_post (rg L 291 [] [] [] (plt g2) ⟨rfl, rfl⟩) (Turns.trans (Turns.kk [0, 2, 3] [0, 25400, 25401, 25403]) (Turns.trans (Turns.rr [(0, 0), (25400, 21900), (25401, 21901), (25403, 21902)]) (Turns.kp (S' := ⟨[(0, .P 0), (2, .P 21900), (3, .P 21901)], [(0, .raw (Ac a7_1)), (21900, .raw [.I 0, .str [], .I 0, .str [], .N]), (21901, .raw [.I 49, .str [], .I 0, .str [], .own .Ad 21902]), (21902, .lst .Ad (x21902 ++ ([(⟨50, x25402_1, 0, [], ([(⟨a6_0.Op, a6_0.Name, a6_0.Int, a6_0.Text, a6_0.Kids⟩ : Aa), (⟨a7_0.Op, a7_0.Name, a7_0.Int, a7_0.Text, a7_0.Kids⟩ : Aa)] : List Aa)⟩ : Aa)] : List Aa)))]⟩)))) ?_
         exact ⟨k, Nat.lt_succ_self k, _, _, _, rfl, h⟩
     ·rcases h with ⟨_, e1, h⟩ | ⟨_, e1, h⟩
      ·have e2 := Out.done.inj e1
       subst e2
       subst h
       rcases he with rfl | ⟨ch, rfl⟩
       ·exact .inr ⟨.inl rfl, _, rfl, hr⟩
       ·exact .inr ⟨.inr ⟨_, rfl⟩, _, rfl, hr⟩
      ·cases e1
   refine fN c1 <| awp_turn (Turns.trans (Turns.kk [0, 2, 3] [0, 21900, 21901, 21902]) (Turns.rr [(0, 0), (21900, 21800), (21901, 21801), (21902, 21802)])) ?_
   refine ex (S' := ⟨[(0, .P 0), (2, .P 21800), (3, .P 21801)], [(0, .raw [.ro .Ax xh0_0_9h, .I xh0_1_9h]), (21800, .raw [.I 0, .str [], .I 0, .str [], .N]), (21801, .raw [.I 49, .str [], .I 0, .str [], .own .Ad 21802]), (21802, .lst .Ad x21902)]⟩) ?_
   cases h
   exact .inl ⟨rfl, _, _, _, rfl, rfl⟩
  ·rintro e S (⟨rfl, xh0_0_9, xh0_1_9, x21802, rfl, rfl⟩ | ⟨he, a, rfl, hr⟩)
   ·rcases h with ⟨_, e1, h⟩ | ⟨_, e1, h⟩
    ·cases e1
    ·have e2 := Out.go.inj e1
     subst e2
     dsimp only at h
     refine ⟨_, Turns.refl, ?_⟩
     obtain ⟨o4, hp4, h⟩ := obind_some h
     refine awp_seq (awp_mono (Q' := fun e S => (e = .normal ∧ ∃ xh0_0_40 : List Aw, ∃ xh0_1_40 : Int, ∃ x28002 : List Aa, S = ⟨[(0, .P 0), (2, .P 28000), (3, .P 28001)], [(0, .raw [.ro .Ax xh0_0_40, .I xh0_1_40]), (28000, .raw [.I 0, .str [], .I 0, .str [], .N]), (28001, .raw [.I 49, .str [], .I 0, .str [], .own .Ad 28002]), (28002, .lst .Ad x28002)]⟩ ∧ Out.go (xh0_0_40, xh0_1_40, x28002) = o4) ∨ ((e = .ret ∨ ∃ ch, e = .panic ch) ∧ ∃ a, Out.done a = o4 ∧ EndsX P V Tryz.f107 (A2.rep p0 a) (A2.post p0 a) e S)) ?_ ?_)
     ·clear h
      replace h := hp4
      refine awp_seq ?_
      obtain ⟨⟨a8_0, a8_1⟩, h8, h⟩ := bind_some h
      dsimp only at h
      refine rg L 299 [] [] [(1, (ef0 (.B a8_0) [(0, .raw (Ac a8_1))]))] (pl1 (Aj.okE h8)) ?_
      rcases ite_some h with ⟨c6, h⟩ | ⟨c6, h⟩
      ·refine tt c6 ?_
       obtain ⟨a9, h9, h⟩ := bind_some h
       rcases a9 with a9 | a9
       ·dsimp only at h
        refine qP L mixed 302 [] [] [] [0, 2] 3 (ef0 (.tup []) []) (ofi 49 a9) (pl2 (hR.Ak h9) (hR.Ak h9)) ?_
        cases h
        exact .inr ⟨.inr ⟨_, rfl⟩, _, rfl, rfl⟩
       ·obtain ⟨a9_0, a9_1⟩ := a9
        dsimp only at h
        obtain ⟨a10, h10, h⟩ := bind_some h
        obtain ⟨g3, h⟩ := guard_some h
        refine awp_post (hB L mixed 302 [] [(5, .agg (Ae a10))] [(3, (ef0 (.agg (Ae a9_0)) [(0, .raw (Ac a9_1))]))] [0, 2] 5 (plc (hR.Ak h9) (plc (Cl.ok h10) (plc trivial (plc g3 (plc trivial (plc (hR.Ak h9) (plc (Cl.ok h10) (plc trivial (plc g3 (plc trivial (plc (Cl.ok h10) (plc trivial (plc g3 (plc trivial (plc (Cl.ok h10) (plc trivial (plc g3 (plc trivial (plc g3 (pl1 trivial)))))))))))))))))))) (S' := ⟨[(0, .P 0), (2, .P 21800), (3, .P 21801)], [(0, .raw (Ac a9_1)), (21800, .raw [.I 0, .str [], .I 0, .str [], .N]), (21801, .raw [.I 49, .str [], .I 0, .str [], .own .Ad 21802]), (21802, .lst .Ad (x21802 ++ ([(⟨a10.Op, a10.Name, a10.Int, a10.Text, a10.Kids⟩ : Aa)] : List Aa)))]⟩) ⟨rfl, rfl⟩) (Turns.trans (Turns.kk [0, 2, 3] [0, 21800, 21801, 21802]) (Turns.trans (Turns.rr [(0, 0), (21800, 28000), (21801, 28001), (21802, 28002)]) (Turns.kp (S' := ⟨[(0, .P 0), (2, .P 28000), (3, .P 28001)], [(0, .raw (Ac a9_1)), (28000, .raw [.I 0, .str [], .I 0, .str [], .N]), (28001, .raw [.I 49, .str [], .I 0, .str [], .own .Ad 28002]), (28002, .lst .Ad (x21802 ++ ([(⟨a10.Op, a10.Name, a10.Int, a10.Text, a10.Kids⟩ : Aa)] : List Aa)))]⟩)))) ?_
        cases h
        exact .inl ⟨rfl, _, _, _, rfl, rfl⟩
      refine fN c6 <| awp_turn (Turns.trans (Turns.kk [0, 2, 3] [0, 21800, 21801, 21802]) (Turns.rr [(0, 0), (21800, 28000), (21801, 28001), (21802, 28002)])) ?_
      refine sk (S' := ⟨[(0, .P 0), (2, .P 28000), (3, .P 28001)], [(0, .raw (Ac a8_1)), (28000, .raw [.I 0, .str [], .I 0, .str [], .N]), (28001, .raw [.I 49, .str [], .I 0, .str [], .own .Ad 28002]), (28002, .lst .Ad x21802)]⟩) ?_
      cases h
      exact .inl ⟨rfl, _, _, _, rfl, rfl⟩
     ·rintro e S (⟨rfl, xh0_0_40, xh0_1_40, x28002, rfl, rfl⟩ | ⟨he, a, rfl, hr⟩)
      ·rcases h with ⟨_, e1, h⟩ | ⟨_, e1, h⟩
       ·cases e1
       ·have e2 := Out.go.inj e1
        subst e2
        dsimp only at h
        refine awp_seq <| sg0 L 313 ?_
        rcases ite_some h with ⟨c7, h⟩ | ⟨c7, h⟩
        ·refine tT c7 ?_
         obtain ⟨a11, h11, h⟩ := bind_some h
         refine qn L 318 [] [] [] 1 (ef0 (.tup []) []) (ofi 49 a11) (pl1 (Bj.okE h11)) ?_
         cases h
         exact rfl
        refine fF c7 <| awp_skip' <| awp_seq ?_
        obtain ⟨a12, h12, h⟩ := bind_some h
        rcases a12 with a12 | a12
        ·dsimp only at h
         refine rg L 321 [] [] [(1, (ef0 (.tup []) [(0, .raw (Ac a12))]))] (pl1 (Al.okE h12)) ?_
         refine sg0 L 324 <| awp_turn (Turns.trans (Turns.kk [2] [0, 28000, 28002]) (Turns.trans (Turns.fz 28002) (Turns.rr [(0, 0), (28000, 100)]))) ?_
         refine awp_ret ?_
         cases h
         exact xr0
        ·obtain ⟨a12, rfl⟩ : ∃ z, z = a12 := ⟨_, rfl⟩
         dsimp only at h
         refine qn L 321 [] [] [] 1 (ef0 (.tup []) []) (ofi 49 a12) (pl1 (Al.okE h12)) ?_
         cases h
         exact rfl
      ·rcases h with ⟨_, e1, h⟩ | ⟨_, e1, h⟩
       ·have e2 := Out.done.inj e1
        subst e2
        subst h
        rcases he with rfl | ⟨ch, rfl⟩
        ·exact hr
        ·exact hr
       ·cases e1
   ·rcases h with ⟨_, e1, h⟩ | ⟨_, e1, h⟩
    ·have e2 := Out.done.inj e1
     subst e2
     subst h
     rcases he with rfl | ⟨ch, rfl⟩
     ·exact ⟨_, Turns.refl, hr⟩
     ·exact ⟨_, Turns.refl, hr⟩
    ·cases e1
 ·obtain ⟨a1, rfl⟩ : ∃ z, z = a1 := ⟨_, rfl⟩
  dsimp only at h
  refine qn L 206 [] [] [] 1 (ef0 (.tup []) []) (ofi 49 a1) (pl1 (Al.okE h1)) ?_
  cases h
  exact rfl
def Bc.F (K : Nat) (R : A5) (p0 : Ab) : Option (Int ⊕ (Aa × Ab)) := (Option.bind (Aj K ([108, 101, 116] : List UInt8) p0) (fun (a1_0, a1_1) => (if a1_0 = true then (Option.bind (Aq K a1_1) (fun a2 => match a2 with | (Sum.inl a2) => some (Sum.inl a2) | (Sum.inr (a2_0, a2_1)) => (Option.bind (Al K ([61] : List UInt8) a2_1) (fun a3 => match a3 with | (Sum.inl a3) => (Option.bind (Bu K a3) (fun a4 => match a4 with | (Sum.inl a4) => some (Sum.inl a4) | (Sum.inr (a4_0, a4_1)) => some (Sum.inr ((⟨40, a2_0, 0, [], ([(⟨a4_0.Op, a4_0.Name, a4_0.Int, a4_0.Text, a4_0.Kids⟩ : Aa)] : List Aa)⟩ : Aa), a4_1)))) | (Sum.inr a3) => some (Sum.inl a3))))) else (Option.bind (Aj K ([105, 102] : List UInt8) a1_1) (fun (a5_0, a5_1) => (if a5_0 = true then (Option.bind (R.A1 a5_1) (fun a6 => match a6 with | (Sum.inl a6) => some (Sum.inl a6) | (Sum.inr (a6_0, a6_1)) => some (Sum.inr (a6_0, a6_1)))) else (Option.bind (Aj K ([119, 104, 105, 108, 101] : List UInt8) a5_1) (fun (a7_0, a7_1) => (if a7_0 = true then (Option.bind (Au K a7_1) (fun a8 => match a8 with | (Sum.inl a8) => some (Sum.inl a8) | (Sum.inr (a8_0, a8_1)) => (Option.bind (R.Ak a8_1) (fun a9 => match a9 with | (Sum.inl a9) => some (Sum.inl a9) | (Sum.inr (a9_0, a9_1)) => (Option.bind (Cl K 43 ([(⟨a8_0.Op, a8_0.Name, a8_0.Int, a8_0.Text, a8_0.Kids⟩ : Aa), (⟨a9_0.Op, a9_0.Name, a9_0.Int, a9_0.Text, a9_0.Kids⟩ : Aa)] : List Aa)) (fun a10 => some (Sum.inr (a10, a9_1)))))))) else (Option.bind (Aj K ([114, 101, 116, 117, 114, 110] : List UInt8) a7_1) (fun (a11_0, a11_1) => (if a11_0 = true then (Option.bind (Aj K ([59] : List UInt8) a11_1) (fun (a12_0, a12_1) => (if a12_0 = true then some (Sum.inr ((⟨44, [], 0, [], ([] : List Aa)⟩ : Aa), a12_1)) else (Option.bind (Bu K a12_1) (fun a13 => match a13 with | (Sum.inl a13) => some (Sum.inl a13) | (Sum.inr (a13_0, a13_1)) => (Option.bind (Cl K 44 ([(⟨a13_0.Op, a13_0.Name, a13_0.Int, a13_0.Text, a13_0.Kids⟩ : Aa)] : List Aa)) (fun a14 => some (Sum.inr (a14, a13_1))))))))) else (Option.bind (Aj K ([116, 104, 114, 111, 119] : List UInt8) a11_1) (fun (a15_0, a15_1) => (if a15_0 = true then (Option.bind (Bu K a15_1) (fun a16 => match a16 with | (Sum.inl a16) => some (Sum.inl a16) | (Sum.inr (a16_0, a16_1)) => (Option.bind (Cl K 45 ([(⟨a16_0.Op, a16_0.Name, a16_0.Int, a16_0.Text, a16_0.Kids⟩ : Aa)] : List Aa)) (fun a17 => some (Sum.inr (a17, a16_1)))))) else (Option.bind (Aj K ([116, 114, 121] : List UInt8) a15_1) (fun (a18_0, a18_1) => (if a18_0 = true then (Option.bind (R.Ak a18_1) (fun a19 => match a19 with | (Sum.inl a19) => some (Sum.inl a19) | (Sum.inr (a19_0, a19_1)) => (Option.bind (Al K ([99, 97, 116, 99, 104] : List UInt8) a19_1) (fun a20 => match a20 with | (Sum.inl a20) => (Option.bind (Aq K a20) (fun a21 => match a21 with | (Sum.inl a21) => some (Sum.inl a21) | (Sum.inr (a21_0, a21_1)) => (Option.bind (R.Ak a21_1) (fun a22 => match a22 with | (Sum.inl a22) => some (Sum.inl a22) | (Sum.inr (a22_0, a22_1)) => some (Sum.inr ((⟨46, a21_0, 0, [], ([(⟨a19_0.Op, a19_0.Name, a19_0.Int, a19_0.Text, a19_0.Kids⟩ : Aa), (⟨a22_0.Op, a22_0.Name, a22_0.Int, a22_0.Text, a22_0.Kids⟩ : Aa)] : List Aa)⟩ : Aa), a22_1)))))) | (Sum.inr a20) => some (Sum.inl a20))))) else (Option.bind (Aj K ([115, 97, 103, 97] : List UInt8) a18_1) (fun (a23_0, a23_1) => (if a23_0 = true then (Option.bind (R.Ak a23_1) (fun a24 => match a24 with | (Sum.inl a24) => some (Sum.inl a24) | (Sum.inr (a24_0, a24_1)) => (Option.bind (Cl K 47 ([(⟨a24_0.Op, a24_0.Name, a24_0.Int, a24_0.Text, a24_0.Kids⟩ : Aa)] : List Aa)) (fun a25 => some (Sum.inr (a25, a24_1)))))) else (Option.bind (Aj K ([117, 110, 100, 111] : List UInt8) a23_1) (fun (a26_0, a26_1) => (if a26_0 = true then (Option.bind (Aq K a26_1) (fun a27 => match a27 with | (Sum.inl a27) => some (Sum.inl a27) | (Sum.inr (a27_0, a27_1)) => (Option.bind (Bp K 48 a27_0 a27_1) (fun a28 => match a28 with | (Sum.inl (a28_0, a28_1)) => (Option.bind (Al K ([59] : List UInt8) a28_1) (fun a29 => match a29 with | (Sum.inl a29) => some (Sum.inr (a28_0, a29)) | (Sum.inr a29) => some (Sum.inl a29))) | (Sum.inr a28) => some (Sum.inl a28))))) else (Option.bind (Aj K ([115, 101, 108, 101, 99, 116] : List UInt8) a26_1) (fun (a30_0, a30_1) => (if a30_0 = true then (Option.bind (R.A2 a30_1) (fun a31 => match a31 with | (Sum.inl a31) => some (Sum.inl a31) | (Sum.inr (a31_0, a31_1)) => some (Sum.inr (a31_0, a31_1)))) else (Option.bind (Cp K a30_1) (fun a32 => match a32 with | (Sum.inl a32) => some (Sum.inl a32) | (Sum.inr (a32_0, a32_1)) => some (Sum.inr (a32_0, a32_1)))))))))))))))))))))))))))))))
theorem Bc.body {Γ : Ent} {K : Nat} {R : A5} (hR : R.Ok) {p0 : Ab} {r : Int ⊕ (Aa × Ab)} (h : Bc.F K R p0 = some r) : AWp V P 87 100 Γ (Tryz.f77.body.getD .skip) (EndsX P V Tryz.f77 (Bc.rep p0 r) (Bc.post p0 r)) ⟨args0 0 [.P 0], [(0, .raw (Ac p0))]⟩ := by
 unfold Bc.F at h
 refine sg0 L 200 <| awp_seq <| awp_block <| awp_seq ?_
 obtain ⟨⟨a1_0, a1_1⟩, h1, h⟩ := bind_some h
 dsimp only at h
 refine rg L 202 [] [] [(1, (ef0 (.B a1_0) [(0, .raw (Ac a1_1))]))] (pl1 (Aj.okE h1)) ?_
 rcases ite_some h with ⟨c1, h⟩ | ⟨c1, h⟩
 ·refine tt c1 <| awp_seq ?_
  obtain ⟨a2, h2, h⟩ := bind_some h
  rcases a2 with a2 | a2
  ·dsimp only at h
   refine qn L 206 [] [] [] 1 (ef0 (.tup []) []) (ofi 49 a2) (pl1 (Aq.okE h2)) ?_
   cases h
   exact rfl
  ·obtain ⟨a2_0, a2_1⟩ := a2
   dsimp only at h
   refine rg L 206 [] [] [(1, (ef0 (.cv (.str a2_0)) [(0, .raw (Ac a2_1))]))] (pl1 (Aq.okE h2)) ?_
   refine awp_seq ?_
   obtain ⟨a3, h3, h⟩ := bind_some h
   rcases a3 with a3 | a3
   ·dsimp only at h
    refine rg L 210 [] [] [(1, (ef0 (.tup []) [(0, .raw (Ac a3))]))] (pl1 (Al.okE h3)) ?_
    refine awp_seq ?_
    obtain ⟨a4, h4, h⟩ := bind_some h
    rcases a4 with a4 | a4
    ·dsimp only at h
     refine qn L 213 [] [] [] 2 (ef0 (.tup []) []) (ofi 49 a4) (pl1 (Bu.okE h4)) ?_
     cases h
     exact rfl
    ·obtain ⟨a4_0, a4_1⟩ := a4
     dsimp only at h
     refine rg L 213 [] [] [(2, (ef0 (.agg (Ae a4_0)) [(0, .raw (Ac a4_1))]))] (pl1 (Bu.okE h4)) ?_
     refine awp_turn (Turns.trans (Turns.kk [2] [0, 200]) (Turns.rr [(0, 0), (200, 100)])) ?_
     refine awp_ret ?_
     cases h
     exact xr0
   ·obtain ⟨a3, rfl⟩ : ∃ z, z = a3 := ⟨_, rfl⟩
    dsimp only at h
    refine qn L 210 [] [] [] 1 (ef0 (.tup []) []) (ofi 49 a3) (pl1 (Al.okE h3)) ?_
    cases h
    exact rfl
 refine fN c1 <| awp_seq ?_
 obtain ⟨⟨a5_0, a5_1⟩, h5, h⟩ := bind_some h
 dsimp only at h
 refine rg L 220 [] [] [(1, (ef0 (.B a5_0) [(0, .raw (Ac a5_1))]))] (pl1 (Aj.okE h5)) ?_
 rcases ite_some h with ⟨c2, h⟩ | ⟨c2, h⟩
 ·refine tt c2 <| awp_seq ?_
  obtain ⟨a6, h6, h⟩ := bind_some h
  rcases a6 with a6 | a6
  ·dsimp only at h
   refine qn L 224 [] [] [] 1 (ef0 (.tup []) []) (ofi 49 a6) (pl1 (hR.A1 h6)) ?_
   cases h
   exact rfl
  ·obtain ⟨a6_0, a6_1⟩ := a6
   dsimp only at h
   refine rg L 224 [] [] [(1, (ef0 (.agg (Ae a6_0)) [(0, .raw (Ac a6_1))]))] (pl1 (hR.A1 h6)) ?_
   refine awp_turn (Turns.trans (Turns.kk [2] [0, 200]) (Turns.rr [(0, 0), (200, 100)])) ?_
   refine awp_ret ?_
   cases h
   exact xr0
 refine fN c2 <| awp_seq ?_
 obtain ⟨⟨a7_0, a7_1⟩, h7, h⟩ := bind_some h
 dsimp only at h
 refine rg L 228 [] [] [(1, (ef0 (.B a7_0) [(0, .raw (Ac a7_1))]))] (pl1 (Aj.okE h7)) ?_
 rcases ite_some h with ⟨c3, h⟩ | ⟨c3, h⟩
 ·refine tt c3 <| awp_seq ?_
  obtain ⟨a8, h8, h⟩ := bind_some h
  rcases a8 with a8 | a8
  ·dsimp only at h
   refine qn L 232 [] [] [] 1 (ef0 (.tup []) []) (ofi 49 a8) (pl1 (Au.okE h8)) ?_
   cases h
   exact rfl
  ·obtain ⟨a8_0, a8_1⟩ := a8
   dsimp only at h
   obtain ⟨a9, h9, h⟩ := bind_some h
   rcases a9 with a9 | a9
   ·dsimp only at h
    refine qn L 232 [] [] [(1, (ef0 (.agg (Ae a8_0)) [(0, .raw (Ac a8_1))]))] 3 (ef0 (.tup []) []) (ofi 49 a9) (pl2 (Au.okE h8) (hR.Ak h9)) ?_
    cases h
    exact rfl
   ·obtain ⟨a9_0, a9_1⟩ := a9
    dsimp only at h
    obtain ⟨a10, h10, h⟩ := bind_some h
    refine rg L 232 [] [(5, .agg (Ae a10))] [(1, (ef0 (.agg (Ae a8_0)) [(0, .raw (Ac a8_1))])), (3, (ef0 (.agg (Ae a9_0)) [(0, .raw (Ac a9_1))]))] (plc (Au.okE h8) (plc (hR.Ak h9) (plc (Cl.ok h10) (pl1 trivial)))) ?_
    refine awp_turn (Turns.trans (Turns.kk [2] [0, 200]) (Turns.rr [(0, 0), (200, 100)])) ?_
    refine awp_ret ?_
    cases h
    exact xr0
 refine fN c3 <| awp_seq ?_
 obtain ⟨⟨a11_0, a11_1⟩, h11, h⟩ := bind_some h
 dsimp only at h
 refine rg L 240 [] [] [(1, (ef0 (.B a11_0) [(0, .raw (Ac a11_1))]))] (pl1 (Aj.okE h11)) ?_
 rcases ite_some h with ⟨c4, h⟩ | ⟨c4, h⟩
 ·refine tt c4 <| awp_seq <| awp_seq ?_
  obtain ⟨⟨a12_0, a12_1⟩, h12, h⟩ := bind_some h
  dsimp only at h
  refine rg L 244 [] [] [(1, (ef0 (.B a12_0) [(0, .raw (Ac a12_1))]))] (pl1 (Aj.okE h12)) ?_
  rcases ite_some h with ⟨c5, h⟩ | ⟨c5, h⟩
  ·refine tt c5 <| sg0 L 247 <| awp_turn (Turns.trans (Turns.kk [2] [0, 200]) (Turns.rr [(0, 0), (200, 100)])) ?_
   refine awp_ret ?_
   cases h
   exact xr0
  refine fN c5 <| awp_skip' <| awp_seq ?_
  obtain ⟨a13, h13, h⟩ := bind_some h
  rcases a13 with a13 | a13
  ·dsimp only at h
   refine qn L 250 [] [] [] 1 (ef0 (.tup []) []) (ofi 49 a13) (pl1 (Bu.okE h13)) ?_
   cases h
   exact rfl
  ·obtain ⟨a13_0, a13_1⟩ := a13
   dsimp only at h
   obtain ⟨a14, h14, h⟩ := bind_some h
   refine rg L 250 [] [(3, .agg (Ae a14))] [(1, (ef0 (.agg (Ae a13_0)) [(0, .raw (Ac a13_1))]))] (plc (Bu.okE h13) (plc (Cl.ok h14) (pl1 trivial))) ?_
   refine awp_turn (Turns.trans (Turns.kk [2] [0, 200]) (Turns.rr [(0, 0), (200, 100)])) ?_
   refine awp_ret ?_
   cases h
   exact xr0
 refine fN c4 <| awp_seq ?_
 obtain ⟨⟨a15_0, a15_1⟩, h15, h⟩ := bind_some h
 dsimp only at h
 refine rg L 256 [] [] [(1, (ef0 (.B a15_0) [(0, .raw (Ac a15_1))]))] (pl1 (Aj.okE h15)) ?_
 rcases ite_some h with ⟨c6, h⟩ | ⟨c6, h⟩
 ·refine tt c6 <| awp_seq ?_
  obtain ⟨a16, h16, h⟩ := bind_some h
  rcases a16 with a16 | a16
  ·dsimp only at h
   refine qn L 260 [] [] [] 1 (ef0 (.tup []) []) (ofi 49 a16) (pl1 (Bu.okE h16)) ?_
   cases h
   exact rfl
  ·obtain ⟨a16_0, a16_1⟩ := a16
   dsimp only at h
   obtain ⟨a17, h17, h⟩ := bind_some h
   refine rg L 260 [] [(3, .agg (Ae a17))] [(1, (ef0 (.agg (Ae a16_0)) [(0, .raw (Ac a16_1))]))] (plc (Bu.okE h16) (plc (Cl.ok h17) (pl1 trivial))) ?_
   refine awp_turn (Turns.trans (Turns.kk [2] [0, 200]) (Turns.rr [(0, 0), (200, 100)])) ?_
   refine awp_ret ?_
   cases h
   exact xr0
 refine fN c6 <| awp_seq ?_
 obtain ⟨⟨a18_0, a18_1⟩, h18, h⟩ := bind_some h
 dsimp only at h
 refine rg L 266 [] [] [(1, (ef0 (.B a18_0) [(0, .raw (Ac a18_1))]))] (pl1 (Aj.okE h18)) ?_
 rcases ite_some h with ⟨c7, h⟩ | ⟨c7, h⟩
 ·refine tt c7 <| awp_seq ?_
  obtain ⟨a19, h19, h⟩ := bind_some h
  rcases a19 with a19 | a19
  ·dsimp only at h
   refine qn L 270 [] [] [] 1 (ef0 (.tup []) []) (ofi 49 a19) (pl1 (hR.Ak h19)) ?_
   cases h
   exact rfl
  ·obtain ⟨a19_0, a19_1⟩ := a19
   dsimp only at h
   refine rg L 270 [] [] [(1, (ef0 (.agg (Ae a19_0)) [(0, .raw (Ac a19_1))]))] (pl1 (hR.Ak h19)) ?_
   refine awp_seq ?_
   obtain ⟨a20, h20, h⟩ := bind_some h
   rcases a20 with a20 | a20
   ·dsimp only at h
    refine rg L 275 [] [] [(1, (ef0 (.tup []) [(0, .raw (Ac a20))]))] (pl1 (Al.okE h20)) ?_
    refine awp_seq ?_
    obtain ⟨a21, h21, h⟩ := bind_some h
    rcases a21 with a21 | a21
    ·dsimp only at h
     refine qP L mixed 278 [] [] [] [0, 3] 1 (ef0 (.tup []) []) (ofi 49 a21) (pl2 (Aq.okE h21) (Aq.okE h21)) ?_
     cases h
     exact rfl
    ·obtain ⟨a21_0, a21_1⟩ := a21
     dsimp only at h
     obtain ⟨a22, h22, h⟩ := bind_some h
     rcases a22 with a22 | a22
     ·dsimp only at h
      refine qP L mixed 278 [] [] [(1, (ef0 (.cv (.str a21_0)) [(0, .raw (Ac a21_1))]))] [0, 3] 4 (ef0 (.tup []) []) (ofi 49 a22) (plc (Aq.okE h21) (plc (hR.Ak h22) (plc (hR.Ak h22) (plc (Aq.okE h21) (pl1 (hR.Ak h22)))))) ?_
      cases h
      exact rfl
     ·obtain ⟨a22_0, a22_1⟩ := a22
      dsimp only at h
      refine hB L mixed 278 [] [] [(1, (ef0 (.cv (.str a21_0)) [(0, .raw (Ac a21_1))])), (4, (ef0 (.agg (Ae a22_0)) [(0, .raw (Ac a22_1))]))] [0, 3] 3 (plc (Aq.okE h21) (plc (hR.Ak h22) (plc (hR.Ak h22) (plc (Aq.okE h21) (pl1 (hR.Ak h22)))))) (S' := ⟨[(2, .P 200)], [(0, .raw (Ac a22_1)), (200, .raw [.I 46, .str a21_0, .I 0, .str [], .ro .Ad ([(⟨a19_0.Op, a19_0.Name, a19_0.Int, a19_0.Text, a19_0.Kids⟩ : Aa), (⟨a22_0.Op, a22_0.Name, a22_0.Int, a22_0.Text, a22_0.Kids⟩ : Aa)] : List Aa)])]⟩) ?_
      refine awp_turn (Turns.trans (Turns.kk [2] [0, 200]) (Turns.rr [(0, 0), (200, 100)])) ?_
      refine awp_ret ?_
      cases h
      exact xr0
   ·obtain ⟨a20, rfl⟩ : ∃ z, z = a20 := ⟨_, rfl⟩
    dsimp only at h
    refine qn L 275 [] [] [] 1 (ef0 (.tup []) []) (ofi 49 a20) (pl1 (Al.okE h20)) ?_
    cases h
    exact rfl
 refine fN c7 <| awp_seq ?_
 obtain ⟨⟨a23_0, a23_1⟩, h23, h⟩ := bind_some h
 dsimp only at h
 refine rg L 287 [] [] [(1, (ef0 (.B a23_0) [(0, .raw (Ac a23_1))]))] (pl1 (Aj.okE h23)) ?_
 rcases ite_some h with ⟨c8, h⟩ | ⟨c8, h⟩
 ·refine tt c8 <| awp_seq ?_
  obtain ⟨a24, h24, h⟩ := bind_some h
  rcases a24 with a24 | a24
  ·dsimp only at h
   refine qn L 291 [] [] [] 1 (ef0 (.tup []) []) (ofi 49 a24) (pl1 (hR.Ak h24)) ?_
   cases h
   exact rfl
  ·obtain ⟨a24_0, a24_1⟩ := a24
   dsimp only at h
   obtain ⟨a25, h25, h⟩ := bind_some h
   refine rg L 291 [] [(3, .agg (Ae a25))] [(1, (ef0 (.agg (Ae a24_0)) [(0, .raw (Ac a24_1))]))] (plc (hR.Ak h24) (plc (Cl.ok h25) (pl1 trivial))) ?_
   refine awp_turn (Turns.trans (Turns.kk [2] [0, 200]) (Turns.rr [(0, 0), (200, 100)])) ?_
   refine awp_ret ?_
   cases h
   exact xr0
 refine fN c8 <| awp_seq ?_
 obtain ⟨⟨a26_0, a26_1⟩, h26, h⟩ := bind_some h
 dsimp only at h
 refine rg L 297 [] [] [(1, (ef0 (.B a26_0) [(0, .raw (Ac a26_1))]))] (pl1 (Aj.okE h26)) ?_
 rcases ite_some h with ⟨c9, h⟩ | ⟨c9, h⟩
 ·refine tt c9 <| awp_seq ?_
  obtain ⟨a27, h27, h⟩ := bind_some h
  rcases a27 with a27 | a27
  ·dsimp only at h
   refine qn L 301 [] [] [] 2 (ef0 (.tup []) []) (ofi 49 a27) (pl1 (Aq.okE h27)) ?_
   cases h
   exact rfl
  ·obtain ⟨a27_0, a27_1⟩ := a27
   dsimp only at h
   obtain ⟨a28, h28, h⟩ := bind_some h
   rcases a28 with ⟨a28_0, a28_1⟩ | a28
   ·dsimp only at h
    refine rg L 301 [] [] [(2, (ef0 (.cv (.str a27_0)) [(0, .raw (Ac a27_1))])), (3, (ef0 (.agg (Ae a28_0)) [(0, .raw (Ac a28_1))]))] (pl2 (Aq.okE h27) (Bp.okE h28)) ?_
    refine awp_seq ?_
    obtain ⟨a29, h29, h⟩ := bind_some h
    rcases a29 with a29 | a29
    ·dsimp only at h
     refine rg L 308 [] [] [(1, (ef0 (.tup []) [(0, .raw (Ac a29))]))] (pl1 (Al.okE h29)) ?_
     refine sg0 L 311 <| awp_turn (Turns.trans (Turns.kk [2] [0, 200]) (Turns.rr [(0, 0), (200, 100)])) ?_
     refine awp_ret ?_
     cases h
     exact xr0
    ·obtain ⟨a29, rfl⟩ : ∃ z, z = a29 := ⟨_, rfl⟩
     dsimp only at h
     refine qn L 308 [] [] [] 1 (ef0 (.tup []) []) (ofi 49 a29) (pl1 (Al.okE h29)) ?_
     cases h
     exact rfl
   ·obtain ⟨a28, rfl⟩ : ∃ z, z = a28 := ⟨_, rfl⟩
    dsimp only at h
    refine qn L 301 [] [] [(2, (ef0 (.cv (.str a27_0)) [(0, .raw (Ac a27_1))]))] 3 (ef0 (.tup []) []) (ofi 49 a28) (pl2 (Aq.okE h27) (Bp.okE h28)) ?_
    cases h
    exact rfl
 refine fN c9 <| awp_seq ?_
 obtain ⟨⟨a30_0, a30_1⟩, h30, h⟩ := bind_some h
 dsimp only at h
 refine rg L 314 [] [] [(1, (ef0 (.B a30_0) [(0, .raw (Ac a30_1))]))] (pl1 (Aj.okE h30)) ?_
 rcases ite_some h with ⟨c10, h⟩ | ⟨c10, h⟩
 ·refine tt c10 <| awp_seq ?_
  obtain ⟨a31, h31, h⟩ := bind_some h
  rcases a31 with a31 | a31
  ·dsimp only at h
   refine qn L 318 [] [] [] 1 (ef0 (.tup []) []) (ofi 49 a31) (pl1 (hR.A2 h31)) ?_
   cases h
   exact rfl
  ·obtain ⟨a31_0, a31_1⟩ := a31
   dsimp only at h
   refine rg L 318 [] [] [(1, (ef0 (.agg (Ae a31_0)) [(0, .raw (Ac a31_1))]))] (pl1 (hR.A2 h31)) ?_
   refine awp_turn (Turns.trans (Turns.kk [2] [0, 200]) (Turns.rr [(0, 0), (200, 100)])) ?_
   refine awp_ret ?_
   cases h
   exact xr0
 refine fN c10 <| awp_skip' <| awp_seq ?_
 obtain ⟨a32, h32, h⟩ := bind_some h
 rcases a32 with a32 | a32
 ·dsimp only at h
  refine qn L 322 [] [] [] 1 (ef0 (.tup []) []) (ofi 49 a32) (pl1 (Cp.okE h32)) ?_
  cases h
  exact rfl
 ·obtain ⟨a32_0, a32_1⟩ := a32
  dsimp only at h
  refine rg L 322 [] [] [(1, (ef0 (.agg (Ae a32_0)) [(0, .raw (Ac a32_1))]))] (pl1 (Cp.okE h32)) ?_
  refine awp_turn (Turns.trans (Turns.kk [2] [0, 200]) (Turns.rr [(0, 0), (200, 100)])) ?_
  refine awp_ret ?_
  cases h
  exact xr0
def Ak.l9 (K : Nat) (R : A5) : Nat → (List Aw) → Int → (List Aa) → Option (Out (Int ⊕ (Aa × Ab)) ((List Aw) × Int × (List Aa)))
 | 0, _, _, _ => none
 | k + 1, xh0_0_9h, xh0_1_9h, x21902 => (Option.bind (Aj K ([125] : List UInt8) (⟨xh0_0_9h, xh0_1_9h⟩ : Ab)) (fun (a2_0, a2_1) => (if a2_0 = true then some (Out.go (a2_1.l, a2_1.i, x21902)) else (Option.bind (R.Bc a2_1) (fun a3 => match a3 with | (Sum.inl a3) => some (Out.done (Sum.inl a3)) | (Sum.inr (a3_0, a3_1)) => (if (x21902.length + ([(⟨a3_0.Op, a3_0.Name, a3_0.Int, a3_0.Text, a3_0.Kids⟩ : Aa)] : List Aa).length) * 72 ≤ 140737488355328 then Ak.l9 K R k a3_1.l a3_1.i (x21902 ++ ([(⟨a3_0.Op, a3_0.Name, a3_0.Int, a3_0.Text, a3_0.Kids⟩ : Aa)] : List Aa)) else none))))))
def Ak.F (K : Nat) (R : A5) (p0 : Ab) : Option (Int ⊕ (Aa × Ab)) := (Option.bind (Al K ([123] : List UInt8) p0) (fun a1 => match a1 with | (Sum.inl a1) => (obind (Ak.l9 K R K a1.l a1.i ([] : List Aa) : Option (Out (Int ⊕ (Aa × Ab)) ((List Aw) × Int × (List Aa)))) (fun r => r) (fun (xh0_0_9, xh0_1_9, x21802) => some (Sum.inr ((⟨53, [], 0, [], x21802⟩ : Aa), (⟨xh0_0_9, xh0_1_9⟩ : Ab))))) | (Sum.inr a1) => some (Sum.inl a1)))
theorem Ak.body {Γ : Ent} {K : Nat} {R : A5} (hR : R.Ok) {p0 : Ab} {r : Int ⊕ (Aa × Ab)} (h : Ak.F K R p0 = some r) : AWp V P 18 100 Γ (Tryz.f50.body.getD .skip) (EndsX P V Tryz.f50 (Ak.rep p0 r) (Ak.post p0 r)) ⟨args0 0 [.P 0], [(0, .raw (Ac p0))]⟩ := by
 unfold Ak.F at h
 refine sg0 L 200 <| sg0 L 202 <| awp_seq ?_
 obtain ⟨a1, h1, h⟩ := bind_some h
 rcases a1 with a1 | a1
 ·dsimp only at h
  refine rg L 206 [] [] [(1, (ef0 (.tup []) [(0, .raw (Ac a1))]))] (pl1 (Al.okE h1)) ?_
  refine awp_seq <| awp_block <| awp_turn (Turns.trans (Turns.kk [0, 2, 3] [0, 200, 203]) (Turns.trans (Turns.nc 203 4 9500 Tag.Ad) (Turns.trans (Turns.kk [0, 2, 3] [0, 200, 203, 9500]) (Turns.rr [(0, 0), (200, 21900), (203, 21901), (9500, 21902)])))) ?_
  refine kp (S' := ⟨[(0, .P 0), (2, .P 21900), (3, .P 21901)], [(0, .raw (Ac a1)), (21900, .raw [.I 0, .str [], .I 0, .str [], .N]), (21901, .raw [.I 53, .str [], .I 0, .str [], .own .Ad 21902]), (21902, .lst .Ad ([] : List Aa))]⟩) ?_
  obtain ⟨o1, hp1, h⟩ := obind_some h
  refine awp_conseq (Q' := fun e S => (e = .exit 0 ∧ ∃ xh0_0_9 : List Aw, ∃ xh0_1_9 : Int, ∃ x21802 : List Aa, S = ⟨[(2, .P 21800), (3, .P 21801)], [(0, .raw [.ro .Ax xh0_0_9, .I xh0_1_9]), (21800, .raw [.I 0, .str [], .I 0, .str [], .N]), (21801, .raw [.I 53, .str [], .I 0, .str [], .own .Ad 21802]), (21802, .lst .Ad x21802)]⟩ ∧ Out.go (xh0_0_9, xh0_1_9, x21802) = o1) ∨ ((e = .ret ∨ ∃ ch, e = .panic ch) ∧ ∃ a, Out.done a = o1 ∧ EndsX P V Tryz.f50 (Ak.rep p0 a) (Ak.post p0 a) e S)) (awp_loop (fun k S => ∃ xh0_0_9h : List Aw, ∃ xh0_1_9h : Int, ∃ x21902 : List Aa, S = ⟨[(0, .P 0), (2, .P 21900), (3, .P 21901)], [(0, .raw [.ro .Ax xh0_0_9h, .I xh0_1_9h]), (21900, .raw [.I 0, .str [], .I 0, .str [], .N]), (21901, .raw [.I 53, .str [], .I 0, .str [], .own .Ad 21902]), (21902, .lst .Ad x21902)]⟩ ∧ Ak.l9 K R k xh0_0_9h xh0_1_9h x21902 = some o1) ?_ ⟨_, _, _, rfl, hp1⟩) ?_
  ·clear h hp1
   intro k S hS
   obtain ⟨xh0_0_9h, xh0_1_9h, x21902, rfl, h⟩ := hS
   cases k with
   | zero => cases h
   | succ k =>
   unfold Ak.l9 at h
   refine awp_seq <| awp_seq ?_
   obtain ⟨⟨a2_0, a2_1⟩, h2, h⟩ := bind_some h
   dsimp only at h
   refine rg L 209 [] [] [(1, (ef0 (.B a2_0) [(0, .raw (Ac a2_1))]))] (pl1 (Aj.okE h2)) ?_
   rcases ite_some h with ⟨c1, h⟩ | ⟨c1, h⟩
   ·refine ff (b := (!a2_0)) (congrArg Bool.not (c1)) ?_
    refine awp_turn (Turns.trans (Turns.kk [2, 3] [0, 21900, 21901, 21902]) (Turns.rr [(0, 0), (21900, 21800), (21901, 21801), (21902, 21802)])) ?_
    refine ex (S' := ⟨[(2, .P 21800), (3, .P 21801)], [(0, .raw (Ac a2_1)), (21800, .raw [.I 0, .str [], .I 0, .str [], .N]), (21801, .raw [.I 53, .str [], .I 0, .str [], .own .Ad 21802]), (21802, .lst .Ad x21902)]⟩) ?_
    cases h
    exact .inl ⟨rfl, _, _, _, rfl, rfl⟩
   refine tt (b := (!a2_0)) (congrArg Bool.not (eq_false_of_ne_true c1)) ?_
   refine awp_skip' <| awp_block ?_
   obtain ⟨a3, h3, h⟩ := bind_some h
   rcases a3 with a3 | a3
   ·dsimp only at h
    refine qP L mixed 213 [] [] [] [0, 2] 3 (ef0 (.tup []) []) (ofi 49 a3) (pl2 (hR.Bc h3) (hR.Bc h3)) ?_
    cases h
    exact .inr ⟨.inr ⟨_, rfl⟩, _, rfl, rfl⟩
   ·obtain ⟨a3_0, a3_1⟩ := a3
    dsimp only at h
    obtain ⟨g1, h⟩ := guard_some h
    refine hB L mixed 213 [] [] [(3, (ef0 (.agg (Ae a3_0)) [(0, .raw (Ac a3_1))]))] [0, 2] 3 (plc (hR.Bc h3) (plc g1 (plc trivial (plc (hR.Bc h3) (plc g1 (plc trivial (plc g1 (pl1 trivial)))))))) (S' := ⟨[(0, .P 0), (2, .P 21900), (3, .P 21901)], [(0, .raw (Ac a3_1)), (21900, .raw [.I 0, .str [], .I 0, .str [], .N]), (21901, .raw [.I 53, .str [], .I 0, .str [], .own .Ad 21902]), (21902, .lst .Ad (x21902 ++ ([(⟨a3_0.Op, a3_0.Name, a3_0.Int, a3_0.Text, a3_0.Kids⟩ : Aa)] : List Aa)))]⟩) ?_
    exact ⟨k, Nat.lt_succ_self k, _, _, _, rfl, h⟩
  ·rintro e S (⟨rfl, xh0_0_9, xh0_1_9, x21802, rfl, rfl⟩ | ⟨he, a, rfl, hr⟩)
   ·rcases h with ⟨_, e1, h⟩ | ⟨_, e1, h⟩
    ·cases e1
    ·have e2 := Out.go.inj e1
     subst e2
     dsimp only at h
     refine ⟨_, Turns.refl, ?_⟩
     refine sg0 L 222 <| awp_turn (Turns.trans (Turns.kk [2] [0, 21800, 21802]) (Turns.trans (Turns.fz 21802) (Turns.rr [(0, 0), (21800, 100)]))) ?_
     refine awp_ret ?_
     cases h
     exact xr0
   ·rcases h with ⟨_, e1, h⟩ | ⟨_, e1, h⟩
    ·have e2 := Out.done.inj e1
     subst e2
     subst h
     rcases he with rfl | ⟨ch, rfl⟩
     ·exact ⟨_, Turns.refl, hr⟩
     ·exact ⟨_, Turns.refl, hr⟩
    ·cases e1
 ·obtain ⟨a1, rfl⟩ : ∃ z, z = a1 := ⟨_, rfl⟩
  dsimp only at h
  refine qn L 206 [] [] [] 1 (ef0 (.tup []) []) (ofi 49 a1) (pl1 (Al.okE h1)) ?_
  cases h
  exact rfl
def A5.upto (K : Nat) : Nat → A5
 | 0 => ⟨fun _ => none, fun _ => none, fun _ => none, fun _ => none⟩
 | k + 1 => ⟨A1.F K (A5.upto K k), A2.F K (A5.upto K k), Bc.F K (A5.upto K k), Ak.F K (A5.upto K k)⟩
theorem A5.upto_ok (K : Nat) : ∀ k, (A5.upto K k).Ok
 | 0 => ⟨fun h => (by cases h), fun h => (by cases h), fun h => (by cases h), fun h => (by cases h)⟩
 | k + 1 => ⟨fun {p0 r} h => xo (fn := Tryz.f105) (n := 31) (m := 100) fun Γ => A1.body (K := K) (A5.upto_ok K k) h, fun {p0 r} h => xo (fn := Tryz.f107) (n := 99) (m := 100) fun Γ => A2.body (K := K) (A5.upto_ok K k) h, fun {p0 r} h => xo (fn := Tryz.f77) (n := 87) (m := 100) fun Γ => Bc.body (K := K) (A5.upto_ok K k) h, fun {p0 r} h => xo (fn := Tryz.f50) (n := 18) (m := 100) fun Γ => Ak.body (K := K) (A5.upto_ok K k) h⟩
def A1 (K : Nat) (p0 : Ab) : Option (Int ⊕ (Aa × Ab)) := (A5.upto K K).A1 p0
theorem A1.okE {K : Nat} {p0 : Ab} {r : Int ⊕ (Aa × Ab)} (h : A1 K p0 = some r) : XCall V P 105 [.P 0] [(0, .raw (Ac p0))] [0] (A1.post p0 r) (A1.rep p0 r) := (A5.upto_ok K K).A1 h
def A2 (K : Nat) (p0 : Ab) : Option (Int ⊕ (Aa × Ab)) := (A5.upto K K).A2 p0
theorem A2.okE {K : Nat} {p0 : Ab} {r : Int ⊕ (Aa × Ab)} (h : A2 K p0 = some r) : XCall V P 107 [.P 0] [(0, .raw (Ac p0))] [0] (A2.post p0 r) (A2.rep p0 r) := (A5.upto_ok K K).A2 h
def Bc (K : Nat) (p0 : Ab) : Option (Int ⊕ (Aa × Ab)) := (A5.upto K K).Bc p0
theorem Bc.okE {K : Nat} {p0 : Ab} {r : Int ⊕ (Aa × Ab)} (h : Bc K p0 = some r) : XCall V P 77 [.P 0] [(0, .raw (Ac p0))] [0] (Bc.post p0 r) (Bc.rep p0 r) := (A5.upto_ok K K).Bc h
def Ak (K : Nat) (p0 : Ab) : Option (Int ⊕ (Aa × Ab)) := (A5.upto K K).Ak p0
theorem Ak.okE {K : Nat} {p0 : Ab} {r : Int ⊕ (Aa × Ab)} (h : Ak K p0 = some r) : XCall V P 50 [.P 0] [(0, .raw (Ac p0))] [0] (Ak.post p0 r) (Ak.rep p0 r) := (A5.upto_ok K K).Ak h
def Ck.l15 (K : Nat) : Nat → (List Aw) → Int → (List Aa) → Option (Out ((Ab × (List Aa)) ⊕ Int) ((List Aw) × Int × (List Aa)))
 | 0, _, _, _ => none
 | k + 1, xh0_0_15h, xh0_1_15h, x23100 => (Option.bind (Aj K ([44] : List UInt8) (⟨xh0_0_15h, xh0_1_15h⟩ : Ab)) (fun (a3_0, a3_1) => (if a3_0 = true then (Option.bind (Cg K a3_1) (fun a4 => match a4 with | (Sum.inl a4) => some (Out.done (Sum.inr a4)) | (Sum.inr (a4_0, a4_1)) => (if (x23100.length + ([(⟨a4_0.Op, a4_0.Name, a4_0.Int, a4_0.Text, a4_0.Kids⟩ : Aa)] : List Aa).length) * 72 ≤ 140737488355328 then Ck.l15 K k a4_1.l a4_1.i (x23100 ++ ([(⟨a4_0.Op, a4_0.Name, a4_0.Int, a4_0.Text, a4_0.Kids⟩ : Aa)] : List Aa)) else none))) else some (Out.go (a3_1.l, a3_1.i, x23100)))))
def Ck (K : Nat) (p0 : List UInt8) (p1 : Ab) : Option ((Ab × (List Aa)) ⊕ Int) := (Option.bind (Aj K p0 p1) (fun (a1_0, a1_1) => (if a1_0 = true then some (Sum.inl (a1_1, ([] : List Aa))) else (Option.bind (Cg K a1_1) (fun a2 => match a2 with | (Sum.inl a2) => some (Sum.inr a2) | (Sum.inr (a2_0, a2_1)) => (obind (Ck.l15 K K a2_1.l a2_1.i ([(⟨a2_0.Op, a2_0.Name, a2_0.Int, a2_0.Text, a2_0.Kids⟩ : Aa)] : List Aa) : Option (Out ((Ab × (List Aa)) ⊕ Int) ((List Aw) × Int × (List Aa)))) (fun r => r) (fun (xh0_0_15, xh0_1_15, x23000) => (Option.bind (Al K p0 (⟨xh0_0_15, xh0_1_15⟩ : Ab)) (fun a5 => match a5 with | (Sum.inl a5) => some (Sum.inl (a5, x23000)) | (Sum.inr a5) => some (Sum.inr a5))))))))))
def Ck.rep (p0 : List UInt8) (p1 : Ab) : (Ab × (List Aa)) ⊕ Int → Outc T
 | (Sum.inl (v0, v1)) => .ret (.cv (.own .Ad 100))
 | (Sum.inr v0) => .pan (ofi 49 v0)
def Ck.post (p0 : List UInt8) (p1 : Ab) : (Ab × (List Aa)) ⊕ Int → List (Nat × Blk T)
 | (Sum.inl (v0, v1)) => [(0, .raw [.ro .Ax v0.l, .I v0.i]), (100, .lst .Ad v1)]
 | (Sum.inr v0) => []
theorem Ck.body {Γ : Ent} {K : Nat} {p0 : List UInt8} {p1 : Ab} {r : (Ab × (List Aa)) ⊕ Int} (h : Ck K p0 p1 = some r) : AWp V P 25 100 Γ (Tryz.f48.body.getD .skip) (EndsX P V Tryz.f48 (Ck.rep p0 p1 r) (Ck.post p0 p1 r)) ⟨args0 0 [.P 0, .cv (.str p0), .cv (.fn (.func 49) [.P 0] [])], [(0, .raw (Ac p1))]⟩ := by
 unfold Ck at h
 refine sg0 L 200 <| awp_seq <| awp_seq ?_
 obtain ⟨⟨a1_0, a1_1⟩, h1, h⟩ := bind_some h
 dsimp only at h
 refine rg L 202 [] [] [(2, (ef0 (.B a1_0) [(0, .raw (Ac a1_1))]))] (pl1 (Aj.okE h1)) ?_
 rcases ite_some h with ⟨c1, h⟩ | ⟨c1, h⟩
 ·refine tt c1 <| sg0 L 206 <| awp_turn (Turns.trans (Turns.kk [6] [0]) (Turns.trans (Turns.no 6 9000 Tag.Ad) (Turns.trans (Turns.kk [6] [0, 9000]) (Turns.rr [(0, 0), (9000, 100)])))) ?_
  refine awp_ret ?_
  cases h
  exact xr0
 refine fN c1 <| awp_skip' <| awp_seq ?_
 obtain ⟨a2, h2, h⟩ := bind_some h
 rcases a2 with a2 | a2
 ·dsimp only at h
  refine qn L 100208 [] [] [] 1 (ef0 (.tup []) []) (ofi 49 a2) (pl1 (Cg.okE h2)) ?_
  cases h
  exact rfl
 ·obtain ⟨a2_0, a2_1⟩ := a2
  dsimp only at h
  refine rg L 100208 [] [] [(1, (ef0 (.agg (Ae a2_0)) [(0, .raw (Ac a2_1))]))] (pl1 (Cg.okE h2)) ?_
  refine awp_seq <| awp_block <| awp_turn (Turns.trans (Turns.kk [0, 1, 2, 7] [0, 100210]) (Turns.rr [(0, 0), (100210, 23100)])) ?_
  refine kp (S' := ⟨[(0, .P 0), (1, .cv (.str p0)), (2, .cv (.fn (.func 49) [.P 0] [])), (7, .cv (.own .Ad 23100))], [(0, .raw (Ac a2_1)), (23100, .lst .Ad ([(⟨a2_0.Op, a2_0.Name, a2_0.Int, a2_0.Text, a2_0.Kids⟩ : Aa)] : List Aa))]⟩) ?_
  obtain ⟨o1, hp1, h⟩ := obind_some h
  refine awp_conseq (Q' := fun e S => (e = .exit 0 ∧ ∃ xh0_0_15 : List Aw, ∃ xh0_1_15 : Int, ∃ x23000 : List Aa, S = ⟨[(0, .P 0), (1, .cv (.str p0)), (7, .cv (.own .Ad 23000))], [(0, .raw [.ro .Ax xh0_0_15, .I xh0_1_15]), (23000, .lst .Ad x23000)]⟩ ∧ Out.go (xh0_0_15, xh0_1_15, x23000) = o1) ∨ ((e = .ret ∨ ∃ ch, e = .panic ch) ∧ ∃ a, Out.done a = o1 ∧ EndsX P V Tryz.f48 (Ck.rep p0 p1 a) (Ck.post p0 p1 a) e S)) (awp_loop (fun k S => ∃ xh0_0_15h : List Aw, ∃ xh0_1_15h : Int, ∃ x23100 : List Aa, S = ⟨[(0, .P 0), (1, .cv (.str p0)), (2, .cv (.fn (.func 49) [.P 0] [])), (7, .cv (.own .Ad 23100))], [(0, .raw [.ro .Ax xh0_0_15h, .I xh0_1_15h]), (23100, .lst .Ad x23100)]⟩ ∧ Ck.l15 K k xh0_0_15h xh0_1_15h x23100 = some o1) ?_ ⟨_, _, _, rfl, hp1⟩) ?_
  ·clear h hp1
   intro k S hS
   obtain ⟨xh0_0_15h, xh0_1_15h, x23100, rfl, h⟩ := hS
   cases k with
   | zero => cases h
   | succ k =>
   unfold Ck.l15 at h
   refine awp_seq <| awp_seq ?_
   obtain ⟨⟨a3_0, a3_1⟩, h3, h⟩ := bind_some h
   dsimp only at h
   refine rg L 213 [] [] [(1, (ef0 (.B a3_0) [(0, .raw (Ac a3_1))]))] (pl1 (Aj.okE h3)) ?_
   rcases ite_some h with ⟨c2, h⟩ | ⟨c2, h⟩
   ·refine tt c2 <| awp_skip' <| awp_block ?_
    obtain ⟨a4, h4, h⟩ := bind_some h
    rcases a4 with a4 | a4
    ·dsimp only at h
     refine qn L 216 [] [] [] 2 (ef0 (.tup []) []) (ofi 49 a4) (pl1 (Cg.okE h4)) ?_
     cases h
     exact .inr ⟨.inr ⟨_, rfl⟩, _, rfl, rfl⟩
    ·obtain ⟨a4_0, a4_1⟩ := a4
     dsimp only at h
     obtain ⟨g1, h⟩ := guard_some h
     refine ar L 216 [] [] [(2, (ef0 (.agg (Ae a4_0)) [(0, .raw (Ac a4_1))]))] (cs := [ECall V P 49 [.P 0] [(0, .raw (Ac a3_1))] [0] (.agg (Ae a4_0)) [(0, .raw (Ac a4_1))], (x23100.length + ([(⟨a4_0.Op, a4_0.Name, a4_0.Int, a4_0.Text, a4_0.Kids⟩ : Aa)] : List Aa).length) * 72 ≤ 140737488355328, True]) (S' := ⟨[(0, .P 0), (1, .cv (.str p0)), (2, .cv (.fn (.func 49) [.P 0] [])), (7, .cv (.own .Ad 23100))], [(0, .raw (Ac a4_1)), (23100, .lst .Ad (x23100 ++ ([(⟨a4_0.Op, a4_0.Name, a4_0.Int, a4_0.Text, a4_0.Kids⟩ : Aa)] : List Aa)))]⟩) (And.intro (Cg.okE h4) (And.intro g1 trivial)) ?_
     exact ⟨k, Nat.lt_succ_self k, _, _, _, rfl, h⟩
   refine fN c2 <| awp_turn (Turns.trans (Turns.kk [0, 1, 7] [0, 23100]) (Turns.rr [(0, 0), (23100, 23000)])) ?_
   refine ex (S' := ⟨[(0, .P 0), (1, .cv (.str p0)), (7, .cv (.own .Ad 23000))], [(0, .raw (Ac a3_1)), (23000, .lst .Ad x23100)]⟩) ?_
   cases h
   exact .inl ⟨rfl, _, _, _, rfl, rfl⟩
  ·rintro e S (⟨rfl, xh0_0_15, xh0_1_15, x23000, rfl, rfl⟩ | ⟨he, a, rfl, hr⟩)
   ·rcases h with ⟨_, e1, h⟩ | ⟨_, e1, h⟩
    ·cases e1
    ·have e2 := Out.go.inj e1
     subst e2
     dsimp only at h
     refine ⟨_, Turns.refl, ?_⟩
     refine awp_seq ?_
     obtain ⟨a5, h5, h⟩ := bind_some h
     rcases a5 with a5 | a5
     ·dsimp only at h
      refine rg L 223 [] [] [(2, (ef0 (.tup []) [(0, .raw (Ac a5))]))] (pl1 (Al.okE h5)) ?_
      refine sg0 L 227 <| awp_turn (Turns.trans (Turns.kk [6] [0, 23000]) (Turns.rr [(0, 0), (23000, 100)])) ?_
      refine awp_ret ?_
      cases h
      exact xr0
     ·obtain ⟨a5, rfl⟩ : ∃ z, z = a5 := ⟨_, rfl⟩
      dsimp only at h
      refine qn L 223 [] [] [] 2 (ef0 (.tup []) []) (ofi 49 a5) (pl1 (Al.okE h5)) ?_
      cases h
      exact rfl
   ·rcases h with ⟨_, e1, h⟩ | ⟨_, e1, h⟩
    ·have e2 := Out.done.inj e1
     subst e2
     subst h
     rcases he with rfl | ⟨ch, rfl⟩
     ·exact ⟨_, Turns.refl, hr⟩
     ·exact ⟨_, Turns.refl, hr⟩
    ·cases e1
theorem Ck.okE {K : Nat} {p0 : List UInt8} {p1 : Ab} {r : (Ab × (List Aa)) ⊕ Int} (h : Ck K p0 p1 = some r) : XCall V P 48 [.P 0, .cv (.str p0), .cv (.fn (.func 49) [.P 0] [])] [(0, .raw (Ac p1))] [0] (Ck.post p0 p1 r) (Ck.rep p0 p1 r) :=
 xo (fn := Tryz.f48) (n := 25) (m := 100) fun Γ => Ck.body h
def Cj (K : Nat) (p0 : Ab) : Option (Int ⊕ (Aa × Ab)) := (Option.bind (Ci K ([([115, 105, 103, 110, 97, 108] : List UInt8), ([113, 117, 101, 114, 121] : List UInt8), ([117, 112, 100, 97, 116, 101] : List UInt8)] : List (List UInt8)) ([63, 64, 65] : List Int) p0) (fun (a1_0, a1_1, a1_2) => (if a1_1 = true then (Option.bind (Aq K a1_2) (fun a2 => match a2 with | (Sum.inl a2) => some (Sum.inl a2) | (Sum.inr (a2_0, a2_1)) => (Option.bind (Al K ([40] : List UInt8) a2_1) (fun a3 => match a3 with | (Sum.inl a3) => (Option.bind (Aq K a3) (fun a4 => match a4 with | (Sum.inl a4) => some (Sum.inl a4) | (Sum.inr (a4_0, a4_1)) => (Option.bind (Al K ([41] : List UInt8) a4_1) (fun a5 => match a5 with | (Sum.inl a5) => (obind (((Option.bind ((if a1_0 = 65 then (Option.bind (Aj K ([99, 104, 101, 99, 107] : List UInt8) a5) (fun (a6_0, a6_1) => some (a6_0, a6_1.l, a6_1.i))) else some (false, a5.l, a5.i)) : Option (Bool × (List Aw) × Int)) (fun (xt33_20, xh0_0_20, xh0_1_20) => (if xt33_20 = true then (Option.bind (Ak K (⟨xh0_0_20, xh0_1_20⟩ : Ab)) (fun a7 => match a7 with | (Sum.inl a7) => some (Out.done (Sum.inl a7)) | (Sum.inr (a7_0, a7_1)) => (if ([(⟨a7_0.Op, a7_0.Name, a7_0.Int, a7_0.Text, a7_0.Kids⟩ : Aa)] : List Aa).length * 72 ≤ 140737488355328 then some (Out.go (a7_1.l, a7_1.i, ([(⟨a7_0.Op, a7_0.Name, a7_0.Int, a7_0.Text, a7_0.Kids⟩ : Aa)] : List Aa))) else none))) else some (Out.go (xh0_0_20, xh0_1_20, ([] : List Aa))))))) : Option (Out (Int ⊕ (Aa × Ab)) ((List Aw) × Int × (List Aa)))) (fun r => r) (fun (xh0_0_19, xh0_1_19, x23802) => (Option.bind (Ak K (⟨xh0_0_19, xh0_1_19⟩ : Ab)) (fun a8 => match a8 with | (Sum.inl a8) => some (Sum.inl a8) | (Sum.inr (a8_0, a8_1)) => (if (x23802.length + ([(⟨a8_0.Op, a8_0.Name, a8_0.Int, a8_0.Text, a8_0.Kids⟩ : Aa)] : List Aa).length) * 72 ≤ 140737488355328 then some ((Sum.inr ((⟨a1_0, a2_0, 0, a4_0, (x23802 ++ ([(⟨a8_0.Op, a8_0.Name, a8_0.Int, a8_0.Text, a8_0.Kids⟩ : Aa)] : List Aa))⟩ : Aa), a8_1))) else none))))) | (Sum.inr a5) => some (Sum.inl a5))))) | (Sum.inr a3) => some (Sum.inl a3))))) else (Option.bind (Bj K a1_2) (fun a9 => some (Sum.inl a9))))))
def Cj.rep (p0 : Ab) : Int ⊕ (Aa × Ab) → Outc T
 | (Sum.inl v0) => .pan (ofi 49 v0)
 | (Sum.inr (v0, v1)) => .ret (.agg [.I v0.Op, .str v0.Name, .I v0.Int, .str v0.Text, .ro .Ad v0.Kids])
def Cj.post (p0 : Ab) : Int ⊕ (Aa × Ab) → List (Nat × Blk T)
 | (Sum.inl v0) => []
 | (Sum.inr (v0, v1)) => [(0, .raw [.ro .Ax v1.l, .I v1.i])]
theorem Cj.body {Γ : Ent} {K : Nat} {p0 : Ab} {r : Int ⊕ (Aa × Ab)} (h : Cj K p0 = some r) : AWp V P 49 100 Γ (Tryz.f51.body.getD .skip) (EndsX P V Tryz.f51 (Cj.rep p0 r) (Cj.post p0 r)) ⟨args0 0 [.P 0], [(0, .raw (Ac p0))]⟩ := by
 unfold Cj at h
 refine sg0 L 200 <| awp_seq ?_
 obtain ⟨⟨a1_0, a1_1, a1_2⟩, h1, h⟩ := bind_some h
 dsimp only at h
 refine rg L 202 [] [] [(3, (ef0 (.tup [.I a1_0, .B a1_1]) [(0, .raw (Ac a1_2))]))] (pl1 (Ci.okE h1)) ?_
 refine awp_seq <| sg0 L 212 ?_
 rcases ite_some h with ⟨c1, h⟩ | ⟨c1, h⟩
 ·refine ff (b := (!a1_1)) (congrArg Bool.not (c1)) ?_
  refine awp_skip' <| awp_seq ?_
  obtain ⟨a2, h2, h⟩ := bind_some h
  rcases a2 with a2 | a2
  ·dsimp only at h
   refine qn L 218 [] [] [] 2 (ef0 (.tup []) []) (ofi 49 a2) (pl1 (Aq.okE h2)) ?_
   cases h
   exact rfl
  ·obtain ⟨a2_0, a2_1⟩ := a2
   dsimp only at h
   refine rg L 218 [] [] [(2, (ef0 (.cv (.str a2_0)) [(0, .raw (Ac a2_1))]))] (pl1 (Aq.okE h2)) ?_
   refine awp_seq ?_
   obtain ⟨a3, h3, h⟩ := bind_some h
   rcases a3 with a3 | a3
   ·dsimp only at h
    refine rg L 225 [] [] [(1, (ef0 (.tup []) [(0, .raw (Ac a3))]))] (pl1 (Al.okE h3)) ?_
    refine awp_seq ?_
    obtain ⟨a4, h4, h⟩ := bind_some h
    rcases a4 with a4 | a4
    ·dsimp only at h
     refine qn L 228 [] [] [] 1 (ef0 (.tup []) []) (ofi 49 a4) (pl1 (Aq.okE h4)) ?_
     cases h
     exact rfl
    ·obtain ⟨a4_0, a4_1⟩ := a4
     dsimp only at h
     refine rg L 228 [] [] [(1, (ef0 (.cv (.str a4_0)) [(0, .raw (Ac a4_1))]))] (pl1 (Aq.okE h4)) ?_
     refine awp_seq ?_
     obtain ⟨a5, h5, h⟩ := bind_some h
     rcases a5 with a5 | a5
     ·dsimp only at h
      refine rg L 233 [] [] [(1, (ef0 (.tup []) [(0, .raw (Ac a5))]))] (pl1 (Al.okE h5)) ?_
      obtain ⟨o2, hp2, h⟩ := obind_some h
      refine awp_seq (awp_mono (Q' := fun e S => (e = .normal ∧ ∃ xh0_0_19 : List Aw, ∃ xh0_1_19 : Int, ∃ x23802 : List Aa, S = ⟨[(0, .P 0), (2, .P 23800), (5, .P 23801)], [(0, .raw [.ro .Ax xh0_0_19, .I xh0_1_19]), (23800, .raw [.I 0, .str [], .I 0, .str [], .N]), (23801, .raw [.I a1_0, .str a2_0, .I 0, .str a4_0, .own .Ad 23802]), (23802, .lst .Ad x23802)]⟩ ∧ Out.go (xh0_0_19, xh0_1_19, x23802) = o2) ∨ ((e = .ret ∨ ∃ ch, e = .panic ch) ∧ ∃ a, Out.done a = o2 ∧ EndsX P V Tryz.f51 (Cj.rep p0 a) (Cj.post p0 a) e S)) ?_ ?_)
      ·clear h
       replace h := hp2
       obtain ⟨o1, hp1, h⟩ := bind_some h
       refine awp_seq (awp_mono (Q' := fun e S => (e = .normal ∧ ∃ xt33_20 : Bool, ∃ xh0_0_20 : List Aw, ∃ xh0_1_20 : Int, S = ⟨[(0, .P 0), (2, .P 24000), (5, .P 24001), (33, .B xt33_20)], [(0, .raw [.ro .Ax xh0_0_20, .I xh0_1_20]), (24000, .raw [.I 0, .str [], .I 0, .str [], .N]), (24001, .raw [.I a1_0, .str a2_0, .I 0, .str a4_0, .N])]⟩ ∧ (xt33_20, xh0_0_20, xh0_1_20) = o1)) ?_ ?_)
       ·clear h
        replace h := hp1
        rcases ite_some h with ⟨c2, h⟩ | ⟨c2, h⟩
        ·obtain ⟨⟨a6_0, a6_1⟩, h6, h⟩ := bind_some h
         dsimp only at h
         refine awp_post (rg L 236 [(2, true)] [] [(4, (ef0 (.B a6_0) [(0, .raw (Ac a6_1))]))] (pl2 (decide_eq_true c2) (Aj.okE h6)) ⟨rfl, rfl⟩) (Turns.trans (Turns.kk [0, 2, 5, 33] [0, 200, 222]) (Turns.trans (Turns.rr [(0, 0), (200, 24000), (222, 24001)]) (Turns.kp (S' := ⟨[(0, .P 0), (2, .P 24000), (5, .P 24001), (33, .B a6_0)], [(0, .raw (Ac a6_1)), (24000, .raw [.I 0, .str [], .I 0, .str [], .N]), (24001, .raw [.I a1_0, .str a2_0, .I 0, .str a4_0, .N])]⟩)))) ?_
         cases h
         exact ⟨rfl, _, _, _, rfl, rfl⟩
        refine awp_post (rg L 236 [(2, false)] [] [] (pl1 (decide_eq_false c2)) ⟨rfl, rfl⟩) (Turns.trans (Turns.kk [0, 2, 5, 33] [0, 200, 222]) (Turns.trans (Turns.rr [(0, 0), (200, 24000), (222, 24001)]) (Turns.kp (S' := ⟨[(0, .P 0), (2, .P 24000), (5, .P 24001), (33, .B false)], [(0, .raw (Ac a5)), (24000, .raw [.I 0, .str [], .I 0, .str [], .N]), (24001, .raw [.I a1_0, .str a2_0, .I 0, .str a4_0, .N])]⟩)))) ?_
        cases h
        exact ⟨rfl, _, _, _, rfl, rfl⟩
       ·rintro e S ⟨rfl, xt33_20, xh0_0_20, xh0_1_20, rfl, rfl⟩
        dsimp only at h
        rcases ite_some h with ⟨c3, h⟩ | ⟨c3, h⟩
        ·refine tt c3 ?_
         obtain ⟨a7, h7, h⟩ := bind_some h
         rcases a7 with a7 | a7
         ·dsimp only at h
          refine qP L mixed 243 [] [] [] [0, 2] 3 (ef0 (.tup []) []) (ofi 49 a7) (pl2 (Ak.okE h7) (Ak.okE h7)) ?_
          cases h
          exact .inr ⟨.inr ⟨_, rfl⟩, _, rfl, rfl⟩
         ·obtain ⟨a7_0, a7_1⟩ := a7
          dsimp only at h
          obtain ⟨g1, h⟩ := guard_some h
          refine awp_post (hB L mixed 243 [] [] [(3, (ef0 (.agg (Ae a7_0)) [(0, .raw (Ac a7_1))]))] [0, 2] 3 (plc (Ak.okE h7) (plc g1 (plc trivial (plc (Ak.okE h7) (plc g1 (plc trivial (plc g1 (pl1 trivial)))))))) (S' := ⟨[(0, .P 0), (2, .P 24000), (5, .P 24001)], [(0, .raw (Ac a7_1)), (248, .lst .Ad ([(⟨a7_0.Op, a7_0.Name, a7_0.Int, a7_0.Text, a7_0.Kids⟩ : Aa)] : List Aa)), (24000, .raw [.I 0, .str [], .I 0, .str [], .N]), (24001, .raw [.I a1_0, .str a2_0, .I 0, .str a4_0, .own .Ad 248])]⟩) ⟨rfl, rfl⟩) (Turns.trans (Turns.kk [0, 2, 5] [0, 248, 24000, 24001]) (Turns.trans (Turns.rr [(0, 0), (248, 23802), (24000, 23800), (24001, 23801)]) (Turns.kp (S' := ⟨[(0, .P 0), (2, .P 23800), (5, .P 23801)], [(0, .raw (Ac a7_1)), (23800, .raw [.I 0, .str [], .I 0, .str [], .N]), (23801, .raw [.I a1_0, .str a2_0, .I 0, .str a4_0, .own .Ad 23802]), (23802, .lst .Ad ([(⟨a7_0.Op, a7_0.Name, a7_0.Int, a7_0.Text, a7_0.Kids⟩ : Aa)] : List Aa))]⟩)))) ?_
          cases h
          exact .inl ⟨rfl, _, _, _, rfl, rfl⟩
        refine fN c3 <| awp_turn (Turns.trans (Turns.kk [0, 2, 5] [0, 24000, 24001]) (Turns.trans (Turns.nc 24001 4 9500 Tag.Ad) (Turns.trans (Turns.kk [0, 2, 5] [0, 9500, 24000, 24001]) (Turns.rr [(0, 0), (9500, 23802), (24000, 23800), (24001, 23801)])))) ?_
        refine sk (S' := ⟨[(0, .P 0), (2, .P 23800), (5, .P 23801)], [(0, .raw [.ro .Ax xh0_0_20, .I xh0_1_20]), (23800, .raw [.I 0, .str [], .I 0, .str [], .N]), (23801, .raw [.I a1_0, .str a2_0, .I 0, .str a4_0, .own .Ad 23802]), (23802, .lst .Ad ([] : List Aa))]⟩) ?_
        cases h
        exact .inl ⟨rfl, _, _, _, rfl, rfl⟩
      ·rintro e S (⟨rfl, xh0_0_19, xh0_1_19, x23802, rfl, rfl⟩ | ⟨he, a, rfl, hr⟩)
       ·rcases h with ⟨_, e1, h⟩ | ⟨_, e1, h⟩
        ·cases e1
        ·have e2 := Out.go.inj e1
         subst e2
         dsimp only at h
         refine awp_seq ?_
         obtain ⟨a8, h8, h⟩ := bind_some h
         rcases a8 with a8 | a8
         ·dsimp only at h
          refine qP L mixed 252 [] [] [] [0, 2] 3 (ef0 (.tup []) []) (ofi 49 a8) (pl2 (Ak.okE h8) (Ak.okE h8)) ?_
          cases h
          exact rfl
         ·obtain ⟨a8_0, a8_1⟩ := a8
          dsimp only at h
          obtain ⟨g2, h⟩ := guard_some h
          refine hB L mixed 252 [] [] [(3, (ef0 (.agg (Ae a8_0)) [(0, .raw (Ac a8_1))]))] [0, 2] 3 (plc (Ak.okE h8) (plc g2 (plc trivial (plc (Ak.okE h8) (plc g2 (plc trivial (plc g2 (pl1 trivial)))))))) (S' := ⟨[(2, .P 23800), (5, .P 23801)], [(0, .raw (Ac a8_1)), (23800, .raw [.I 0, .str [], .I 0, .str [], .N]), (23801, .raw [.I a1_0, .str a2_0, .I 0, .str a4_0, .own .Ad 23802]), (23802, .lst .Ad (x23802 ++ ([(⟨a8_0.Op, a8_0.Name, a8_0.Int, a8_0.Text, a8_0.Kids⟩ : Aa)] : List Aa)))]⟩) ?_
          refine sg0 L 261 <| awp_turn (Turns.trans (Turns.kk [2] [0, 23800, 23802]) (Turns.trans (Turns.fz 23802) (Turns.rr [(0, 0), (23800, 100)]))) ?_
          refine awp_ret ?_
          cases h
          exact xr0
       ·rcases h with ⟨_, e1, h⟩ | ⟨_, e1, h⟩
        ·have e2 := Out.done.inj e1
         subst e2
         subst h
         rcases he with rfl | ⟨ch, rfl⟩
         ·exact hr
         ·exact hr
        ·cases e1
     ·obtain ⟨a5, rfl⟩ : ∃ z, z = a5 := ⟨_, rfl⟩
      dsimp only at h
      refine qn L 233 [] [] [] 1 (ef0 (.tup []) []) (ofi 49 a5) (pl1 (Al.okE h5)) ?_
      cases h
      exact rfl
   ·obtain ⟨a3, rfl⟩ : ∃ z, z = a3 := ⟨_, rfl⟩
    dsimp only at h
    refine qn L 225 [] [] [] 1 (ef0 (.tup []) []) (ofi 49 a3) (pl1 (Al.okE h3)) ?_
    cases h
    exact rfl
 refine tt (b := (!a1_1)) (congrArg Bool.not (eq_false_of_ne_true c1)) ?_
 obtain ⟨a9, h9, h⟩ := bind_some h
 refine qn L 215 [] [] [] 1 (ef0 (.tup []) []) (ofi 49 a9) (pl1 (Bj.okE h9)) ?_
 cases h
 exact rfl
theorem Cj.okE {K : Nat} {p0 : Ab} {r : Int ⊕ (Aa × Ab)} (h : Cj K p0 = some r) : XCall V P 51 [.P 0] [(0, .raw (Ac p0))] [0] (Cj.post p0 r) (Cj.rep p0 r) :=
 xo (fn := Tryz.f51) (n := 49) (m := 100) fun Γ => Cj.body h
def B3.l7 (K : Nat) : Nat → (List Aw) → Int → (List Aa) → Option (Out (Int ⊕ (Aa × Ab)) ((List Aw) × Int × (List Aa)))
 | 0, _, _, _ => none
 | k + 1, xh0_0_7h, xh0_1_7h, x21502 => (Option.bind (Bo K (⟨xh0_0_7h, xh0_1_7h⟩ : Ab)) (fun a1 => (if a1.Kind ≠ 0 then (Option.bind (Aj K ([118, 97, 114] : List UInt8) (⟨xh0_0_7h, xh0_1_7h⟩ : Ab)) (fun (a2_0, a2_1) => (if a2_0 = true then (Option.bind (Aq K a2_1) (fun a3 => match a3 with | (Sum.inl a3) => some (Out.done (Sum.inl a3)) | (Sum.inr (a3_0, a3_1)) => (Option.bind (Al K ([61] : List UInt8) a3_1) (fun a4 => match a4 with | (Sum.inl a4) => (Option.bind (Cn K a4) (fun a5 => match a5 with | (Sum.inl a5) => some (Out.done (Sum.inl a5)) | (Sum.inr (a5_0, a5_1)) => (if (x21502.length + ([(⟨61, a3_0, 0, [], ([(⟨a5_0.Op, a5_0.Name, a5_0.Int, a5_0.Text, a5_0.Kids⟩ : Aa)] : List Aa)⟩ : Aa)] : List Aa).length) * 72 ≤ 140737488355328 then (Option.bind (Al K ([59] : List UInt8) a5_1) (fun a6 => match a6 with | (Sum.inl a6) => B3.l7 K k a6.l a6.i (x21502 ++ ([(⟨61, a3_0, 0, [], ([(⟨a5_0.Op, a5_0.Name, a5_0.Int, a5_0.Text, a5_0.Kids⟩ : Aa)] : List Aa)⟩ : Aa)] : List Aa)) | (Sum.inr a6) => some (Out.done (Sum.inl a6)))) else none))) | (Sum.inr a4) => some (Out.done (Sum.inl a4)))))) else (Option.bind (Aj K ([102, 117, 110, 99] : List UInt8) a2_1) (fun (a7_0, a7_1) => (if a7_0 = true then (Option.bind (Aq K a7_1) (fun a8 => match a8 with | (Sum.inl a8) => some (Out.done (Sum.inl a8)) | (Sum.inr (a8_0, a8_1)) => (Option.bind (Al K ([40] : List UInt8) a8_1) (fun a9 => match a9 with | (Sum.inl a9) => (Option.bind (Ck K ([41] : List UInt8) a9) (fun a10 => match a10 with | (Sum.inl (a10_0, a10_1)) => (Option.bind (Ak K a10_0) (fun a11 => match a11 with | (Sum.inl a11) => some (Out.done (Sum.inl a11)) | (Sum.inr (a11_0, a11_1)) => (if (a10_1.length + ([(⟨a11_0.Op, a11_0.Name, a11_0.Int, a11_0.Text, a11_0.Kids⟩ : Aa)] : List Aa).length) * 72 ≤ 140737488355328 then (if (x21502.length + ([(⟨62, a8_0, 0, [], (a10_1 ++ ([(⟨a11_0.Op, a11_0.Name, a11_0.Int, a11_0.Text, a11_0.Kids⟩ : Aa)] : List Aa))⟩ : Aa)] : List Aa).length) * 72 ≤ 140737488355328 then B3.l7 K k a11_1.l a11_1.i ((x21502 ++ ([(⟨62, a8_0, 0, [], (a10_1 ++ ([(⟨a11_0.Op, a11_0.Name, a11_0.Int, a11_0.Text, a11_0.Kids⟩ : Aa)] : List Aa))⟩ : Aa)] : List Aa))) else none) else none))) | (Sum.inr a10) => some (Out.done (Sum.inl a10)))) | (Sum.inr a9) => some (Out.done (Sum.inl a9)))))) else (Option.bind (Al K ([111, 110] : List UInt8) a7_1) (fun a12 => match a12 with | (Sum.inl a12) => (Option.bind (Cj K a12) (fun a13 => match a13 with | (Sum.inl a13) => some (Out.done (Sum.inl a13)) | (Sum.inr (a13_0, a13_1)) => (if (x21502.length + ([(⟨a13_0.Op, a13_0.Name, a13_0.Int, a13_0.Text, a13_0.Kids⟩ : Aa)] : List Aa).length) * 72 ≤ 140737488355328 then B3.l7 K k a13_1.l a13_1.i (x21502 ++ ([(⟨a13_0.Op, a13_0.Name, a13_0.Int, a13_0.Text, a13_0.Kids⟩ : Aa)] : List Aa)) else none))) | (Sum.inr a12) => some (Out.done (Sum.inl a12)))))))))) else some (Out.go (xh0_0_7h, xh0_1_7h, x21502)))))
def B3 (K : Nat) (p0 : Ab) : Option (Int ⊕ (Aa × Ab)) := (obind (B3.l7 K K p0.l p0.i ([] : List Aa) : Option (Out (Int ⊕ (Aa × Ab)) ((List Aw) × Int × (List Aa)))) (fun r => r) (fun (xh0_0_7, xh0_1_7, x21402) => some (Sum.inr ((⟨60, [], 0, [], x21402⟩ : Aa), (⟨xh0_0_7, xh0_1_7⟩ : Ab)))))
def B3.rep (p0 : Ab) : Int ⊕ (Aa × Ab) → Outc T
 | (Sum.inl v0) => .pan (ofi 49 v0)
 | (Sum.inr (v0, v1)) => .ret (.agg [.I v0.Op, .str v0.Name, .I v0.Int, .str v0.Text, .ro .Ad v0.Kids])
def B3.post (p0 : Ab) : Int ⊕ (Aa × Ab) → List (Nat × Blk T)
 | (Sum.inl v0) => []
 | (Sum.inr (v0, v1)) => [(0, .raw [.ro .Ax v1.l, .I v1.i])]
theorem B3.body {Γ : Ent} {K : Nat} {p0 : Ab} {r : Int ⊕ (Aa × Ab)} (h : B3 K p0 = some r) : AWp V P 64 100 Γ (Tryz.f26.body.getD .skip) (EndsX P V Tryz.f26 (B3.rep p0 r) (B3.post p0 r)) ⟨args0 0 [.P 0], [(0, .raw (Ac p0))]⟩ := by
 unfold B3 at h
 refine sg0 L 200 <| sg0 L 202 <| awp_seq <| awp_block <| awp_turn (Turns.trans (Turns.kk [0, 2, 3] [0, 200, 203]) (Turns.trans (Turns.nc 203 4 9500 Tag.Ad) (Turns.trans (Turns.kk [0, 2, 3] [0, 200, 203, 9500]) (Turns.rr [(0, 0), (200, 21500), (203, 21501), (9500, 21502)])))) ?_
 refine kp (S' := ⟨[(0, .P 0), (2, .P 21500), (3, .P 21501)], [(0, .raw (Ac p0)), (21500, .raw [.I 0, .str [], .I 0, .str [], .N]), (21501, .raw [.I 60, .str [], .I 0, .str [], .own .Ad 21502]), (21502, .lst .Ad ([] : List Aa))]⟩) ?_
 obtain ⟨o1, hp1, h⟩ := obind_some h
 refine awp_conseq (Q' := fun e S => (e = .exit 0 ∧ ∃ xh0_0_7 : List Aw, ∃ xh0_1_7 : Int, ∃ x21402 : List Aa, S = ⟨[(2, .P 21400), (3, .P 21401)], [(0, .raw [.ro .Ax xh0_0_7, .I xh0_1_7]), (21400, .raw [.I 0, .str [], .I 0, .str [], .N]), (21401, .raw [.I 60, .str [], .I 0, .str [], .own .Ad 21402]), (21402, .lst .Ad x21402)]⟩ ∧ Out.go (xh0_0_7, xh0_1_7, x21402) = o1) ∨ ((e = .ret ∨ ∃ ch, e = .panic ch) ∧ ∃ a, Out.done a = o1 ∧ EndsX P V Tryz.f26 (B3.rep p0 a) (B3.post p0 a) e S)) (awp_loop (fun k S => ∃ xh0_0_7h : List Aw, ∃ xh0_1_7h : Int, ∃ x21502 : List Aa, S = ⟨[(0, .P 0), (2, .P 21500), (3, .P 21501)], [(0, .raw [.ro .Ax xh0_0_7h, .I xh0_1_7h]), (21500, .raw [.I 0, .str [], .I 0, .str [], .N]), (21501, .raw [.I 60, .str [], .I 0, .str [], .own .Ad 21502]), (21502, .lst .Ad x21502)]⟩ ∧ B3.l7 K k xh0_0_7h xh0_1_7h x21502 = some o1) ?_ ⟨_, _, _, rfl, hp1⟩) ?_
 ·clear h hp1
  intro k S hS
  obtain ⟨xh0_0_7h, xh0_1_7h, x21502, rfl, h⟩ := hS
  cases k with
  | zero => cases h
  | succ k =>
  unfold B3.l7 at h
  refine awp_seq <| awp_seq ?_
  obtain ⟨a1, h1, h⟩ := bind_some h
  refine rg L 206 [] [(1, .agg (Dp a1))] [] (plt (Bo.ok h1)) ?_
  rcases ite_some h with ⟨c1, h⟩ | ⟨c1, h⟩
  ·refine tT c1 <| awp_skip' <| awp_block <| awp_block <| awp_seq ?_
   obtain ⟨⟨a2_0, a2_1⟩, h2, h⟩ := bind_some h
   dsimp only at h
   refine rg L 211 [] [] [(1, (ef0 (.B a2_0) [(0, .raw (Ac a2_1))]))] (pl1 (Aj.okE h2)) ?_
   rcases ite_some h with ⟨c2, h⟩ | ⟨c2, h⟩
   ·refine tt c2 <| awp_seq ?_
    obtain ⟨a3, h3, h⟩ := bind_some h
    rcases a3 with a3 | a3
    ·dsimp only at h
     refine qn L 215 [] [] [] 1 (ef0 (.tup []) []) (ofi 49 a3) (pl1 (Aq.okE h3)) ?_
     cases h
     exact .inr ⟨.inr ⟨_, rfl⟩, _, rfl, rfl⟩
    ·obtain ⟨a3_0, a3_1⟩ := a3
     dsimp only at h
     refine rg L 215 [] [] [(1, (ef0 (.cv (.str a3_0)) [(0, .raw (Ac a3_1))]))] (pl1 (Aq.okE h3)) ?_
     refine awp_seq ?_
     obtain ⟨a4, h4, h⟩ := bind_some h
     rcases a4 with a4 | a4
     ·dsimp only at h
      refine rg L 219 [] [] [(1, (ef0 (.tup []) [(0, .raw (Ac a4))]))] (pl1 (Al.okE h4)) ?_
      refine awp_seq ?_
      obtain ⟨a5, h5, h⟩ := bind_some h
      rcases a5 with a5 | a5
      ·dsimp only at h
       refine qP L mixed 222 [] [] [] [0, 2, 3] 4 (ef0 (.tup []) []) (ofi 49 a5) (pl2 (Cn.okE h5) (Cn.okE h5)) ?_
       cases h
       exact .inr ⟨.inr ⟨_, rfl⟩, _, rfl, rfl⟩
      ·obtain ⟨a5_0, a5_1⟩ := a5
       dsimp only at h
       obtain ⟨g1, h⟩ := guard_some h
       refine hB L mixed 222 [] [] [(4, (ef0 (.agg (Ae a5_0)) [(0, .raw (Ac a5_1))]))] [0, 2, 3] 5 (plc (Cn.okE h5) (plc g1 (plc trivial (plc (Cn.okE h5) (plc g1 (plc trivial (plc g1 (plc trivial (plc g1 (plc trivial (plc g1 (pl1 trivial)))))))))))) (S' := ⟨[(0, .P 0), (2, .P 21500), (3, .P 21501)], [(0, .raw (Ac a5_1)), (21500, .raw [.I 0, .str [], .I 0, .str [], .N]), (21501, .raw [.I 60, .str [], .I 0, .str [], .own .Ad 21502]), (21502, .lst .Ad (x21502 ++ ([(⟨61, a3_0, 0, [], ([(⟨a5_0.Op, a5_0.Name, a5_0.Int, a5_0.Text, a5_0.Kids⟩ : Aa)] : List Aa)⟩ : Aa)] : List Aa)))]⟩) ?_
       obtain ⟨a6, h6, h⟩ := bind_some h
       rcases a6 with a6 | a6
       ·dsimp only at h
        refine ar L 234 [] [] [(1, (ef0 (.tup []) [(0, .raw (Ac a6))]))] (cs := [ECall V P 46 [.P 0, .cv (.str ([59] : List UInt8))] [(0, .raw (Ac a5_1))] [0] (.tup []) [(0, .raw (Ac a6))]]) (S' := ⟨[(0, .P 0), (2, .P 21500), (3, .P 21501)], [(0, .raw (Ac a6)), (21500, .raw [.I 0, .str [], .I 0, .str [], .N]), (21501, .raw [.I 60, .str [], .I 0, .str [], .own .Ad 21502]), (21502, .lst .Ad (x21502 ++ ([(⟨61, a3_0, 0, [], ([(⟨a5_0.Op, a5_0.Name, a5_0.Int, a5_0.Text, a5_0.Kids⟩ : Aa)] : List Aa)⟩ : Aa)] : List Aa)))]⟩) (Al.okE h6) ?_
        exact ⟨k, Nat.lt_succ_self k, _, _, _, rfl, h⟩
       ·obtain ⟨a6, rfl⟩ : ∃ z, z = a6 := ⟨_, rfl⟩
        dsimp only at h
        refine qn L 234 [] [] [] 1 (ef0 (.tup []) []) (ofi 49 a6) (pl1 (Al.okE h6)) ?_
        cases h
        exact .inr ⟨.inr ⟨_, rfl⟩, _, rfl, rfl⟩
     ·obtain ⟨a4, rfl⟩ : ∃ z, z = a4 := ⟨_, rfl⟩
      dsimp only at h
      refine qn L 219 [] [] [] 1 (ef0 (.tup []) []) (ofi 49 a4) (pl1 (Al.okE h4)) ?_
      cases h
      exact .inr ⟨.inr ⟨_, rfl⟩, _, rfl, rfl⟩
   refine fN c2 <| awp_seq ?_
   obtain ⟨⟨a7_0, a7_1⟩, h7, h⟩ := bind_some h
   dsimp only at h
   refine rg L 237 [] [] [(1, (ef0 (.B a7_0) [(0, .raw (Ac a7_1))]))] (pl1 (Aj.okE h7)) ?_
   rcases ite_some h with ⟨c3, h⟩ | ⟨c3, h⟩
   ·refine tt c3 <| awp_seq ?_
    obtain ⟨a8, h8, h⟩ := bind_some h
    rcases a8 with a8 | a8
    ·dsimp only at h
     refine qn L 241 [] [] [] 1 (ef0 (.tup []) []) (ofi 49 a8) (pl1 (Aq.okE h8)) ?_
     cases h
     exact .inr ⟨.inr ⟨_, rfl⟩, _, rfl, rfl⟩
    ·obtain ⟨a8_0, a8_1⟩ := a8
     dsimp only at h
     refine rg L 241 [] [] [(1, (ef0 (.cv (.str a8_0)) [(0, .raw (Ac a8_1))]))] (pl1 (Aq.okE h8)) ?_
     refine awp_seq ?_
     obtain ⟨a9, h9, h⟩ := bind_some h
     rcases a9 with a9 | a9
     ·dsimp only at h
      refine rg L 245 [] [] [(1, (ef0 (.tup []) [(0, .raw (Ac a9))]))] (pl1 (Al.okE h9)) ?_
      refine awp_seq ?_
      obtain ⟨a10, h10, h⟩ := bind_some h
      rcases a10 with ⟨a10_0, a10_1⟩ | a10
      ·dsimp only at h
       refine rg L 248 [] [] [(3, (ef [0] [0] (.cv (.own .Ad 100)) [(0, .raw (Ac a10_0)), (100, .lst .Ad a10_1)] [(0, 0), (100, 5408)]))] (pl1 (Ck.okE h10)) ?_
       obtain ⟨a11, h11, h⟩ := bind_some h
       rcases a11 with a11 | a11
       ·dsimp only at h
        refine qP L mixed 254 [] [] [] [0, 2, 3, 4] 5 (ef0 (.tup []) []) (ofi 49 a11) (pl2 (Ak.okE h11) (Ak.okE h11)) ?_
        cases h
        exact .inr ⟨.inr ⟨_, rfl⟩, _, rfl, rfl⟩
       ·obtain ⟨a11_0, a11_1⟩ := a11
        dsimp only at h
        obtain ⟨g2, h⟩ := guard_some h
        obtain ⟨g3, h⟩ := guard_some h
        refine hB L mixed 254 [] [] [(5, (ef0 (.agg (Ae a11_0)) [(0, .raw (Ac a11_1))])), (9, { hids := [], fx := [], r := .tup [], H' := [], σ := [], fr := [5408] })] [0, 2, 3, 4] 6 (plc (Ak.okE h11) (plc g2 (plc trivial (plc g3 (plc trivial (plc (Ak.okE h11) (plc g2 (plc trivial (plc g3 (plc trivial (plc g2 (plc trivial (plc g3 (plc trivial (plc g2 (plc trivial (plc g3 (plc trivial (plc g3 (plc trivial (plc g3 (pl1 trivial)))))))))))))))))))))) (S' := ⟨[(0, .P 0), (2, .P 21500), (3, .P 21501)], [(0, .raw (Ac a11_1)), (21500, .raw [.I 0, .str [], .I 0, .str [], .N]), (21501, .raw [.I 60, .str [], .I 0, .str [], .own .Ad 21502]), (21502, .lst .Ad ((x21502 ++ ([(⟨62, a8_0, 0, [], (a10_1 ++ ([(⟨a11_0.Op, a11_0.Name, a11_0.Int, a11_0.Text, a11_0.Kids⟩ : Aa)] : List Aa))⟩ : Aa)] : List Aa))))]⟩) ?_
        exact ⟨k, Nat.lt_succ_self k, _, _, _, rfl, h⟩
      ·obtain ⟨a10, rfl⟩ : ∃ z, z = a10 := ⟨_, rfl⟩
       dsimp only at h
       refine qn L 248 [] [] [] 3 (ef0 (.tup []) []) (ofi 49 a10) (pl1 (Ck.okE h10)) ?_
       cases h
       exact .inr ⟨.inr ⟨_, rfl⟩, _, rfl, rfl⟩
     ·obtain ⟨a9, rfl⟩ : ∃ z, z = a9 := ⟨_, rfl⟩
      dsimp only at h
      refine qn L 245 [] [] [] 1 (ef0 (.tup []) []) (ofi 49 a9) (pl1 (Al.okE h9)) ?_
      cases h
      exact .inr ⟨.inr ⟨_, rfl⟩, _, rfl, rfl⟩
   refine fN c3 <| awp_seq ?_
   obtain ⟨a12, h12, h⟩ := bind_some h
   rcases a12 with a12 | a12
   ·dsimp only at h
    refine rg L 268 [] [] [(1, (ef0 (.tup []) [(0, .raw (Ac a12))]))] (pl1 (Al.okE h12)) ?_
    obtain ⟨a13, h13, h⟩ := bind_some h
    rcases a13 with a13 | a13
    ·dsimp only at h
     refine qP L mixed 271 [] [] [] [0, 2] 3 (ef0 (.tup []) []) (ofi 49 a13) (pl2 (Cj.okE h13) (Cj.okE h13)) ?_
     cases h
     exact .inr ⟨.inr ⟨_, rfl⟩, _, rfl, rfl⟩
    ·obtain ⟨a13_0, a13_1⟩ := a13
     dsimp only at h
     obtain ⟨g4, h⟩ := guard_some h
     refine hB L mixed 271 [] [] [(3, (ef0 (.agg (Ae a13_0)) [(0, .raw (Ac a13_1))]))] [0, 2] 3 (plc (Cj.okE h13) (plc g4 (plc trivial (plc (Cj.okE h13) (plc g4 (plc trivial (plc g4 (pl1 trivial)))))))) (S' := ⟨[(0, .P 0), (2, .P 21500), (3, .P 21501)], [(0, .raw (Ac a13_1)), (21500, .raw [.I 0, .str [], .I 0, .str [], .N]), (21501, .raw [.I 60, .str [], .I 0, .str [], .own .Ad 21502]), (21502, .lst .Ad (x21502 ++ ([(⟨a13_0.Op, a13_0.Name, a13_0.Int, a13_0.Text, a13_0.Kids⟩ : Aa)] : List Aa)))]⟩) ?_
     exact ⟨k, Nat.lt_succ_self k, _, _, _, rfl, h⟩
   ·obtain ⟨a12, rfl⟩ : ∃ z, z = a12 := ⟨_, rfl⟩
    dsimp only at h
    refine qn L 268 [] [] [] 1 (ef0 (.tup []) []) (ofi 49 a12) (pl1 (Al.okE h12)) ?_
    cases h
    exact .inr ⟨.inr ⟨_, rfl⟩, _, rfl, rfl⟩
  refine fF c1 <| awp_turn (Turns.trans (Turns.kk [2, 3] [0, 21500, 21501, 21502]) (Turns.rr [(0, 0), (21500, 21400), (21501, 21401), (21502, 21402)])) ?_
  refine ex (S' := ⟨[(2, .P 21400), (3, .P 21401)], [(0, .raw [.ro .Ax xh0_0_7h, .I xh0_1_7h]), (21400, .raw [.I 0, .str [], .I 0, .str [], .N]), (21401, .raw [.I 60, .str [], .I 0, .str [], .own .Ad 21402]), (21402, .lst .Ad x21502)]⟩) ?_
  cases h
  exact .inl ⟨rfl, _, _, _, rfl, rfl⟩
 ·rintro e S (⟨rfl, xh0_0_7, xh0_1_7, x21402, rfl, rfl⟩ | ⟨he, a, rfl, hr⟩)
  ·rcases h with ⟨_, e1, h⟩ | ⟨_, e1, h⟩
   ·cases e1
   ·have e2 := Out.go.inj e1
    subst e2
    dsimp only at h
    refine ⟨_, Turns.refl, ?_⟩
    refine sg0 L 280 <| awp_turn (Turns.trans (Turns.kk [2] [0, 21400, 21402]) (Turns.trans (Turns.fz 21402) (Turns.rr [(0, 0), (21400, 100)]))) ?_
    refine awp_ret ?_
    cases h
    exact xr0
  ·rcases h with ⟨_, e1, h⟩ | ⟨_, e1, h⟩
   ·have e2 := Out.done.inj e1
    subst e2
    subst h
    rcases he with rfl | ⟨ch, rfl⟩
    ·exact ⟨_, Turns.refl, hr⟩
    ·exact ⟨_, Turns.refl, hr⟩
   ·cases e1
theorem B3.okE {K : Nat} {p0 : Ab} {r : Int ⊕ (Aa × Ab)} (h : B3 K p0 = some r) : XCall V P 26 [.P 0] [(0, .raw (Ac p0))] [0] (B3.post p0 r) (B3.rep p0 r) :=
 xo (fn := Tryz.f26) (n := 64) (m := 100) fun Γ => B3.body h
def D1 (K : Nat) (p0 : List Aw) (p1 : Int) : Option (Int ⊕ (Aa × Int × Int)) := (Option.bind (B3 K (⟨p0, 0⟩ : Ab)) (fun a1 => match a1 with | (Sum.inl a1) => some (Sum.inl a1) | (Sum.inr (a1_0, a1_1)) => (Option.bind (Bo K a1_1) (fun a2 => (if a2.Kind ≠ 0 then (Option.bind (Bj K a1_1) (fun a3 => some (Sum.inl a3))) else (Option.bind (Co K a1_0) (fun a4 => (if a4 > 4000 then some (Sum.inr ((⟨0, [], 0, [], ([] : List Aa)⟩ : Aa), 0, 6)) else (Option.bind (Cm K a1_0) (fun a5 => (if a5 > 40 then some (Sum.inr ((⟨0, [], 0, [], ([] : List Aa)⟩ : Aa), 0, 7)) else some (Sum.inr (a1_0, 0, 0)))))))))))))
def D1.rep (p0 : List Aw) (p1 : Int) : Int ⊕ (Aa × Int × Int) → Outc T
 | (Sum.inl v0) => .pan (ofi 49 v0)
 | (Sum.inr (v0, v1, v2)) => .ret (.tup [.agg [.I v0.Op, .str v0.Name, .I v0.Int, .str v0.Text, .ro .Ad v0.Kids], .I v1, .I v2])
theorem D1.body {Γ : Ent} {K : Nat} {p0 : List Aw} {p1 : Int} {r : Int ⊕ (Aa × Int × Int)} (h : D1 K p0 p1 = some r) : AWp V P 44 93 Γ (codeY (codeY (codeY (codeY (Tryz.f25.body.getD .skip))))) (EndsR P V Tryz.f25 (D1.rep p0 p1 r)) ⟨[(1, .cv (.fn (.func 26) [] [])), (4, .P 90), (5, .P 91), (6, .P 92), (7, .cv (.ro .Ax p0))], [(90, .raw [.I 0, .str [], .I 0, .str [], .N]), (91, .raw [.I p1]), (92, .raw [.I 0])]⟩ := by
 unfold D1 at h
 refine sg0 L 200 <| awp_seq ?_
 obtain ⟨a1, h1, h⟩ := bind_some h
 rcases a1 with a1 | a1
 ·dsimp only at h
  refine pn L 205 [] [] [] 2 [4, 5, 6] [90, 91, 92] (ef [0] [0] (.tup []) [] [(0, 202)]) (ofi 49 a1) (cs := [XPan V P 26 [.P 0] [(0, .raw [.ro .Ax p0, .I 0])] (ofi 49 a1)]) (S' := ⟨[(4, .P 90), (5, .P 91), (6, .P 92)], [(90, .raw [.I 0, .str [], .I 0, .str [], .N]), (91, .raw [.I p1]), (92, .raw [.I 0])]⟩) (B3.okE h1) ?_
  cases h
  exact (rp : EndsR P V Tryz.f25 (D1.rep p0 p1 (Sum.inl a1)) _ _)
 ·obtain ⟨a1_0, a1_1⟩ := a1
  dsimp only at h
  refine rg L 205 [] [] [(2, (ef [0] [0] (.agg (Ae a1_0)) [(0, .raw (Ac a1_1))] [(0, 202)]))] (pl1 (B3.okE h1)) ?_
  refine awp_seq <| awp_seq ?_
  obtain ⟨a2, h2, h⟩ := bind_some h
  refine rg L 210 [] [(1, .agg (Dp a2))] [] (plt (Bo.ok h2)) ?_
  rcases ite_some h with ⟨c1, h⟩ | ⟨c1, h⟩
  ·refine tT c1 ?_
   obtain ⟨a3, h3, h⟩ := bind_some h
   refine pn L 215 [] [] [] 1 [4, 5, 6] [90, 91, 92] (ef [0] [0] (.tup []) [] [(0, 202)]) (ofi 49 a3) (cs := [XPan V P 43 [.P 0] [(0, .raw (Ac a1_1))] (ofi 49 a3)]) (S' := ⟨[(4, .P 90), (5, .P 91), (6, .P 92)], [(90, .raw (Ae a1_0)), (91, .raw [.I p1]), (92, .raw [.I 0])]⟩) (Bj.okE h3) ?_
   cases h
   exact (rp : EndsR P V Tryz.f25 (D1.rep p0 p1 (Sum.inl a3)) _ _)
  refine fF c1 <| awp_skip' <| awp_seq <| awp_block <| awp_seq ?_
  obtain ⟨a4, h4, h⟩ := bind_some h
  refine rg L 218 [] [(1, .I a4)] [] (plt (Co.ok h4)) ?_
  rcases ite_some h with ⟨c2, h⟩ | ⟨c2, h⟩
  ·refine tT c2 <| sg0 L 223 <| awp_ret ?_
   cases h
   exact rr0
  refine fF c2 <| awp_seq ?_
  obtain ⟨a5, h5, h⟩ := bind_some h
  refine rg L 228 [] [(1, .I a5)] [] (plt (Cm.ok h5)) ?_
  rcases ite_some h with ⟨c3, h⟩ | ⟨c3, h⟩
  ·refine tT c3 <| sg0 L 233 <| awp_ret ?_
   cases h
   exact rr0
  refine fF c3 <| awp_skip' <| sg0 L 238 <| awp_ret ?_
  cases h
  exact rr0
def F2 : Int ⊕ (Aa × Int × Int) → Aa × Int × Int
 | (Sum.inl v0) => (Ai, v0, 29)
 | (Sum.inr (v0, v1, v2)) => (v0, v1, v2)
def Fg (K : Nat) (p0 : List UInt8) : Option (Aa × Int × Int) := Option.bind (En K p0) (fun (a1_0, a1_1, a1_2) => if a1_2 ≠ 0 then some (Ai, a1_1, a1_2) else Option.bind (D1 K a1_0 a1_1) (fun x => some (F2 x)))
theorem Fg.ok {K : Nat} {p0 : List UInt8} {r : Aa × Int × Int} (h : Fg K p0 = some r) : PCall V P 25 [.cv (.str p0), .cv (.fn (.func 26) [] [])] (.tup [.agg (Ae r.1), .I r.2.1, .I r.2.2]) := by
 unfold Fg at h
 obtain ⟨⟨l, at0, e0⟩, h1, h⟩ := bind_some h
 dsimp only at h
 by_cases he : e0 ≠ 0
 ·rw [if_pos he] at h
  obtain rfl := Option.some.inj h
  exact Gs (En.ok h1) he
 ·rw [if_neg he] at h
  obtain ⟨x, h2, h⟩ := bind_some h
  obtain rfl := Option.some.inj h
  have he0 : e0 = 0 := Decidable.not_not.1 he
  subst he0
  refine Gj (o := D1.rep l at0 x) (En.ok h1) (fun Γ => D1.body h2) ?_
  rcases x with v0 | ⟨v0, v1, v2⟩
  ·exact .inr ⟨v0, rfl, rfl⟩
  ·exact .inl rfl
def E8 (K : Nat) (p0 : List UInt8) : Option (Aa × Int × Int) := (Option.bind (Fg K p0) (fun (a1_0, a1_1, a1_2) => some (a1_0, a1_1, a1_2)))
theorem E8.body {Γ : Ent} {K : Nat} {p0 : List UInt8} {r : Aa × Int × Int} (h : E8 K p0 = some r) : AWp V P 10 100 Γ (Tryz.f10.body.getD .skip) (EndsE P V Tryz.f10 (.tup [.agg [.I r.1.Op, .str r.1.Name, .I r.1.Int, .str r.1.Text, .ro .Ad r.1.Kids], .I r.2.1, .I r.2.2]) []) ⟨args0 0 [.cv (.str p0)], []⟩ := by
 unfold E8 at h
 refine sg0 L 200 <| awp_seq ?_
 obtain ⟨⟨a1_0, a1_1, a1_2⟩, h1, h⟩ := bind_some h
 dsimp only at h
 refine rg L 204 [] [(1, .tup [.agg (Ae a1_0), .I a1_1, .I a1_2])] [] (plt (Fg.ok h1)) ?_
 refine awp_turn (Turns.trans (Turns.kk [2, 3, 4] [200]) (Turns.rr [(200, 100)])) ?_
 refine awp_ret ?_
 cases h
 exact er0
theorem E8.ok {K : Nat} {p0 : List UInt8} {r : Aa × Int × Int} (h : E8 K p0 = some r) : PCall V P 10 [.cv (.str p0)] (.tup [.agg [.I r.1.Op, .str r.1.Name, .I r.1.Int, .str r.1.Text, .ro .Ad r.1.Kids], .I r.2.1, .I r.2.2]) := ECall.pcall (eo (fn := Tryz.f10) (n := 10) (m := 100) fun Γ => E8.body h) (by kernel_rfl)
structure Dj where
 B5 : Aa → Aa → Option Bool
structure Dj.Ok (R : Dj) : Prop where
 B5 : ∀ {p0 : Aa} {p1 : Aa} {r : Bool}, R.B5 p0 p1 = some r → ECall V P 12 [.agg (Ae p0), .agg (Ae p1)] [] [] (.B r) []
theorem B5.okR {R : Dj} (hR : R.Ok) {p0 : Aa} {p1 : Aa} {r : Bool} (h : R.B5 p0 p1 = some r) : PCall V P 12 [.agg (Ae p0), .agg (Ae p1)] (.B r) := (hR.B5 h).pcall (by kernel_rfl)
def B5.l15 (K : Nat) (R : Dj) (p0 : Aa) (p1 : Aa) : Nat → Int → Option (Out Bool Unit)
 | 0, _ => none
 | k + 1, xt5_15h => (if xt5_15h < (p0.Kids.length : Int) then (if (0 : Int) ≤ xt5_15h ∧ (xt5_15h : Int) < (p0.Kids.length : Int) then (if (xt5_15h : Int) < (p1.Kids.length : Int) then (Option.bind (R.B5 (p0.Kids.getD (Int.toNat xt5_15h) Ai) (p1.Kids.getD (Int.toNat xt5_15h) Ai)) (fun a1 => (if a1 = true then B5.l15 K R p0 p1 k (IntKind.i64.wrap (xt5_15h + 1)) else some (Out.done false)))) else none) else none) else some (Out.go ()))
def B5.F (K : Nat) (R : Dj) (p0 : Aa) (p1 : Aa) : Option Bool := (if p0.Op ≠ p1.Op then some false else (if p0.Name ≠ p1.Name then some false else (if p0.Int ≠ p1.Int then some false else (if p0.Text ≠ p1.Text then some false else (if (p0.Kids.length : Int) ≠ (p1.Kids.length : Int) then some false else (obind (B5.l15 K R p0 p1 K 0 : Option (Out Bool Unit)) (fun r => r) (fun _ => some true)))))))
theorem B5.body {Γ : Ent} {K : Nat} {R : Dj} (hR : R.Ok) {p0 : Aa} {p1 : Aa} {r : Bool} (h : B5.F K R p0 p1 = some r) : AWp V P 60 100 Γ (Tryz.f12.body.getD .skip) (EndsE P V Tryz.f12 (.B r) []) ⟨args0 0 [.agg (Ae p0), .agg (Ae p1)], []⟩ := by
 unfold B5.F at h
 refine sg0 L 200 <| awp_seq <| awp_seq ?_
 rcases ite_some h with ⟨c1, h⟩ | ⟨c1, h⟩
 ·refine rg L 204 [(5, true)] [] [] (pl1 (decide_eq_true c1)) ?_
  refine tt (b := true) (rfl) ?_
  refine sg0 L 240 <| awp_ret ?_
  cases h
  exact er0
 rcases ite_some h with ⟨c2, h⟩ | ⟨c2, h⟩
 ·refine rg L 204 [(5, false), (12, true)] [] [] (pl2 (decide_eq_false c1) (decide_eq_true c2)) ?_
  refine tt (b := true) (rfl) ?_
  refine sg0 L 240 <| awp_ret ?_
  cases h
  exact er0
 rcases ite_some h with ⟨c3, h⟩ | ⟨c3, h⟩
 ·refine rg L 204 [(5, false), (12, false), (19, true)] [] [] (plc (decide_eq_false c1) (plc (decide_eq_false c2) (pl1 (decide_eq_true c3)))) ?_
  refine tt (b := true) (rfl) ?_
  refine sg0 L 240 <| awp_ret ?_
  cases h
  exact er0
 rcases ite_some h with ⟨c4, h⟩ | ⟨c4, h⟩
 ·refine rg L 204 [(5, false), (12, false), (19, false), (26, true)] [] [] (plc (decide_eq_false c1) (plc (decide_eq_false c2) (plc (decide_eq_false c3) (pl1 (decide_eq_true c4))))) ?_
  refine tt (b := true) (rfl) ?_
  refine sg0 L 240 <| awp_ret ?_
  cases h
  exact er0
 refine rg L 204 [(5, false), (12, false), (19, false), (26, false)] [] [] (plc (decide_eq_false c1) (plc (decide_eq_false c2) (plc (decide_eq_false c3) (pl1 (decide_eq_false c4))))) ?_
 rcases ite_some h with ⟨c5, h⟩ | ⟨c5, h⟩
 ·refine tT c5 <| sg0 L 240 <| awp_ret ?_
  cases h
  exact er0
 refine fF c5 <| awp_skip' <| awp_seq <| sg0 L 242 <| awp_block <| awp_turn (Turns.trans (Turns.kk [2, 3, 5] [200, 201]) (Turns.rr [(200, 23100), (201, 23101)])) ?_
 refine kp (S' := ⟨[(2, .P 23100), (3, .P 23101), (5, .I 0)], [(23100, .raw (Ae p0)), (23101, .raw (Ae p1))]⟩) ?_
 obtain ⟨o1, hp1, h⟩ := obind_some h
 refine awp_conseq (Q' := fun e S => (e = .exit 0 ∧ S = ⟨[], []⟩ ∧ Out.go () = o1) ∨ (e = .ret ∧ ∃ a, Out.done a = o1 ∧ EndsE P V Tryz.f12 (.B a) [] .ret S)) (awp_loop (fun k S => ∃ xt5_15h : Int, S = ⟨[(2, .P 23100), (3, .P 23101), (5, .I xt5_15h)], [(23100, .raw (Ae p0)), (23101, .raw (Ae p1))]⟩ ∧ B5.l15 K R p0 p1 k xt5_15h = some o1) ?_ ⟨_, rfl, hp1⟩) ?_
 ·clear h hp1
  intro k S hS
  obtain ⟨xt5_15h, rfl, h⟩ := hS
  cases k with
  | zero => cases h
  | succ k =>
  unfold B5.l15 at h
  refine awp_seq <| sg0 L 244 ?_
  rcases ite_some h with ⟨c6, h⟩ | ⟨c6, h⟩
  ·refine tT c6 <| awp_skip' <| awp_seq <| awp_block <| awp_seq ?_
   obtain ⟨g1, h⟩ := guard_some h
   obtain ⟨g2, h⟩ := guard_some h
   obtain ⟨a1, h1, h⟩ := bind_some h
   refine rd L mixed 250 [] [(10, .B a1)] [] [] 12 (plc g1.1 (plc g1.2 (plc g1.1 (plc g2 (plc (B5.okR hR h1) (pl1 trivial)))))) ?_
   rcases ite_some h with ⟨c7, h⟩ | ⟨c7, h⟩
   ·refine ff (b := (!a1)) (congrArg Bool.not (c7)) ?_
    refine awp_skip' <| ar0 L 265 [] [] [] (S' := ⟨[(2, .P 23100), (3, .P 23101), (5, .I (IntKind.i64.wrap (xt5_15h + 1)))], [(23100, .raw (Ae p0)), (23101, .raw (Ae p1))]⟩) ?_
    exact ⟨k, Nat.lt_succ_self k, _, rfl, h⟩
   refine tt (b := (!a1)) (congrArg Bool.not (eq_false_of_ne_true c7)) ?_
   refine sg0 L 263 <| awp_ret ?_
   cases h
   exact .inr ⟨rfl, _, rfl, er0⟩
  refine fF c6 <| ex (S' := ⟨[], []⟩) ?_
  cases h
  exact .inl ⟨rfl, rfl, rfl⟩
 ·rintro e S (⟨rfl, rfl, rfl⟩ | ⟨rfl, a, rfl, hr⟩)
  ·rcases h with ⟨_, e1, h⟩ | ⟨_, e1, h⟩
   ·cases e1
   ·have e2 := Out.go.inj e1
    subst e2
    refine ⟨_, Turns.refl, ?_⟩
    refine sg0 L 269 <| awp_ret ?_
    cases h
    exact er0
  ·rcases h with ⟨_, e1, h⟩ | ⟨_, e1, h⟩
   ·have e2 := Out.done.inj e1
    subst e2
    subst h
    exact ⟨_, Turns.refl, hr⟩
   ·cases e1
def Dj.upto (K : Nat) : Nat → Dj
 | 0 => ⟨fun _ _ => none⟩
 | k + 1 => ⟨B5.F K (Dj.upto K k)⟩
theorem Dj.upto_ok (K : Nat) : ∀ k, (Dj.upto K k).Ok
 | 0 => ⟨fun h => (by cases h)⟩
 | k + 1 => ⟨fun {p0 p1 r} h => eo (fn := Tryz.f12) (n := 60) (m := 100) fun Γ => B5.body (K := K) (Dj.upto_ok K k) h⟩
def B5 (K : Nat) (p0 : Aa) (p1 : Aa) : Option Bool := (Dj.upto K K).B5 p0 p1
theorem B5.okE {K : Nat} {p0 : Aa} {p1 : Aa} {r : Bool} (h : B5 K p0 p1 = some r) : ECall V P 12 [.agg (Ae p0), .agg (Ae p1)] [] [] (.B r) [] := (Dj.upto_ok K K).B5 h
theorem B5.ok {K : Nat} {p0 : Aa} {p1 : Aa} {r : Bool} (h : B5 K p0 p1 = some r) : PCall V P 12 [.agg (Ae p0), .agg (Ae p1)] (.B r) := (B5.okE h).pcall (by kernel_rfl)
def Ee (K : Nat) (p0 : Aa) : Option Bool := (Option.bind (Co K p0) (fun a1 => (if a1 ≤ 4000 then (Option.bind (Cm K p0) (fun a2 => some (decide (a2 ≤ 40)))) else some false)))
theorem Ee.body {Γ : Ent} {K : Nat} {p0 : Aa} {r : Bool} (h : Ee K p0 = some r) : AWp V P 11 100 Γ (Tryz.f28.body.getD .skip) (EndsE P V Tryz.f28 (.B r) []) ⟨args0 0 [.agg (Ae p0)], []⟩ := by
 unfold Ee at h
 refine sg0 L 200 <| awp_seq ?_
 obtain ⟨a1, h1, h⟩ := bind_some h
 rcases ite_some h with ⟨c1, h⟩ | ⟨c1, h⟩
 ·obtain ⟨a2, h2, h⟩ := bind_some h
  refine rg L 203 [(3, true)] [(1, .I a1), (5, .I a2)] [] (plc (Co.ok h1) (plc trivial (plc (decide_eq_true c1) (plc (Cm.ok h2) (pl1 trivial))))) ?_
  refine awp_ret ?_
  cases h
  exact er0
 refine rg L 203 [(3, false)] [(1, .I a1)] [] (plc (Co.ok h1) (plc trivial (pl1 (decide_eq_false c1)))) ?_
 refine awp_ret ?_
 cases h
 exact er0
theorem Ee.ok {K : Nat} {p0 : Aa} {r : Bool} (h : Ee K p0 = some r) : PCall V P 28 [.agg (Ae p0)] (.B r) := ECall.pcall (eo (fn := Tryz.f28) (n := 11) (m := 100) fun Γ => Ee.body h) (by kernel_rfl)
def Av (K : Nat) (p0 : Aa) (p1 : Bool) (p2 : Bool) (p3 : Bool) : Option Bool := (if p1 = true then (if p2 = true then (if p3 = true then some true else some (decide (p0.Int = 0))) else (if p0.Text = ([] : List UInt8) then (if p3 = true then some true else some (decide (p0.Int = 0))) else some false)) else (if p0.Name = ([] : List UInt8) then (if p2 = true then (if p3 = true then some true else some (decide (p0.Int = 0))) else (if p0.Text = ([] : List UInt8) then (if p3 = true then some true else some (decide (p0.Int = 0))) else some false)) else some false))
theorem Av.body {Γ : Ent} {K : Nat} {p0 : Aa} {p1 : Bool} {p2 : Bool} {p3 : Bool} {r : Bool} (h : Av K p0 p1 p2 p3 = some r) : AWp V P 31 100 Γ (Tryz.f29.body.getD .skip) (EndsE P V Tryz.f29 (.B r) []) ⟨args0 0 [.agg (Ae p0), .B p1, .B p2, .B p3], []⟩ := by
 unfold Av at h
 refine sg0 L 200 <| awp_seq ?_
 rcases ite_some h with ⟨c1, h⟩ | ⟨c1, h⟩
 ·rcases ite_some h with ⟨c2, h⟩ | ⟨c2, h⟩
  ·rcases ite_some h with ⟨c3, h⟩ | ⟨c3, h⟩
   ·refine rg L 203 [(1, true), (8, true), (16, true)] [] [] (plc c1 (plc c2 (pl1 c3))) ?_
    refine awp_ret ?_
    cases h
    exact er0
   refine rg L 203 [(1, true), (8, true), (16, false)] [] [] (plc c1 (plc c2 (pl1 (eq_false_of_ne_true c3)))) ?_
   refine awp_ret ?_
   cases h
   exact er0
  rcases ite_some h with ⟨c4, h⟩ | ⟨c4, h⟩
  ·rcases ite_some h with ⟨c5, h⟩ | ⟨c5, h⟩
   ·refine rg L 203 [(1, true), (8, false), (14, true), (16, true)] [] [] (plc c1 (plc (eq_false_of_ne_true c2) (plc (decide_eq_true c4) (pl1 c5)))) ?_
    refine awp_ret ?_
    cases h
    exact er0
   refine rg L 203 [(1, true), (8, false), (14, true), (16, false)] [] [] (plc c1 (plc (eq_false_of_ne_true c2) (plc (decide_eq_true c4) (pl1 (eq_false_of_ne_true c5))))) ?_
   refine awp_ret ?_
   cases h
   exact er0
  refine rg L 203 [(1, true), (8, false), (14, false)] [] [] (plc c1 (plc (eq_false_of_ne_true c2) (pl1 (decide_eq_false c4)))) ?_
  refine awp_ret ?_
  cases h
  exact er0
 rcases ite_some h with ⟨c6, h⟩ | ⟨c6, h⟩
 ·rcases ite_some h with ⟨c7, h⟩ | ⟨c7, h⟩
  ·rcases ite_some h with ⟨c8, h⟩ | ⟨c8, h⟩
   ·refine rg L 203 [(1, false), (6, true), (8, true), (16, true)] [] [] (plc (eq_false_of_ne_true c1) (plc (decide_eq_true c6) (plc c7 (pl1 c8)))) ?_
    refine awp_ret ?_
    cases h
    exact er0
   refine rg L 203 [(1, false), (6, true), (8, true), (16, false)] [] [] (plc (eq_false_of_ne_true c1) (plc (decide_eq_true c6) (plc c7 (pl1 (eq_false_of_ne_true c8))))) ?_
   refine awp_ret ?_
   cases h
   exact er0
  rcases ite_some h with ⟨c9, h⟩ | ⟨c9, h⟩
  ·rcases ite_some h with ⟨c10, h⟩ | ⟨c10, h⟩
   ·refine rg L 203 [(1, false), (6, true), (8, false), (14, true), (16, true)] [] [] (plc (eq_false_of_ne_true c1) (plc (decide_eq_true c6) (plc (eq_false_of_ne_true c7) (plc (decide_eq_true c9) (pl1 c10))))) ?_
    refine awp_ret ?_
    cases h
    exact er0
   refine rg L 203 [(1, false), (6, true), (8, false), (14, true), (16, false)] [] [] (plc (eq_false_of_ne_true c1) (plc (decide_eq_true c6) (plc (eq_false_of_ne_true c7) (plc (decide_eq_true c9) (pl1 (eq_false_of_ne_true c10)))))) ?_
   refine awp_ret ?_
   cases h
   exact er0
  refine rg L 203 [(1, false), (6, true), (8, false), (14, false)] [] [] (plc (eq_false_of_ne_true c1) (plc (decide_eq_true c6) (plc (eq_false_of_ne_true c7) (pl1 (decide_eq_false c9))))) ?_
  refine awp_ret ?_
  cases h
  exact er0
 refine rg L 203 [(1, false), (6, false)] [] [] (pl2 (eq_false_of_ne_true c1) (decide_eq_false c6)) ?_
 refine awp_ret ?_
 cases h
 exact er0
theorem Av.ok {K : Nat} {p0 : Aa} {p1 : Bool} {p2 : Bool} {p3 : Bool} {r : Bool} (h : Av K p0 p1 p2 p3 = some r) : PCall V P 29 [.agg (Ae p0), .B p1, .B p2, .B p3] (.B r) := ECall.pcall (eo (fn := Tryz.f29) (n := 31) (m := 100) fun Γ => Av.body h) (by kernel_rfl)
def A8.l15 (K : Nat) (p0 : List UInt8) : Nat → Int → Option (Out Bool Unit)
 | 0, _ => none
 | k + 1, xt29_15h => (if xt29_15h < (p0.length : Int) then (if (0 : Int) ≤ xt29_15h ∧ (xt29_15h : Int) < (p0.length : Int) then (if ((p0.getD (Int.toNat xt29_15h) 0).toNat : Int) ≥ 97 then (if ((p0.getD (Int.toNat xt29_15h) 0).toNat : Int) ≤ 122 then A8.l15 K p0 k (IntKind.i64.wrap (xt29_15h + 1)) else (if ((p0.getD (Int.toNat xt29_15h) 0).toNat : Int) ≥ 65 then (if ((p0.getD (Int.toNat xt29_15h) 0).toNat : Int) ≤ 90 then A8.l15 K p0 k (IntKind.i64.wrap (xt29_15h + 1)) else (if ((p0.getD (Int.toNat xt29_15h) 0).toNat : Int) ≥ 48 then (if ((p0.getD (Int.toNat xt29_15h) 0).toNat : Int) ≤ 57 then A8.l15 K p0 k (IntKind.i64.wrap (xt29_15h + 1)) else (if ((p0.getD (Int.toNat xt29_15h) 0).toNat : Int) = 95 then A8.l15 K p0 k (IntKind.i64.wrap (xt29_15h + 1)) else some (Out.done false))) else (if ((p0.getD (Int.toNat xt29_15h) 0).toNat : Int) = 95 then A8.l15 K p0 k (IntKind.i64.wrap (xt29_15h + 1)) else some (Out.done false)))) else (if ((p0.getD (Int.toNat xt29_15h) 0).toNat : Int) ≥ 48 then (if ((p0.getD (Int.toNat xt29_15h) 0).toNat : Int) ≤ 57 then A8.l15 K p0 k (IntKind.i64.wrap (xt29_15h + 1)) else (if ((p0.getD (Int.toNat xt29_15h) 0).toNat : Int) = 95 then A8.l15 K p0 k (IntKind.i64.wrap (xt29_15h + 1)) else some (Out.done false))) else (if ((p0.getD (Int.toNat xt29_15h) 0).toNat : Int) = 95 then A8.l15 K p0 k (IntKind.i64.wrap (xt29_15h + 1)) else some (Out.done false))))) else (if ((p0.getD (Int.toNat xt29_15h) 0).toNat : Int) ≥ 65 then (if ((p0.getD (Int.toNat xt29_15h) 0).toNat : Int) ≤ 90 then A8.l15 K p0 k (IntKind.i64.wrap (xt29_15h + 1)) else (if ((p0.getD (Int.toNat xt29_15h) 0).toNat : Int) ≥ 48 then (if ((p0.getD (Int.toNat xt29_15h) 0).toNat : Int) ≤ 57 then A8.l15 K p0 k (IntKind.i64.wrap (xt29_15h + 1)) else (if ((p0.getD (Int.toNat xt29_15h) 0).toNat : Int) = 95 then A8.l15 K p0 k (IntKind.i64.wrap (xt29_15h + 1)) else some (Out.done false))) else (if ((p0.getD (Int.toNat xt29_15h) 0).toNat : Int) = 95 then A8.l15 K p0 k (IntKind.i64.wrap (xt29_15h + 1)) else some (Out.done false)))) else (if ((p0.getD (Int.toNat xt29_15h) 0).toNat : Int) ≥ 48 then (if ((p0.getD (Int.toNat xt29_15h) 0).toNat : Int) ≤ 57 then A8.l15 K p0 k (IntKind.i64.wrap (xt29_15h + 1)) else (if ((p0.getD (Int.toNat xt29_15h) 0).toNat : Int) = 95 then A8.l15 K p0 k (IntKind.i64.wrap (xt29_15h + 1)) else some (Out.done false))) else (if ((p0.getD (Int.toNat xt29_15h) 0).toNat : Int) = 95 then A8.l15 K p0 k (IntKind.i64.wrap (xt29_15h + 1)) else some (Out.done false))))) else none) else some (Out.go ()))
def A8 (K : Nat) (p0 : List UInt8) : Option Bool := (obind (((if (p0.length : Int) < 1 then some (Out.done false) else (if (p0.length : Int) > 64 then some (Out.done false) else (Option.bind (Eh K p0) (fun a1 => (if a1 = true then some (Out.done false) else (if (0 : Int) < (p0.length : Int) then (if ((p0.getD (Int.toNat 0) 0).toNat : Int) ≥ 48 then (if ((p0.getD (Int.toNat 0) 0).toNat : Int) ≤ 57 then some (Out.done false) else some (Out.go ())) else some (Out.go ())) else none))))))) : Option (Out Bool Unit)) (fun r => r) (fun _ => (obind (A8.l15 K p0 K 0 : Option (Out Bool Unit)) (fun r => r) (fun _ => some true))))
theorem A8.body {Γ : Ent} {K : Nat} {p0 : List UInt8} {r : Bool} (h : A8 K p0 = some r) : AWp V P 63 100 Γ (Tryz.f58.body.getD .skip) (EndsE P V Tryz.f58 (.B r) []) ⟨args0 0 [.cv (.str p0)], []⟩ := by
 unfold A8 at h
 refine sg0 L 200 ?_
 obtain ⟨o1, hp1, h⟩ := obind_some h
 refine awp_seq (awp_mono (Q' := fun e S => (e = .normal ∧ S = ⟨[(0, .cv (.str p0))], []⟩ ∧ Out.go () = o1) ∨ (e = .ret ∧ ∃ a, Out.done a = o1 ∧ EndsE P V Tryz.f58 (.B a) [] .ret S)) ?_ ?_)
 ·clear h
  replace h := hp1
  refine awp_seq ?_
  rcases ite_some h with ⟨c1, h⟩ | ⟨c1, h⟩
  ·refine rg L 202 [(3, true)] [] [] (pl1 (decide_eq_true c1)) ?_
   refine tt (b := true) (rfl) ?_
   refine sg0 L 225 <| awp_ret ?_
   cases h
   exact .inr ⟨rfl, _, rfl, er0⟩
  rcases ite_some h with ⟨c2, h⟩ | ⟨c2, h⟩
  ·refine rg L 202 [(3, false), (8, true)] [] [] (pl2 (decide_eq_false c1) (decide_eq_true c2)) ?_
   refine tt (b := true) (rfl) ?_
   refine sg0 L 225 <| awp_ret ?_
   cases h
   exact .inr ⟨rfl, _, rfl, er0⟩
  obtain ⟨a1, h1, h⟩ := bind_some h
  rcases ite_some h with ⟨c3, h⟩ | ⟨c3, h⟩
  ·refine rg L 202 [(3, false), (8, false), (12, true)] [(10, .B a1)] [] (plc (decide_eq_false c1) (plc (decide_eq_false c2) (plc (Eh.ok h1) (plc trivial (pl1 c3))))) ?_
   refine tt (b := true) (rfl) ?_
   refine sg0 L 225 <| awp_ret ?_
   cases h
   exact .inr ⟨rfl, _, rfl, er0⟩
  obtain ⟨g1, h⟩ := guard_some h
  rcases ite_some h with ⟨c4, h⟩ | ⟨c4, h⟩
  ·refine rg L 202 [(3, false), (8, false), (12, false), (16, true)] [(10, .B a1)] [] (plc (decide_eq_false c1) (plc (decide_eq_false c2) (plc (Eh.ok h1) (plc trivial (plc (eq_false_of_ne_true c3) (plc (show (0 : Int) ≤ 0 from by decide) (plc g1 (plc (decide_eq_true c4) (plc (show (0 : Int) ≤ 0 from by decide) (pl1 g1)))))))))) ?_
   rcases ite_some h with ⟨c5, h⟩ | ⟨c5, h⟩
   ·refine tT c5 <| sg0 L 225 <| awp_ret ?_
    cases h
    exact .inr ⟨rfl, _, rfl, er0⟩
   refine fF c5 <| sk (S' := ⟨[(0, .cv (.str p0))], []⟩) ?_
   cases h
   exact .inl ⟨rfl, rfl, rfl⟩
  refine rg L 202 [(3, false), (8, false), (12, false), (16, false)] [(10, .B a1)] [] (plc (decide_eq_false c1) (plc (decide_eq_false c2) (plc (Eh.ok h1) (plc trivial (plc (eq_false_of_ne_true c3) (plc (show (0 : Int) ≤ 0 from by decide) (plc g1 (pl1 (decide_eq_false c4))))))))) ?_
  refine ff (b := false) (rfl) ?_
  refine sk (S' := ⟨[(0, .cv (.str p0))], []⟩) ?_
  cases h
  exact .inl ⟨rfl, rfl, rfl⟩
 ·rintro e S (⟨rfl, rfl, rfl⟩ | ⟨rfl, a, rfl, hr⟩)
  ·rcases h with ⟨_, e1, h⟩ | ⟨_, e1, h⟩
   ·cases e1
   ·have e2 := Out.go.inj e1
    subst e2
    refine awp_seq <| sg0 L 227 <| awp_block <| kp (S' := ⟨[(0, .cv (.str p0)), (28, .I (p0.length : Int)), (29, .I 0)], []⟩) ?_
    obtain ⟨o2, hp2, h⟩ := obind_some h
    refine awp_conseq (Q' := fun e S => (e = .exit 0 ∧ S = ⟨[], []⟩ ∧ Out.go () = o2) ∨ (e = .ret ∧ ∃ a, Out.done a = o2 ∧ EndsE P V Tryz.f58 (.B a) [] .ret S)) (awp_loop (fun k S => ∃ xt29_15h : Int, S = ⟨[(0, .cv (.str p0)), (28, .I (p0.length : Int)), (29, .I xt29_15h)], []⟩ ∧ A8.l15 K p0 k xt29_15h = some o2) ?_ ⟨_, rfl, hp2⟩) ?_
    ·clear h hp2
     intro k S hS
     obtain ⟨xt29_15h, rfl, h⟩ := hS
     cases k with
     | zero => cases h
     | succ k =>
     unfold A8.l15 at h
     refine sg0 L 231 <| awp_seq ?_
     rcases ite_some h with ⟨c6, h⟩ | ⟨c6, h⟩
     ·refine tT c6 <| awp_skip' <| awp_seq <| awp_block <| sg0 L 233 <| awp_seq ?_
      obtain ⟨g2, h⟩ := guard_some h
      refine rg L 236 [] [] [] (pl2 g2.1 g2.2) ?_
      refine awp_seq ?_
      rcases ite_some h with ⟨c7, h⟩ | ⟨c7, h⟩
      ·rcases ite_some h with ⟨c8, h⟩ | ⟨c8, h⟩
       ·refine rg L 241 [(2, true), (6, true)] [] [] (pl2 (decide_eq_true c7) (decide_eq_true c8)) ?_
        refine ff (b := false) (rfl) ?_
        refine awp_skip' <| ar0 L 271 [] [] [] (S' := ⟨[(0, .cv (.str p0)), (28, .I (p0.length : Int)), (29, .I (IntKind.i64.wrap (xt29_15h + 1)))], []⟩) ?_
        exact ⟨k, Nat.lt_succ_self k, _, rfl, h⟩
       rcases ite_some h with ⟨c9, h⟩ | ⟨c9, h⟩
       ·rcases ite_some h with ⟨c10, h⟩ | ⟨c10, h⟩
        ·refine rg L 241 [(2, true), (6, false), (9, true), (14, true)] [] [] (plc (decide_eq_true c7) (plc (decide_eq_false c8) (plc (decide_eq_true c9) (pl1 (decide_eq_true c10))))) ?_
         refine ff (b := false) (rfl) ?_
         refine awp_skip' <| ar0 L 271 [] [] [] (S' := ⟨[(0, .cv (.str p0)), (28, .I (p0.length : Int)), (29, .I (IntKind.i64.wrap (xt29_15h + 1)))], []⟩) ?_
         exact ⟨k, Nat.lt_succ_self k, _, rfl, h⟩
        rcases ite_some h with ⟨c11, h⟩ | ⟨c11, h⟩
        ·rcases ite_some h with ⟨c12, h⟩ | ⟨c12, h⟩
         ·refine rg L 241 [(2, true), (6, false), (9, true), (14, false), (17, true), (22, true)] [] [] (plc (decide_eq_true c7) (plc (decide_eq_false c8) (plc (decide_eq_true c9) (plc (decide_eq_false c10) (plc (decide_eq_true c11) (pl1 (decide_eq_true c12))))))) ?_
          refine ff (b := false) (rfl) ?_
          refine awp_skip' <| ar0 L 271 [] [] [] (S' := ⟨[(0, .cv (.str p0)), (28, .I (p0.length : Int)), (29, .I (IntKind.i64.wrap (xt29_15h + 1)))], []⟩) ?_
          exact ⟨k, Nat.lt_succ_self k, _, rfl, h⟩
         refine rg L 241 [(2, true), (6, false), (9, true), (14, false), (17, true), (22, false)] [] [] (plc (decide_eq_true c7) (plc (decide_eq_false c8) (plc (decide_eq_true c9) (plc (decide_eq_false c10) (plc (decide_eq_true c11) (pl1 (decide_eq_false c12))))))) ?_
         rcases ite_some h with ⟨c13, h⟩ | ⟨c13, h⟩
         ·refine ff (b := (!(decide (((p0.getD (Int.toNat xt29_15h) 0).toNat : Int) = 95)))) (congrArg Bool.not (decide_eq_true c13)) ?_
          refine awp_skip' <| ar0 L 271 [] [] [] (S' := ⟨[(0, .cv (.str p0)), (28, .I (p0.length : Int)), (29, .I (IntKind.i64.wrap (xt29_15h + 1)))], []⟩) ?_
          exact ⟨k, Nat.lt_succ_self k, _, rfl, h⟩
         refine tt (b := (!(decide (((p0.getD (Int.toNat xt29_15h) 0).toNat : Int) = 95)))) (congrArg Bool.not (decide_eq_false c13)) ?_
         refine sg0 L 269 <| awp_ret ?_
         cases h
         exact .inr ⟨rfl, _, rfl, er0⟩
        refine rg L 241 [(2, true), (6, false), (9, true), (14, false), (17, false)] [] [] (plc (decide_eq_true c7) (plc (decide_eq_false c8) (plc (decide_eq_true c9) (plc (decide_eq_false c10) (pl1 (decide_eq_false c11)))))) ?_
        rcases ite_some h with ⟨c14, h⟩ | ⟨c14, h⟩
        ·refine ff (b := (!(decide (((p0.getD (Int.toNat xt29_15h) 0).toNat : Int) = 95)))) (congrArg Bool.not (decide_eq_true c14)) ?_
         refine awp_skip' <| ar0 L 271 [] [] [] (S' := ⟨[(0, .cv (.str p0)), (28, .I (p0.length : Int)), (29, .I (IntKind.i64.wrap (xt29_15h + 1)))], []⟩) ?_
         exact ⟨k, Nat.lt_succ_self k, _, rfl, h⟩
        refine tt (b := (!(decide (((p0.getD (Int.toNat xt29_15h) 0).toNat : Int) = 95)))) (congrArg Bool.not (decide_eq_false c14)) ?_
        refine sg0 L 269 <| awp_ret ?_
        cases h
        exact .inr ⟨rfl, _, rfl, er0⟩
       rcases ite_some h with ⟨c15, h⟩ | ⟨c15, h⟩
       ·rcases ite_some h with ⟨c16, h⟩ | ⟨c16, h⟩
        ·refine rg L 241 [(2, true), (6, false), (9, false), (17, true), (22, true)] [] [] (plc (decide_eq_true c7) (plc (decide_eq_false c8) (plc (decide_eq_false c9) (plc (decide_eq_true c15) (pl1 (decide_eq_true c16)))))) ?_
         refine ff (b := false) (rfl) ?_
         refine awp_skip' <| ar0 L 271 [] [] [] (S' := ⟨[(0, .cv (.str p0)), (28, .I (p0.length : Int)), (29, .I (IntKind.i64.wrap (xt29_15h + 1)))], []⟩) ?_
         exact ⟨k, Nat.lt_succ_self k, _, rfl, h⟩
        refine rg L 241 [(2, true), (6, false), (9, false), (17, true), (22, false)] [] [] (plc (decide_eq_true c7) (plc (decide_eq_false c8) (plc (decide_eq_false c9) (plc (decide_eq_true c15) (pl1 (decide_eq_false c16)))))) ?_
        rcases ite_some h with ⟨c17, h⟩ | ⟨c17, h⟩
        ·refine ff (b := (!(decide (((p0.getD (Int.toNat xt29_15h) 0).toNat : Int) = 95)))) (congrArg Bool.not (decide_eq_true c17)) ?_
         refine awp_skip' <| ar0 L 271 [] [] [] (S' := ⟨[(0, .cv (.str p0)), (28, .I (p0.length : Int)), (29, .I (IntKind.i64.wrap (xt29_15h + 1)))], []⟩) ?_
         exact ⟨k, Nat.lt_succ_self k, _, rfl, h⟩
        refine tt (b := (!(decide (((p0.getD (Int.toNat xt29_15h) 0).toNat : Int) = 95)))) (congrArg Bool.not (decide_eq_false c17)) ?_
        refine sg0 L 269 <| awp_ret ?_
        cases h
        exact .inr ⟨rfl, _, rfl, er0⟩
       refine rg L 241 [(2, true), (6, false), (9, false), (17, false)] [] [] (plc (decide_eq_true c7) (plc (decide_eq_false c8) (plc (decide_eq_false c9) (pl1 (decide_eq_false c15))))) ?_
       rcases ite_some h with ⟨c18, h⟩ | ⟨c18, h⟩
       ·refine ff (b := (!(decide (((p0.getD (Int.toNat xt29_15h) 0).toNat : Int) = 95)))) (congrArg Bool.not (decide_eq_true c18)) ?_
        refine awp_skip' <| ar0 L 271 [] [] [] (S' := ⟨[(0, .cv (.str p0)), (28, .I (p0.length : Int)), (29, .I (IntKind.i64.wrap (xt29_15h + 1)))], []⟩) ?_
        exact ⟨k, Nat.lt_succ_self k, _, rfl, h⟩
       refine tt (b := (!(decide (((p0.getD (Int.toNat xt29_15h) 0).toNat : Int) = 95)))) (congrArg Bool.not (decide_eq_false c18)) ?_
       refine sg0 L 269 <| awp_ret ?_
       cases h
       exact .inr ⟨rfl, _, rfl, er0⟩
      rcases ite_some h with ⟨c19, h⟩ | ⟨c19, h⟩
      ·rcases ite_some h with ⟨c20, h⟩ | ⟨c20, h⟩
       ·refine rg L 241 [(2, false), (9, true), (14, true)] [] [] (plc (decide_eq_false c7) (plc (decide_eq_true c19) (pl1 (decide_eq_true c20)))) ?_
        refine ff (b := false) (rfl) ?_
        refine awp_skip' <| ar0 L 271 [] [] [] (S' := ⟨[(0, .cv (.str p0)), (28, .I (p0.length : Int)), (29, .I (IntKind.i64.wrap (xt29_15h + 1)))], []⟩) ?_
        exact ⟨k, Nat.lt_succ_self k, _, rfl, h⟩
       rcases ite_some h with ⟨c21, h⟩ | ⟨c21, h⟩
       ·rcases ite_some h with ⟨c22, h⟩ | ⟨c22, h⟩
        ·refine rg L 241 [(2, false), (9, true), (14, false), (17, true), (22, true)] [] [] (plc (decide_eq_false c7) (plc (decide_eq_true c19) (plc (decide_eq_false c20) (plc (decide_eq_true c21) (pl1 (decide_eq_true c22)))))) ?_
         refine ff (b := false) (rfl) ?_
         refine awp_skip' <| ar0 L 271 [] [] [] (S' := ⟨[(0, .cv (.str p0)), (28, .I (p0.length : Int)), (29, .I (IntKind.i64.wrap (xt29_15h + 1)))], []⟩) ?_
         exact ⟨k, Nat.lt_succ_self k, _, rfl, h⟩
        refine rg L 241 [(2, false), (9, true), (14, false), (17, true), (22, false)] [] [] (plc (decide_eq_false c7) (plc (decide_eq_true c19) (plc (decide_eq_false c20) (plc (decide_eq_true c21) (pl1 (decide_eq_false c22)))))) ?_
        rcases ite_some h with ⟨c23, h⟩ | ⟨c23, h⟩
        ·refine ff (b := (!(decide (((p0.getD (Int.toNat xt29_15h) 0).toNat : Int) = 95)))) (congrArg Bool.not (decide_eq_true c23)) ?_
         refine awp_skip' <| ar0 L 271 [] [] [] (S' := ⟨[(0, .cv (.str p0)), (28, .I (p0.length : Int)), (29, .I (IntKind.i64.wrap (xt29_15h + 1)))], []⟩) ?_
         exact ⟨k, Nat.lt_succ_self k, _, rfl, h⟩
        refine tt (b := (!(decide (((p0.getD (Int.toNat xt29_15h) 0).toNat : Int) = 95)))) (congrArg Bool.not (decide_eq_false c23)) ?_
        refine sg0 L 269 <| awp_ret ?_
        cases h
        exact .inr ⟨rfl, _, rfl, er0⟩
       refine rg L 241 [(2, false), (9, true), (14, false), (17, false)] [] [] (plc (decide_eq_false c7) (plc (decide_eq_true c19) (plc (decide_eq_false c20) (pl1 (decide_eq_false c21))))) ?_
       rcases ite_some h with ⟨c24, h⟩ | ⟨c24, h⟩
       ·refine ff (b := (!(decide (((p0.getD (Int.toNat xt29_15h) 0).toNat : Int) = 95)))) (congrArg Bool.not (decide_eq_true c24)) ?_
        refine awp_skip' <| ar0 L 271 [] [] [] (S' := ⟨[(0, .cv (.str p0)), (28, .I (p0.length : Int)), (29, .I (IntKind.i64.wrap (xt29_15h + 1)))], []⟩) ?_
        exact ⟨k, Nat.lt_succ_self k, _, rfl, h⟩
       refine tt (b := (!(decide (((p0.getD (Int.toNat xt29_15h) 0).toNat : Int) = 95)))) (congrArg Bool.not (decide_eq_false c24)) ?_
       refine sg0 L 269 <| awp_ret ?_
       cases h
       exact .inr ⟨rfl, _, rfl, er0⟩
      rcases ite_some h with ⟨c25, h⟩ | ⟨c25, h⟩
      ·rcases ite_some h with ⟨c26, h⟩ | ⟨c26, h⟩
       ·refine rg L 241 [(2, false), (9, false), (17, true), (22, true)] [] [] (plc (decide_eq_false c7) (plc (decide_eq_false c19) (plc (decide_eq_true c25) (pl1 (decide_eq_true c26))))) ?_
        refine ff (b := false) (rfl) ?_
        refine awp_skip' <| ar0 L 271 [] [] [] (S' := ⟨[(0, .cv (.str p0)), (28, .I (p0.length : Int)), (29, .I (IntKind.i64.wrap (xt29_15h + 1)))], []⟩) ?_
        exact ⟨k, Nat.lt_succ_self k, _, rfl, h⟩
       refine rg L 241 [(2, false), (9, false), (17, true), (22, false)] [] [] (plc (decide_eq_false c7) (plc (decide_eq_false c19) (plc (decide_eq_true c25) (pl1 (decide_eq_false c26))))) ?_
       rcases ite_some h with ⟨c27, h⟩ | ⟨c27, h⟩
       ·refine ff (b := (!(decide (((p0.getD (Int.toNat xt29_15h) 0).toNat : Int) = 95)))) (congrArg Bool.not (decide_eq_true c27)) ?_
        refine awp_skip' <| ar0 L 271 [] [] [] (S' := ⟨[(0, .cv (.str p0)), (28, .I (p0.length : Int)), (29, .I (IntKind.i64.wrap (xt29_15h + 1)))], []⟩) ?_
        exact ⟨k, Nat.lt_succ_self k, _, rfl, h⟩
       refine tt (b := (!(decide (((p0.getD (Int.toNat xt29_15h) 0).toNat : Int) = 95)))) (congrArg Bool.not (decide_eq_false c27)) ?_
       refine sg0 L 269 <| awp_ret ?_
       cases h
       exact .inr ⟨rfl, _, rfl, er0⟩
      refine rg L 241 [(2, false), (9, false), (17, false)] [] [] (plc (decide_eq_false c7) (plc (decide_eq_false c19) (pl1 (decide_eq_false c25)))) ?_
      rcases ite_some h with ⟨c28, h⟩ | ⟨c28, h⟩
      ·refine ff (b := (!(decide (((p0.getD (Int.toNat xt29_15h) 0).toNat : Int) = 95)))) (congrArg Bool.not (decide_eq_true c28)) ?_
       refine awp_skip' <| ar0 L 271 [] [] [] (S' := ⟨[(0, .cv (.str p0)), (28, .I (p0.length : Int)), (29, .I (IntKind.i64.wrap (xt29_15h + 1)))], []⟩) ?_
       exact ⟨k, Nat.lt_succ_self k, _, rfl, h⟩
      refine tt (b := (!(decide (((p0.getD (Int.toNat xt29_15h) 0).toNat : Int) = 95)))) (congrArg Bool.not (decide_eq_false c28)) ?_
      refine sg0 L 269 <| awp_ret ?_
      cases h
      exact .inr ⟨rfl, _, rfl, er0⟩
     refine fF c6 <| ex (S' := ⟨[], []⟩) ?_
     cases h
     exact .inl ⟨rfl, rfl, rfl⟩
    ·rintro e S (⟨rfl, rfl, rfl⟩ | ⟨rfl, a, rfl, hr⟩)
     ·rcases h with ⟨_, e1, h⟩ | ⟨_, e1, h⟩
      ·cases e1
      ·have e2 := Out.go.inj e1
       subst e2
       refine ⟨_, Turns.refl, ?_⟩
       refine sg0 L 274 <| awp_ret ?_
       cases h
       exact er0
     ·rcases h with ⟨_, e1, h⟩ | ⟨_, e1, h⟩
      ·have e2 := Out.done.inj e1
       subst e2
       subst h
       exact ⟨_, Turns.refl, hr⟩
      ·cases e1
  ·rcases h with ⟨_, e1, h⟩ | ⟨_, e1, h⟩
   ·have e2 := Out.done.inj e1
    subst e2
    subst h
    exact hr
   ·cases e1
theorem A8.ok {K : Nat} {p0 : List UInt8} {r : Bool} (h : A8 K p0 = some r) : PCall V P 58 [.cv (.str p0)] (.B r) := ECall.pcall (eo (fn := Tryz.f58) (n := 63) (m := 100) fun Γ => A8.body h) (by kernel_rfl)
structure Ap where
 Dc : Aa → Option Bool
 Cw : Aa → Option Bool
 Bw : (List Aa) → Option Int
 Ca : (List Aa) → Option Bool
 C6 : (List Aa) → Option Bool
 Cv : Aa → Option Bool
 Bx : (List Aa) → Option Int
 Cc : (List Aa) → Option Bool
 Ch : (List Aa) → Option Bool
 A0 : Aa → Option Bool
structure Ap.Ok (R : Ap) : Prop where
 Dc : ∀ {p0 : Aa} {r : Bool}, R.Dc p0 = some r → ECall V P 64 [.agg (Ae p0)] [] [] (.B r) []
 Cw : ∀ {p0 : Aa} {r : Bool}, R.Cw p0 = some r → ECall V P 57 [.agg (Ae p0), .cv (.pcs [.fn (.func 64) [] []] 0)] [] [] (.B r) []
 Bw : ∀ {p0 : List Aa} {r : Int}, R.Bw p0 = some r → ECall V P 90 [.cv (.ro .Ad p0), .cv (.fn (.func 57) [] [.pcs [.fn (.func 64) [] []] 0])] [] [] (.I r) []
 Ca : ∀ {p0 : List Aa} {r : Bool}, R.Ca p0 = some r → ECall V P 56 [.cv (.ro .Ad p0), .cv (.fn (.func 57) [] [.pcs [.fn (.func 64) [] []] 0])] [] [] (.B r) []
 C6 : ∀ {p0 : List Aa} {r : Bool}, R.C6 p0 = some r → ECall V P 30 [.cv (.ro .Ad p0), .cv (.fn (.func 64) [] [])] [] [] (.B r) []
 Cv : ∀ {p0 : Aa} {r : Bool}, R.Cv p0 = some r → ECall V P 57 [.agg (Ae p0), .cv (.pcs [.fn (.func 33) [] []] 0)] [] [] (.B r) []
 Bx : ∀ {p0 : List Aa} {r : Int}, R.Bx p0 = some r → ECall V P 90 [.cv (.ro .Ad p0), .cv (.fn (.func 57) [] [.pcs [.fn (.func 33) [] []] 0])] [] [] (.I r) []
 Cc : ∀ {p0 : List Aa} {r : Bool}, R.Cc p0 = some r → ECall V P 56 [.cv (.ro .Ad p0), .cv (.fn (.func 57) [] [.pcs [.fn (.func 33) [] []] 0])] [] [] (.B r) []
 Ch : ∀ {p0 : List Aa} {r : Bool}, R.Ch p0 = some r → ECall V P 30 [.cv (.ro .Ad p0), .cv (.fn (.func 33) [] [])] [] [] (.B r) []
 A0 : ∀ {p0 : Aa} {r : Bool}, R.A0 p0 = some r → ECall V P 33 [.agg (Ae p0)] [] [] (.B r) []
theorem Dc.okR {R : Ap} (hR : R.Ok) {p0 : Aa} {r : Bool} (h : R.Dc p0 = some r) : PCall V P 64 [.agg (Ae p0)] (.B r) := (hR.Dc h).pcall (by kernel_rfl)
theorem Cw.okR {R : Ap} (hR : R.Ok) {p0 : Aa} {r : Bool} (h : R.Cw p0 = some r) : PCall V P 57 [.agg (Ae p0), .cv (.pcs [.fn (.func 64) [] []] 0)] (.B r) := (hR.Cw h).pcall (by kernel_rfl)
theorem Bw.okR {R : Ap} (hR : R.Ok) {p0 : List Aa} {r : Int} (h : R.Bw p0 = some r) : PCall V P 90 [.cv (.ro .Ad p0), .cv (.fn (.func 57) [] [.pcs [.fn (.func 64) [] []] 0])] (.I r) := (hR.Bw h).pcall (by kernel_rfl)
theorem Ca.okR {R : Ap} (hR : R.Ok) {p0 : List Aa} {r : Bool} (h : R.Ca p0 = some r) : PCall V P 56 [.cv (.ro .Ad p0), .cv (.fn (.func 57) [] [.pcs [.fn (.func 64) [] []] 0])] (.B r) := (hR.Ca h).pcall (by kernel_rfl)
theorem C6.okR {R : Ap} (hR : R.Ok) {p0 : List Aa} {r : Bool} (h : R.C6 p0 = some r) : PCall V P 30 [.cv (.ro .Ad p0), .cv (.fn (.func 64) [] [])] (.B r) := (hR.C6 h).pcall (by kernel_rfl)
theorem Cv.okR {R : Ap} (hR : R.Ok) {p0 : Aa} {r : Bool} (h : R.Cv p0 = some r) : PCall V P 57 [.agg (Ae p0), .cv (.pcs [.fn (.func 33) [] []] 0)] (.B r) := (hR.Cv h).pcall (by kernel_rfl)
theorem Bx.okR {R : Ap} (hR : R.Ok) {p0 : List Aa} {r : Int} (h : R.Bx p0 = some r) : PCall V P 90 [.cv (.ro .Ad p0), .cv (.fn (.func 57) [] [.pcs [.fn (.func 33) [] []] 0])] (.I r) := (hR.Bx h).pcall (by kernel_rfl)
theorem Cc.okR {R : Ap} (hR : R.Ok) {p0 : List Aa} {r : Bool} (h : R.Cc p0 = some r) : PCall V P 56 [.cv (.ro .Ad p0), .cv (.fn (.func 57) [] [.pcs [.fn (.func 33) [] []] 0])] (.B r) := (hR.Cc h).pcall (by kernel_rfl)
theorem Ch.okR {R : Ap} (hR : R.Ok) {p0 : List Aa} {r : Bool} (h : R.Ch p0 = some r) : PCall V P 30 [.cv (.ro .Ad p0), .cv (.fn (.func 33) [] [])] (.B r) := (hR.Ch h).pcall (by kernel_rfl)
theorem A0.okR {R : Ap} (hR : R.Ok) {p0 : Aa} {r : Bool} (h : R.A0 p0 = some r) : PCall V P 33 [.agg (Ae p0)] (.B r) := (hR.A0 h).pcall (by kernel_rfl)
def Dc.F (K : Nat) (R : Ap) (p0 : Aa) : Option Bool := (if p0.Op = 9 then (Option.bind (Av K p0 false true false) (fun a1 => (if a1 = true then (if (p0.Text.length : Int) ≤ 4096 then (if (p0.Kids.length : Int) = 1 then (if (0 : Int) < (p0.Kids.length : Int) then (Option.bind (R.A0 (p0.Kids.getD (Int.toNat 0) Ai)) (fun a2 => some a2)) else none) else some false) else some false) else some false))) else some false)
theorem Dc.body {Γ : Ent} {K : Nat} {R : Ap} (hR : R.Ok) {p0 : Aa} {r : Bool} (h : Dc.F K R p0 = some r) : AWp V P 29 100 Γ (Tryz.f64.body.getD .skip) (EndsE P V Tryz.f64 (.B r) []) ⟨args0 0 [.agg (Ae p0)], []⟩ := by
 unfold Dc.F at h
 refine sg0 L 200 <| awp_seq ?_
 rcases ite_some h with ⟨c1, h⟩ | ⟨c1, h⟩
 ·obtain ⟨a1, h1, h⟩ := bind_some h
  rcases ite_some h with ⟨c2, h⟩ | ⟨c2, h⟩
  ·rcases ite_some h with ⟨c3, h⟩ | ⟨c3, h⟩
   ·rcases ite_some h with ⟨c4, h⟩ | ⟨c4, h⟩
    ·obtain ⟨g1, h⟩ := guard_some h
     obtain ⟨a2, h2, h⟩ := bind_some h
     refine rg L 203 [(3, true), (7, true), (13, true), (19, true)] [(5, .B a1), (24, .B a2)] [] (plc (decide_eq_true c1) (plc (Av.ok h1) (plc trivial (plc c2 (plc (decide_eq_true c3) (plc (decide_eq_true c4) (plc (show (0 : Int) ≤ 0 from by decide) (plc g1 (plc (A0.okR hR h2) (pl1 trivial)))))))))) ?_
     refine awp_ret ?_
     cases h
     exact er0
    refine rg L 203 [(3, true), (7, true), (13, true), (19, false)] [(5, .B a1)] [] (plc (decide_eq_true c1) (plc (Av.ok h1) (plc trivial (plc c2 (plc (decide_eq_true c3) (pl1 (decide_eq_false c4))))))) ?_
    refine awp_ret ?_
    cases h
    exact er0
   refine rg L 203 [(3, true), (7, true), (13, false)] [(5, .B a1)] [] (plc (decide_eq_true c1) (plc (Av.ok h1) (plc trivial (plc c2 (pl1 (decide_eq_false c3)))))) ?_
   refine awp_ret ?_
   cases h
   exact er0
  refine rg L 203 [(3, true), (7, false)] [(5, .B a1)] [] (plc (decide_eq_true c1) (plc (Av.ok h1) (plc trivial (pl1 (eq_false_of_ne_true c2))))) ?_
  refine awp_ret ?_
  cases h
  exact er0
 refine rg L 203 [(3, false)] [] [] (pl1 (decide_eq_false c1)) ?_
 refine awp_ret ?_
 cases h
 exact er0
def Cw.F (K : Nat) (R : Ap) (p0 : Aa) : Option Bool := (Option.bind (R.Dc p0) (fun a1 => some (!a1)))
theorem Cw.body {Γ : Ent} {K : Nat} {R : Ap} (hR : R.Ok) {p0 : Aa} {r : Bool} (h : Cw.F K R p0 = some r) : AWp V P 8 100 Γ (Tryz.f57.body.getD .skip) (EndsE P V Tryz.f57 (.B r) []) ⟨args0 0 [.agg (Ae p0), .cv (.pcs [.fn (.func 64) [] []] 0)], []⟩ := by
 unfold Cw.F at h
 refine sg0 L 200 <| awp_seq ?_
 obtain ⟨a1, h1, h⟩ := bind_some h
 refine rg L 203 [] [(2, .B a1)] [] (plt (Dc.okR hR h1)) ?_
 refine awp_ret ?_
 cases h
 exact er0
def Bw.l7 (K : Nat) (R : Ap) (p0 : List Aa) : Nat → Int → Option (Out Int Unit)
 | 0, _ => none
 | k + 1, xt8_7h => (if xt8_7h < (p0.length : Int) then (if (0 : Int) ≤ xt8_7h ∧ (xt8_7h : Int) < (p0.length : Int) then (Option.bind (R.Cw (p0.getD (Int.toNat xt8_7h) Ai)) (fun a1 => (if a1 = true then some (Out.done xt8_7h) else Bw.l7 K R p0 k (IntKind.i64.wrap (xt8_7h + 1))))) else none) else some (Out.go ()))
def Bw.F (K : Nat) (R : Ap) (p0 : List Aa) : Option Int := (obind (Bw.l7 K R p0 K 0 : Option (Out Int Unit)) (fun r => r) (fun _ => some (-1)))
theorem Bw.body {Γ : Ent} {K : Nat} {R : Ap} (hR : R.Ok) {p0 : List Aa} {r : Int} (h : Bw.F K R p0 = some r) : AWp V P 19 100 Γ (Tryz.f90.body.getD .skip) (EndsE P V Tryz.f90 (.I r) []) ⟨args0 0 [.cv (.ro .Ad p0), .cv (.fn (.func 57) [] [.pcs [.fn (.func 64) [] []] 0])], []⟩ := by
 unfold Bw.F at h
 refine sg0 L 200 <| awp_seq <| sg0 L 202 <| awp_block <| kp (S' := ⟨[(0, .cv (.ro .Ad p0)), (1, .cv (.fn (.func 57) [] [.pcs [.fn (.func 64) [] []] 0])), (7, .I (p0.length : Int)), (8, .I 0)], []⟩) ?_
 obtain ⟨o1, hp1, h⟩ := obind_some h
 refine awp_conseq (Q' := fun e S => (e = .exit 0 ∧ S = ⟨[], []⟩ ∧ Out.go () = o1) ∨ (e = .ret ∧ ∃ a, Out.done a = o1 ∧ EndsE P V Tryz.f90 (.I a) [] .ret S)) (awp_loop (fun k S => ∃ xt8_7h : Int, S = ⟨[(0, .cv (.ro .Ad p0)), (1, .cv (.fn (.func 57) [] [.pcs [.fn (.func 64) [] []] 0])), (7, .I (p0.length : Int)), (8, .I xt8_7h)], []⟩ ∧ Bw.l7 K R p0 k xt8_7h = some o1) ?_ ⟨_, rfl, hp1⟩) ?_
 ·clear h hp1
  intro k S hS
  obtain ⟨xt8_7h, rfl, h⟩ := hS
  cases k with
  | zero => cases h
  | succ k =>
  unfold Bw.l7 at h
  refine sg0 L 206 <| awp_seq ?_
  rcases ite_some h with ⟨c1, h⟩ | ⟨c1, h⟩
  ·refine tT c1 <| awp_skip' <| awp_seq <| awp_block <| sg0 L 208 <| awp_seq ?_
   obtain ⟨g1, h⟩ := guard_some h
   obtain ⟨a1, h1, h⟩ := bind_some h
   refine rg L 211 [] [(5, .B a1)] [] (plc g1.1 (plc g1.2 (plc (Cw.okR hR h1) (pl1 trivial)))) ?_
   rcases ite_some h with ⟨c2, h⟩ | ⟨c2, h⟩
   ·refine tt c2 <| sg0 L 218 <| awp_ret ?_
    cases h
    exact .inr ⟨rfl, _, rfl, er0⟩
   refine fN c2 <| awp_skip' <| ar0 L 221 [] [] [] (S' := ⟨[(0, .cv (.ro .Ad p0)), (1, .cv (.fn (.func 57) [] [.pcs [.fn (.func 64) [] []] 0])), (7, .I (p0.length : Int)), (8, .I (IntKind.i64.wrap (xt8_7h + 1)))], []⟩) ?_
   exact ⟨k, Nat.lt_succ_self k, _, rfl, h⟩
  refine fF c1 <| ex (S' := ⟨[], []⟩) ?_
  cases h
  exact .inl ⟨rfl, rfl, rfl⟩
 ·rintro e S (⟨rfl, rfl, rfl⟩ | ⟨rfl, a, rfl, hr⟩)
  ·rcases h with ⟨_, e1, h⟩ | ⟨_, e1, h⟩
   ·cases e1
   ·have e2 := Out.go.inj e1
    subst e2
    refine ⟨_, Turns.refl, ?_⟩
    refine sg0 L 224 <| awp_ret ?_
    cases h
    exact er0
  ·rcases h with ⟨_, e1, h⟩ | ⟨_, e1, h⟩
   ·have e2 := Out.done.inj e1
    subst e2
    subst h
    exact ⟨_, Turns.refl, hr⟩
   ·cases e1
def Ca.F (K : Nat) (R : Ap) (p0 : List Aa) : Option Bool := (Option.bind (R.Bw p0) (fun a1 => some (decide (a1 ≥ 0))))
theorem Ca.body {Γ : Ent} {K : Nat} {R : Ap} (hR : R.Ok) {p0 : List Aa} {r : Bool} (h : Ca.F K R p0 = some r) : AWp V P 9 100 Γ (Tryz.f56.body.getD .skip) (EndsE P V Tryz.f56 (.B r) []) ⟨args0 0 [.cv (.ro .Ad p0), .cv (.fn (.func 57) [] [.pcs [.fn (.func 64) [] []] 0])], []⟩ := by
 unfold Ca.F at h
 refine sg0 L 200 <| awp_seq ?_
 obtain ⟨a1, h1, h⟩ := bind_some h
 refine rg L 202 [] [(2, .I a1)] [] (plt (Bw.okR hR h1)) ?_
 refine awp_ret ?_
 cases h
 exact er0
def C6.F (K : Nat) (R : Ap) (p0 : List Aa) : Option Bool := (Option.bind (R.Ca p0) (fun a1 => some (!a1)))
theorem C6.body {Γ : Ent} {K : Nat} {R : Ap} (hR : R.Ok) {p0 : List Aa} {r : Bool} (h : C6.F K R p0 = some r) : AWp V P 9 100 Γ (Tryz.f30.body.getD .skip) (EndsE P V Tryz.f30 (.B r) []) ⟨args0 0 [.cv (.ro .Ad p0), .cv (.fn (.func 64) [] [])], []⟩ := by
 unfold C6.F at h
 refine sg0 L 200 <| awp_seq ?_
 obtain ⟨a1, h1, h⟩ := bind_some h
 refine rg L 203 [] [(2, .B a1)] [] (plt (Ca.okR hR h1)) ?_
 refine awp_ret ?_
 cases h
 exact er0
def Cv.F (K : Nat) (R : Ap) (p0 : Aa) : Option Bool := (Option.bind (R.A0 p0) (fun a1 => some (!a1)))
theorem Cv.body {Γ : Ent} {K : Nat} {R : Ap} (hR : R.Ok) {p0 : Aa} {r : Bool} (h : Cv.F K R p0 = some r) : AWp V P 8 100 Γ (Tryz.f57.body.getD .skip) (EndsE P V Tryz.f57 (.B r) []) ⟨args0 0 [.agg (Ae p0), .cv (.pcs [.fn (.func 33) [] []] 0)], []⟩ := by
 unfold Cv.F at h
 refine sg0 L 200 <| awp_seq ?_
 obtain ⟨a1, h1, h⟩ := bind_some h
 refine rg L 203 [] [(2, .B a1)] [] (plt (A0.okR hR h1)) ?_
 refine awp_ret ?_
 cases h
 exact er0
def Bx.l7 (K : Nat) (R : Ap) (p0 : List Aa) : Nat → Int → Option (Out Int Unit)
 | 0, _ => none
 | k + 1, xt8_7h => (if xt8_7h < (p0.length : Int) then (if (0 : Int) ≤ xt8_7h ∧ (xt8_7h : Int) < (p0.length : Int) then (Option.bind (R.Cv (p0.getD (Int.toNat xt8_7h) Ai)) (fun a1 => (if a1 = true then some (Out.done xt8_7h) else Bx.l7 K R p0 k (IntKind.i64.wrap (xt8_7h + 1))))) else none) else some (Out.go ()))
def Bx.F (K : Nat) (R : Ap) (p0 : List Aa) : Option Int := (obind (Bx.l7 K R p0 K 0 : Option (Out Int Unit)) (fun r => r) (fun _ => some (-1)))
theorem Bx.body {Γ : Ent} {K : Nat} {R : Ap} (hR : R.Ok) {p0 : List Aa} {r : Int} (h : Bx.F K R p0 = some r) : AWp V P 19 100 Γ (Tryz.f90.body.getD .skip) (EndsE P V Tryz.f90 (.I r) []) ⟨args0 0 [.cv (.ro .Ad p0), .cv (.fn (.func 57) [] [.pcs [.fn (.func 33) [] []] 0])], []⟩ := by
 unfold Bx.F at h
 refine sg0 L 200 <| awp_seq <| sg0 L 202 <| awp_block <| kp (S' := ⟨[(0, .cv (.ro .Ad p0)), (1, .cv (.fn (.func 57) [] [.pcs [.fn (.func 33) [] []] 0])), (7, .I (p0.length : Int)), (8, .I 0)], []⟩) ?_
 obtain ⟨o1, hp1, h⟩ := obind_some h
 refine awp_conseq (Q' := fun e S => (e = .exit 0 ∧ S = ⟨[], []⟩ ∧ Out.go () = o1) ∨ (e = .ret ∧ ∃ a, Out.done a = o1 ∧ EndsE P V Tryz.f90 (.I a) [] .ret S)) (awp_loop (fun k S => ∃ xt8_7h : Int, S = ⟨[(0, .cv (.ro .Ad p0)), (1, .cv (.fn (.func 57) [] [.pcs [.fn (.func 33) [] []] 0])), (7, .I (p0.length : Int)), (8, .I xt8_7h)], []⟩ ∧ Bx.l7 K R p0 k xt8_7h = some o1) ?_ ⟨_, rfl, hp1⟩) ?_
 ·clear h hp1
  intro k S hS
  obtain ⟨xt8_7h, rfl, h⟩ := hS
  cases k with
  | zero => cases h
  | succ k =>
  unfold Bx.l7 at h
  refine sg0 L 206 <| awp_seq ?_
  rcases ite_some h with ⟨c1, h⟩ | ⟨c1, h⟩
  ·refine tT c1 <| awp_skip' <| awp_seq <| awp_block <| sg0 L 208 <| awp_seq ?_
   obtain ⟨g1, h⟩ := guard_some h
   obtain ⟨a1, h1, h⟩ := bind_some h
   refine rg L 211 [] [(5, .B a1)] [] (plc g1.1 (plc g1.2 (plc (Cv.okR hR h1) (pl1 trivial)))) ?_
   rcases ite_some h with ⟨c2, h⟩ | ⟨c2, h⟩
   ·refine tt c2 <| sg0 L 218 <| awp_ret ?_
    cases h
    exact .inr ⟨rfl, _, rfl, er0⟩
   refine fN c2 <| awp_skip' <| ar0 L 221 [] [] [] (S' := ⟨[(0, .cv (.ro .Ad p0)), (1, .cv (.fn (.func 57) [] [.pcs [.fn (.func 33) [] []] 0])), (7, .I (p0.length : Int)), (8, .I (IntKind.i64.wrap (xt8_7h + 1)))], []⟩) ?_
   exact ⟨k, Nat.lt_succ_self k, _, rfl, h⟩
  refine fF c1 <| ex (S' := ⟨[], []⟩) ?_
  cases h
  exact .inl ⟨rfl, rfl, rfl⟩
 ·rintro e S (⟨rfl, rfl, rfl⟩ | ⟨rfl, a, rfl, hr⟩)
  ·rcases h with ⟨_, e1, h⟩ | ⟨_, e1, h⟩
   ·cases e1
   ·have e2 := Out.go.inj e1
    subst e2
    refine ⟨_, Turns.refl, ?_⟩
    refine sg0 L 224 <| awp_ret ?_
    cases h
    exact er0
  ·rcases h with ⟨_, e1, h⟩ | ⟨_, e1, h⟩
   ·have e2 := Out.done.inj e1
    subst e2
    subst h
    exact ⟨_, Turns.refl, hr⟩
   ·cases e1
def Cc.F (K : Nat) (R : Ap) (p0 : List Aa) : Option Bool := (Option.bind (R.Bx p0) (fun a1 => some (decide (a1 ≥ 0))))
theorem Cc.body {Γ : Ent} {K : Nat} {R : Ap} (hR : R.Ok) {p0 : List Aa} {r : Bool} (h : Cc.F K R p0 = some r) : AWp V P 9 100 Γ (Tryz.f56.body.getD .skip) (EndsE P V Tryz.f56 (.B r) []) ⟨args0 0 [.cv (.ro .Ad p0), .cv (.fn (.func 57) [] [.pcs [.fn (.func 33) [] []] 0])], []⟩ := by
 unfold Cc.F at h
 refine sg0 L 200 <| awp_seq ?_
 obtain ⟨a1, h1, h⟩ := bind_some h
 refine rg L 202 [] [(2, .I a1)] [] (plt (Bx.okR hR h1)) ?_
 refine awp_ret ?_
 cases h
 exact er0
def Ch.F (K : Nat) (R : Ap) (p0 : List Aa) : Option Bool := (Option.bind (R.Cc p0) (fun a1 => some (!a1)))
theorem Ch.body {Γ : Ent} {K : Nat} {R : Ap} (hR : R.Ok) {p0 : List Aa} {r : Bool} (h : Ch.F K R p0 = some r) : AWp V P 9 100 Γ (Tryz.f30.body.getD .skip) (EndsE P V Tryz.f30 (.B r) []) ⟨args0 0 [.cv (.ro .Ad p0), .cv (.fn (.func 33) [] [])], []⟩ := by
 unfold Ch.F at h
 refine sg0 L 200 <| awp_seq ?_
 obtain ⟨a1, h1, h⟩ := bind_some h
 refine rg L 203 [] [(2, .B a1)] [] (plt (Cc.okR hR h1)) ?_
 refine awp_ret ?_
 cases h
 exact er0
def A0.F (K : Nat) (R : Ap) (p0 : Aa) : Option Bool := (Option.bind ((if p0.Op = 1 then some true else (if p0.Op = 2 then some true else some (decide (p0.Op = 3)))) : Option Bool) (fun xt10_9 => (if xt10_9 = true then (if (p0.Kids.length : Int) = 0 then (Option.bind (Av K p0 false false false) (fun a1 => some a1)) else some false) else (if p0.Op = 4 then (if (p0.Kids.length : Int) = 0 then (Option.bind (Av K p0 false false true) (fun a2 => (if a2 = true then some (decide (p0.Int ≥ 0)) else some false))) else some false) else (if p0.Op = 5 then (if (p0.Kids.length : Int) = 0 then (Option.bind (Av K p0 false true false) (fun a3 => (if a3 = true then some (decide ((p0.Text.length : Int) ≤ 4096)) else some false))) else some false) else (if p0.Op = 6 then (if (p0.Kids.length : Int) = 0 then (Option.bind (Av K p0 true false false) (fun a4 => (if a4 = true then (Option.bind (A8 K p0.Name) (fun a5 => some a5)) else some false))) else some false) else (if p0.Op = 8 then (Option.bind (Av K p0 false false false) (fun a6 => (if a6 = true then (Option.bind (R.C6 p0.Kids) (fun a7 => some a7)) else some false))) else (if p0.Op = 7 then (Option.bind (Av K p0 false false false) (fun a8 => (if a8 = true then (Option.bind (R.Ch p0.Kids) (fun a9 => some a9)) else some false))) else (Option.bind ((if p0.Op = 10 then some true else some (decide (p0.Op = 11))) : Option Bool) (fun xt90_45 => (if xt90_45 = true then (Option.bind (Av K p0 true false false) (fun a10 => (if a10 = true then (Option.bind (A8 K p0.Name) (fun a11 => (if a11 = true then (Option.bind (R.Ch p0.Kids) (fun a12 => some a12)) else some false))) else some false))) else (if p0.Op = 29 then (if (p0.Kids.length : Int) = 1 then (Option.bind (Av K p0 true false false) (fun a13 => (if a13 = true then (Option.bind (A8 K p0.Name) (fun a14 => (if a14 = true then (if (0 : Int) < (p0.Kids.length : Int) then (Option.bind (R.A0 (p0.Kids.getD (Int.toNat 0) Ai)) (fun a15 => some a15)) else none) else some false))) else some false))) else some false) else (Option.bind ((if p0.Op = 12 then some true else (if p0.Op = 13 then some true else some (decide (p0.Op = 14)))) : Option Bool) (fun xt130_57 => (if xt130_57 = true then (if (p0.Kids.length : Int) = 1 then (Option.bind (Av K p0 false false false) (fun a16 => (if a16 = true then (if (0 : Int) < (p0.Kids.length : Int) then (Option.bind (R.A0 (p0.Kids.getD (Int.toNat 0) Ai)) (fun a17 => some a17)) else none) else some false))) else some false) else (Option.bind ((if p0.Op ≥ 15 then some (decide (p0.Op ≤ 28)) else some false) : Option Bool) (fun xt154_63 => (if xt154_63 = true then (if (p0.Kids.length : Int) = 2 then (Option.bind (Av K p0 false false false) (fun a18 => (if a18 = true then (Option.bind (R.Ch p0.Kids) (fun a19 => some a19)) else some false))) else some false) else some false))))))))))))))))))
theorem A0.body {Γ : Ent} {K : Nat} {R : Ap} (hR : R.Ok) {p0 : Aa} {r : Bool} (h : A0.F K R p0 = some r) : AWp V P 172 100 Γ (Tryz.f33.body.getD .skip) (EndsE P V Tryz.f33 (.B r) []) ⟨args0 0 [.agg (Ae p0)], []⟩ := by
 unfold A0.F at h
 refine sg0 L 200 <| sg0 L 203 <| awp_seq <| sg0 L 208 <| awp_block ?_
 obtain ⟨o1, hp1, h⟩ := bind_some h
 refine awp_seq (awp_mono (Q' := fun e S => (e = .normal ∧ ∃ xt10_9 : Bool, S = ⟨[(1, .P 21800), (3, .I (p0.Kids.length : Int)), (4, .I p0.Op), (10, .B xt10_9)], [(21800, .raw (Ae p0))]⟩ ∧ xt10_9 = o1)) ?_ ?_)
 ·clear h
  replace h := hp1
  rcases ite_some h with ⟨c1, h⟩ | ⟨c1, h⟩
  ·refine awp_post (rg L 212 [(2, true)] [] [] (pl1 (decide_eq_true c1)) ⟨rfl, rfl⟩) (Turns.trans (Turns.kk [1, 3, 4, 10] [200]) (Turns.trans (Turns.rr [(200, 21800)]) (Turns.kp (S' := ⟨[(1, .P 21800), (3, .I (p0.Kids.length : Int)), (4, .I p0.Op), (10, .B true)], [(21800, .raw (Ae p0))]⟩)))) ?_
   cases h
   exact ⟨rfl, _, rfl, rfl⟩
  rcases ite_some h with ⟨c2, h⟩ | ⟨c2, h⟩
  ·refine awp_post (rg L 212 [(2, false), (6, true)] [] [] (pl2 (decide_eq_false c1) (decide_eq_true c2)) ⟨rfl, rfl⟩) (Turns.trans (Turns.kk [1, 3, 4, 10] [200]) (Turns.trans (Turns.rr [(200, 21800)]) (Turns.kp (S' := ⟨[(1, .P 21800), (3, .I (p0.Kids.length : Int)), (4, .I p0.Op), (10, .B true)], [(21800, .raw (Ae p0))]⟩)))) ?_
   cases h
   exact ⟨rfl, _, rfl, rfl⟩
  refine awp_post (rg L 212 [(2, false), (6, false)] [] [] (pl2 (decide_eq_false c1) (decide_eq_false c2)) ⟨rfl, rfl⟩) (Turns.trans (Turns.kk [1, 3, 4, 10] [200]) (Turns.trans (Turns.rr [(200, 21800)]) (Turns.kp (S' := ⟨[(1, .P 21800), (3, .I (p0.Kids.length : Int)), (4, .I p0.Op), (10, .B (decide (p0.Op = 3)))], [(21800, .raw (Ae p0))]⟩)))) ?_
  cases h
  exact ⟨rfl, _, rfl, rfl⟩
 ·rintro e S ⟨rfl, xt10_9, rfl, rfl⟩
  rcases ite_some h with ⟨c3, h⟩ | ⟨c3, h⟩
  ·refine tt c3 <| awp_seq ?_
   rcases ite_some h with ⟨c4, h⟩ | ⟨c4, h⟩
   ·obtain ⟨a1, h1, h⟩ := bind_some h
    refine rg L 224 [(2, true)] [(4, .B a1)] [] (plc (decide_eq_true c4) (plc (Av.ok h1) (pl1 trivial))) ?_
    refine awp_ret ?_
    cases h
    exact er0
   refine rg L 224 [(2, false)] [] [] (pl1 (decide_eq_false c4)) ?_
   refine awp_ret ?_
   cases h
   exact er0
  refine fN c3 <| sg0 L 232 ?_
  rcases ite_some h with ⟨c5, h⟩ | ⟨c5, h⟩
  ·refine tT c5 <| awp_seq ?_
   rcases ite_some h with ⟨c6, h⟩ | ⟨c6, h⟩
   ·obtain ⟨a2, h2, h⟩ := bind_some h
    rcases ite_some h with ⟨c7, h⟩ | ⟨c7, h⟩
    ·refine rg L 236 [(2, true), (6, true)] [(4, .B a2)] [] (plc (decide_eq_true c6) (plc (Av.ok h2) (plc trivial (pl1 c7)))) ?_
     refine awp_ret ?_
     cases h
     exact er0
    refine rg L 236 [(2, true), (6, false)] [(4, .B a2)] [] (plc (decide_eq_true c6) (plc (Av.ok h2) (plc trivial (pl1 (eq_false_of_ne_true c7))))) ?_
    refine awp_ret ?_
    cases h
    exact er0
   refine rg L 236 [(2, false)] [] [] (pl1 (decide_eq_false c6)) ?_
   refine awp_ret ?_
   cases h
   exact er0
  refine fF c5 <| sg0 L 249 ?_
  rcases ite_some h with ⟨c8, h⟩ | ⟨c8, h⟩
  ·refine tT c8 <| awp_seq ?_
   rcases ite_some h with ⟨c9, h⟩ | ⟨c9, h⟩
   ·obtain ⟨a3, h3, h⟩ := bind_some h
    rcases ite_some h with ⟨c10, h⟩ | ⟨c10, h⟩
    ·refine rg L 253 [(2, true), (6, true)] [(4, .B a3)] [] (plc (decide_eq_true c9) (plc (Av.ok h3) (plc trivial (pl1 c10)))) ?_
     refine awp_ret ?_
     cases h
     exact er0
    refine rg L 253 [(2, true), (6, false)] [(4, .B a3)] [] (plc (decide_eq_true c9) (plc (Av.ok h3) (plc trivial (pl1 (eq_false_of_ne_true c10))))) ?_
    refine awp_ret ?_
    cases h
    exact er0
   refine rg L 253 [(2, false)] [] [] (pl1 (decide_eq_false c9)) ?_
   refine awp_ret ?_
   cases h
   exact er0
  refine fF c8 <| sg0 L 267 ?_
  rcases ite_some h with ⟨c11, h⟩ | ⟨c11, h⟩
  ·refine tT c11 <| awp_seq ?_
   rcases ite_some h with ⟨c12, h⟩ | ⟨c12, h⟩
   ·obtain ⟨a4, h4, h⟩ := bind_some h
    rcases ite_some h with ⟨c13, h⟩ | ⟨c13, h⟩
    ·obtain ⟨a5, h5, h⟩ := bind_some h
     refine rg L 271 [(2, true), (6, true)] [(4, .B a4), (9, .B a5)] [] (plc (decide_eq_true c12) (plc (Av.ok h4) (plc trivial (plc c13 (plc (A8.ok h5) (pl1 trivial)))))) ?_
     refine awp_ret ?_
     cases h
     exact er0
    refine rg L 271 [(2, true), (6, false)] [(4, .B a4)] [] (plc (decide_eq_true c12) (plc (Av.ok h4) (plc trivial (pl1 (eq_false_of_ne_true c13))))) ?_
    refine awp_ret ?_
    cases h
    exact er0
   refine rg L 271 [(2, false)] [] [] (pl1 (decide_eq_false c12)) ?_
   refine awp_ret ?_
   cases h
   exact er0
  refine fF c11 <| sg0 L 284 ?_
  rcases ite_some h with ⟨c14, h⟩ | ⟨c14, h⟩
  ·refine tT c14 <| awp_seq ?_
   obtain ⟨a6, h6, h⟩ := bind_some h
   rcases ite_some h with ⟨c15, h⟩ | ⟨c15, h⟩
   ·obtain ⟨a7, h7, h⟩ := bind_some h
    refine rg L 288 [(2, true)] [(1, .B a6), (5, .B a7)] [] (plc (Av.ok h6) (plc trivial (plc c15 (plc (C6.okR hR h7) (pl1 trivial))))) ?_
    refine awp_ret ?_
    cases h
    exact er0
   refine rg L 288 [(2, false)] [(1, .B a6)] [] (plc (Av.ok h6) (plc trivial (pl1 (eq_false_of_ne_true c15)))) ?_
   refine awp_ret ?_
   cases h
   exact er0
  refine fF c14 <| sg0 L 297 ?_
  rcases ite_some h with ⟨c16, h⟩ | ⟨c16, h⟩
  ·refine tT c16 <| awp_seq ?_
   obtain ⟨a8, h8, h⟩ := bind_some h
   rcases ite_some h with ⟨c17, h⟩ | ⟨c17, h⟩
   ·obtain ⟨a9, h9, h⟩ := bind_some h
    refine rg L 301 [(2, true)] [(1, .B a8), (5, .B a9)] [] (plc (Av.ok h8) (plc trivial (plc c17 (plc (Ch.okR hR h9) (pl1 trivial))))) ?_
    refine awp_ret ?_
    cases h
    exact er0
   refine rg L 301 [(2, false)] [(1, .B a8)] [] (plc (Av.ok h8) (plc trivial (pl1 (eq_false_of_ne_true c17)))) ?_
   refine awp_ret ?_
   cases h
   exact er0
  refine fF c16 ?_
  obtain ⟨o2, hp2, h⟩ := bind_some h
  refine awp_seq (awp_mono (Q' := fun e S => (e = .normal ∧ ∃ xt90_45 : Bool, S = ⟨[(1, .P 29000), (3, .I (p0.Kids.length : Int)), (4, .I p0.Op), (90, .B xt90_45)], [(29000, .raw (Ae p0))]⟩ ∧ xt90_45 = o2)) ?_ ?_)
  ·clear h
   replace h := hp2
   rcases ite_some h with ⟨c18, h⟩ | ⟨c18, h⟩
   ·refine awp_post (rg L 310 [(2, true)] [] [] (pl1 (decide_eq_true c18)) ⟨rfl, rfl⟩) (Turns.trans (Turns.kk [1, 3, 4, 90] [21800]) (Turns.trans (Turns.rr [(21800, 29000)]) (Turns.kp (S' := ⟨[(1, .P 29000), (3, .I (p0.Kids.length : Int)), (4, .I p0.Op), (90, .B true)], [(29000, .raw (Ae p0))]⟩)))) ?_
    cases h
    exact ⟨rfl, _, rfl, rfl⟩
   refine awp_post (rg L 310 [(2, false)] [] [] (pl1 (decide_eq_false c18)) ⟨rfl, rfl⟩) (Turns.trans (Turns.kk [1, 3, 4, 90] [21800]) (Turns.trans (Turns.rr [(21800, 29000)]) (Turns.kp (S' := ⟨[(1, .P 29000), (3, .I (p0.Kids.length : Int)), (4, .I p0.Op), (90, .B (decide (p0.Op = 11)))], [(29000, .raw (Ae p0))]⟩)))) ?_
   cases h
   exact ⟨rfl, _, rfl, rfl⟩
  ·rintro e S ⟨rfl, xt90_45, rfl, rfl⟩
   rcases ite_some h with ⟨c19, h⟩ | ⟨c19, h⟩
   ·refine tt c19 <| awp_seq ?_
    obtain ⟨a10, h10, h⟩ := bind_some h
    rcases ite_some h with ⟨c20, h⟩ | ⟨c20, h⟩
    ·obtain ⟨a11, h11, h⟩ := bind_some h
     rcases ite_some h with ⟨c21, h⟩ | ⟨c21, h⟩
     ·obtain ⟨a12, h12, h⟩ := bind_some h
      refine rg L 318 [(2, true), (7, true)] [(1, .B a10), (5, .B a11), (10, .B a12)] [] (plc (Av.ok h10) (plc trivial (plc c20 (plc (A8.ok h11) (plc trivial (plc c21 (plc (Ch.okR hR h12) (pl1 trivial)))))))) ?_
      refine awp_ret ?_
      cases h
      exact er0
     refine rg L 318 [(2, true), (7, false)] [(1, .B a10), (5, .B a11)] [] (plc (Av.ok h10) (plc trivial (plc c20 (plc (A8.ok h11) (plc trivial (pl1 (eq_false_of_ne_true c21))))))) ?_
     refine awp_ret ?_
     cases h
     exact er0
    refine rg L 318 [(2, false)] [(1, .B a10)] [] (plc (Av.ok h10) (plc trivial (pl1 (eq_false_of_ne_true c20)))) ?_
    refine awp_ret ?_
    cases h
    exact er0
   refine fN c19 <| sg0 L 332 ?_
   rcases ite_some h with ⟨c22, h⟩ | ⟨c22, h⟩
   ·refine tT c22 <| awp_seq ?_
    rcases ite_some h with ⟨c23, h⟩ | ⟨c23, h⟩
    ·obtain ⟨a13, h13, h⟩ := bind_some h
     rcases ite_some h with ⟨c24, h⟩ | ⟨c24, h⟩
     ·obtain ⟨a14, h14, h⟩ := bind_some h
      rcases ite_some h with ⟨c25, h⟩ | ⟨c25, h⟩
      ·obtain ⟨g1, h⟩ := guard_some h
       obtain ⟨a15, h15, h⟩ := bind_some h
       refine rg L 336 [(2, true), (6, true), (11, true)] [(4, .B a13), (9, .B a14), (16, .B a15)] [] (plc (decide_eq_true c23) (plc (Av.ok h13) (plc trivial (plc c24 (plc (A8.ok h14) (plc trivial (plc c25 (plc (show (0 : Int) ≤ 0 from by decide) (plc g1 (plc (A0.okR hR h15) (pl1 trivial))))))))))) ?_
       refine awp_ret ?_
       cases h
       exact er0
      refine rg L 336 [(2, true), (6, true), (11, false)] [(4, .B a13), (9, .B a14)] [] (plc (decide_eq_true c23) (plc (Av.ok h13) (plc trivial (plc c24 (plc (A8.ok h14) (plc trivial (pl1 (eq_false_of_ne_true c25)))))))) ?_
      refine awp_ret ?_
      cases h
      exact er0
     refine rg L 336 [(2, true), (6, false)] [(4, .B a13)] [] (plc (decide_eq_true c23) (plc (Av.ok h13) (plc trivial (pl1 (eq_false_of_ne_true c24))))) ?_
     refine awp_ret ?_
     cases h
     exact er0
    refine rg L 336 [(2, false)] [] [] (pl1 (decide_eq_false c23)) ?_
    refine awp_ret ?_
    cases h
    exact er0
   refine fF c22 ?_
   obtain ⟨o3, hp3, h⟩ := bind_some h
   refine awp_seq (awp_mono (Q' := fun e S => (e = .normal ∧ ∃ xt130_57 : Bool, S = ⟨[(1, .P 31400), (3, .I (p0.Kids.length : Int)), (4, .I p0.Op), (130, .B xt130_57)], [(31400, .raw (Ae p0))]⟩ ∧ xt130_57 = o3)) ?_ ?_)
   ·clear h
    replace h := hp3
    rcases ite_some h with ⟨c26, h⟩ | ⟨c26, h⟩
    ·refine awp_post (rg L 356 [(2, true)] [] [] (pl1 (decide_eq_true c26)) ⟨rfl, rfl⟩) (Turns.trans (Turns.kk [1, 3, 4, 130] [29000]) (Turns.trans (Turns.rr [(29000, 31400)]) (Turns.kp (S' := ⟨[(1, .P 31400), (3, .I (p0.Kids.length : Int)), (4, .I p0.Op), (130, .B true)], [(31400, .raw (Ae p0))]⟩)))) ?_
     cases h
     exact ⟨rfl, _, rfl, rfl⟩
    rcases ite_some h with ⟨c27, h⟩ | ⟨c27, h⟩
    ·refine awp_post (rg L 356 [(2, false), (6, true)] [] [] (pl2 (decide_eq_false c26) (decide_eq_true c27)) ⟨rfl, rfl⟩) (Turns.trans (Turns.kk [1, 3, 4, 130] [29000]) (Turns.trans (Turns.rr [(29000, 31400)]) (Turns.kp (S' := ⟨[(1, .P 31400), (3, .I (p0.Kids.length : Int)), (4, .I p0.Op), (130, .B true)], [(31400, .raw (Ae p0))]⟩)))) ?_
     cases h
     exact ⟨rfl, _, rfl, rfl⟩
    refine awp_post (rg L 356 [(2, false), (6, false)] [] [] (pl2 (decide_eq_false c26) (decide_eq_false c27)) ⟨rfl, rfl⟩) (Turns.trans (Turns.kk [1, 3, 4, 130] [29000]) (Turns.trans (Turns.rr [(29000, 31400)]) (Turns.kp (S' := ⟨[(1, .P 31400), (3, .I (p0.Kids.length : Int)), (4, .I p0.Op), (130, .B (decide (p0.Op = 14)))], [(31400, .raw (Ae p0))]⟩)))) ?_
    cases h
    exact ⟨rfl, _, rfl, rfl⟩
   ·rintro e S ⟨rfl, xt130_57, rfl, rfl⟩
    rcases ite_some h with ⟨c28, h⟩ | ⟨c28, h⟩
    ·refine tt c28 <| awp_seq ?_
     rcases ite_some h with ⟨c29, h⟩ | ⟨c29, h⟩
     ·obtain ⟨a16, h16, h⟩ := bind_some h
      rcases ite_some h with ⟨c30, h⟩ | ⟨c30, h⟩
      ·obtain ⟨g2, h⟩ := guard_some h
       obtain ⟨a17, h17, h⟩ := bind_some h
       refine rg L 368 [(2, true), (6, true)] [(4, .B a16), (11, .B a17)] [] (plc (decide_eq_true c29) (plc (Av.ok h16) (plc trivial (plc c30 (plc (show (0 : Int) ≤ 0 from by decide) (plc g2 (plc (A0.okR hR h17) (pl1 trivial)))))))) ?_
       refine awp_ret ?_
       cases h
       exact er0
      refine rg L 368 [(2, true), (6, false)] [(4, .B a16)] [] (plc (decide_eq_true c29) (plc (Av.ok h16) (plc trivial (pl1 (eq_false_of_ne_true c30))))) ?_
      refine awp_ret ?_
      cases h
      exact er0
     refine rg L 368 [(2, false)] [] [] (pl1 (decide_eq_false c29)) ?_
     refine awp_ret ?_
     cases h
     exact er0
    refine fN c28 ?_
    obtain ⟨o4, hp4, h⟩ := bind_some h
    refine awp_seq (awp_mono (Q' := fun e S => (e = .normal ∧ ∃ xt154_63 : Bool, S = ⟨[(1, .P 32600), (3, .I (p0.Kids.length : Int)), (154, .B xt154_63)], [(32600, .raw (Ae p0))]⟩ ∧ xt154_63 = o4)) ?_ ?_)
    ·clear h
     replace h := hp4
     rcases ite_some h with ⟨c31, h⟩ | ⟨c31, h⟩
     ·refine awp_post (rg L 383 [(2, true)] [] [] (pl1 (decide_eq_true c31)) ⟨rfl, rfl⟩) (Turns.trans (Turns.kk [1, 3, 154] [31400]) (Turns.trans (Turns.rr [(31400, 32600)]) (Turns.kp (S' := ⟨[(1, .P 32600), (3, .I (p0.Kids.length : Int)), (154, .B (decide (p0.Op ≤ 28)))], [(32600, .raw (Ae p0))]⟩)))) ?_
      cases h
      exact ⟨rfl, _, rfl, rfl⟩
     refine awp_post (rg L 383 [(2, false)] [] [] (pl1 (decide_eq_false c31)) ⟨rfl, rfl⟩) (Turns.trans (Turns.kk [1, 3, 154] [31400]) (Turns.trans (Turns.rr [(31400, 32600)]) (Turns.kp (S' := ⟨[(1, .P 32600), (3, .I (p0.Kids.length : Int)), (154, .B false)], [(32600, .raw (Ae p0))]⟩)))) ?_
     cases h
     exact ⟨rfl, _, rfl, rfl⟩
    ·rintro e S ⟨rfl, xt154_63, rfl, rfl⟩
     rcases ite_some h with ⟨c32, h⟩ | ⟨c32, h⟩
     ·refine tt c32 <| awp_seq ?_
      rcases ite_some h with ⟨c33, h⟩ | ⟨c33, h⟩
      ·obtain ⟨a18, h18, h⟩ := bind_some h
       rcases ite_some h with ⟨c34, h⟩ | ⟨c34, h⟩
       ·obtain ⟨a19, h19, h⟩ := bind_some h
        refine rg L 391 [(2, true), (6, true)] [(4, .B a18), (9, .B a19)] [] (plc (decide_eq_true c33) (plc (Av.ok h18) (plc trivial (plc c34 (plc (Ch.okR hR h19) (pl1 trivial)))))) ?_
        refine awp_ret ?_
        cases h
        exact er0
       refine rg L 391 [(2, true), (6, false)] [(4, .B a18)] [] (plc (decide_eq_true c33) (plc (Av.ok h18) (plc trivial (pl1 (eq_false_of_ne_true c34))))) ?_
       refine awp_ret ?_
       cases h
       exact er0
      refine rg L 391 [(2, false)] [] [] (pl1 (decide_eq_false c33)) ?_
      refine awp_ret ?_
      cases h
      exact er0
     refine fN c32 <| awp_skip' <| sg0 L 404 <| awp_ret ?_
     cases h
     exact er0
def Ap.upto (K : Nat) : Nat → Ap
 | 0 => ⟨fun _ => none, fun _ => none, fun _ => none, fun _ => none, fun _ => none, fun _ => none, fun _ => none, fun _ => none, fun _ => none, fun _ => none⟩
 | k + 1 => ⟨Dc.F K (Ap.upto K k), Cw.F K (Ap.upto K k), Bw.F K (Ap.upto K k), Ca.F K (Ap.upto K k), C6.F K (Ap.upto K k), Cv.F K (Ap.upto K k), Bx.F K (Ap.upto K k), Cc.F K (Ap.upto K k), Ch.F K (Ap.upto K k), A0.F K (Ap.upto K k)⟩
theorem Ap.upto_ok (K : Nat) : ∀ k, (Ap.upto K k).Ok
 | 0 => ⟨fun h => (by cases h), fun h => (by cases h), fun h => (by cases h), fun h => (by cases h), fun h => (by cases h), fun h => (by cases h), fun h => (by cases h), fun h => (by cases h), fun h => (by cases h), fun h => (by cases h)⟩
 | k + 1 => ⟨fun {p0 r} h => eo (fn := Tryz.f64) (n := 29) (m := 100) fun Γ => Dc.body (K := K) (Ap.upto_ok K k) h, fun {p0 r} h => eo (fn := Tryz.f57) (n := 8) (m := 100) fun Γ => Cw.body (K := K) (Ap.upto_ok K k) h, fun {p0 r} h => eo (fn := Tryz.f90) (n := 19) (m := 100) fun Γ => Bw.body (K := K) (Ap.upto_ok K k) h, fun {p0 r} h => eo (fn := Tryz.f56) (n := 9) (m := 100) fun Γ => Ca.body (K := K) (Ap.upto_ok K k) h, fun {p0 r} h => eo (fn := Tryz.f30) (n := 9) (m := 100) fun Γ => C6.body (K := K) (Ap.upto_ok K k) h, fun {p0 r} h => eo (fn := Tryz.f57) (n := 8) (m := 100) fun Γ => Cv.body (K := K) (Ap.upto_ok K k) h, fun {p0 r} h => eo (fn := Tryz.f90) (n := 19) (m := 100) fun Γ => Bx.body (K := K) (Ap.upto_ok K k) h, fun {p0 r} h => eo (fn := Tryz.f56) (n := 9) (m := 100) fun Γ => Cc.body (K := K) (Ap.upto_ok K k) h, fun {p0 r} h => eo (fn := Tryz.f30) (n := 9) (m := 100) fun Γ => Ch.body (K := K) (Ap.upto_ok K k) h, fun {p0 r} h => eo (fn := Tryz.f33) (n := 172) (m := 100) fun Γ => A0.body (K := K) (Ap.upto_ok K k) h⟩
def Dc (K : Nat) (p0 : Aa) : Option Bool := (Ap.upto K K).Dc p0
theorem Dc.okE {K : Nat} {p0 : Aa} {r : Bool} (h : Dc K p0 = some r) : ECall V P 64 [.agg (Ae p0)] [] [] (.B r) [] := (Ap.upto_ok K K).Dc h
theorem Dc.ok {K : Nat} {p0 : Aa} {r : Bool} (h : Dc K p0 = some r) : PCall V P 64 [.agg (Ae p0)] (.B r) := (Dc.okE h).pcall (by kernel_rfl)
def Cw (K : Nat) (p0 : Aa) : Option Bool := (Ap.upto K K).Cw p0
theorem Cw.okE {K : Nat} {p0 : Aa} {r : Bool} (h : Cw K p0 = some r) : ECall V P 57 [.agg (Ae p0), .cv (.pcs [.fn (.func 64) [] []] 0)] [] [] (.B r) [] := (Ap.upto_ok K K).Cw h
theorem Cw.ok {K : Nat} {p0 : Aa} {r : Bool} (h : Cw K p0 = some r) : PCall V P 57 [.agg (Ae p0), .cv (.pcs [.fn (.func 64) [] []] 0)] (.B r) := (Cw.okE h).pcall (by kernel_rfl)
def Bw (K : Nat) (p0 : List Aa) : Option Int := (Ap.upto K K).Bw p0
theorem Bw.okE {K : Nat} {p0 : List Aa} {r : Int} (h : Bw K p0 = some r) : ECall V P 90 [.cv (.ro .Ad p0), .cv (.fn (.func 57) [] [.pcs [.fn (.func 64) [] []] 0])] [] [] (.I r) [] := (Ap.upto_ok K K).Bw h
theorem Bw.ok {K : Nat} {p0 : List Aa} {r : Int} (h : Bw K p0 = some r) : PCall V P 90 [.cv (.ro .Ad p0), .cv (.fn (.func 57) [] [.pcs [.fn (.func 64) [] []] 0])] (.I r) := (Bw.okE h).pcall (by kernel_rfl)
def Ca (K : Nat) (p0 : List Aa) : Option Bool := (Ap.upto K K).Ca p0
theorem Ca.okE {K : Nat} {p0 : List Aa} {r : Bool} (h : Ca K p0 = some r) : ECall V P 56 [.cv (.ro .Ad p0), .cv (.fn (.func 57) [] [.pcs [.fn (.func 64) [] []] 0])] [] [] (.B r) [] := (Ap.upto_ok K K).Ca h
theorem Ca.ok {K : Nat} {p0 : List Aa} {r : Bool} (h : Ca K p0 = some r) : PCall V P 56 [.cv (.ro .Ad p0), .cv (.fn (.func 57) [] [.pcs [.fn (.func 64) [] []] 0])] (.B r) := (Ca.okE h).pcall (by kernel_rfl)
def C6 (K : Nat) (p0 : List Aa) : Option Bool := (Ap.upto K K).C6 p0
theorem C6.okE {K : Nat} {p0 : List Aa} {r : Bool} (h : C6 K p0 = some r) : ECall V P 30 [.cv (.ro .Ad p0), .cv (.fn (.func 64) [] [])] [] [] (.B r) [] := (Ap.upto_ok K K).C6 h
theorem C6.ok {K : Nat} {p0 : List Aa} {r : Bool} (h : C6 K p0 = some r) : PCall V P 30 [.cv (.ro .Ad p0), .cv (.fn (.func 64) [] [])] (.B r) := (C6.okE h).pcall (by kernel_rfl)
def Cv (K : Nat) (p0 : Aa) : Option Bool := (Ap.upto K K).Cv p0
theorem Cv.okE {K : Nat} {p0 : Aa} {r : Bool} (h : Cv K p0 = some r) : ECall V P 57 [.agg (Ae p0), .cv (.pcs [.fn (.func 33) [] []] 0)] [] [] (.B r) [] := (Ap.upto_ok K K).Cv h
theorem Cv.ok {K : Nat} {p0 : Aa} {r : Bool} (h : Cv K p0 = some r) : PCall V P 57 [.agg (Ae p0), .cv (.pcs [.fn (.func 33) [] []] 0)] (.B r) := (Cv.okE h).pcall (by kernel_rfl)
def Bx (K : Nat) (p0 : List Aa) : Option Int := (Ap.upto K K).Bx p0
theorem Bx.okE {K : Nat} {p0 : List Aa} {r : Int} (h : Bx K p0 = some r) : ECall V P 90 [.cv (.ro .Ad p0), .cv (.fn (.func 57) [] [.pcs [.fn (.func 33) [] []] 0])] [] [] (.I r) [] := (Ap.upto_ok K K).Bx h
theorem Bx.ok {K : Nat} {p0 : List Aa} {r : Int} (h : Bx K p0 = some r) : PCall V P 90 [.cv (.ro .Ad p0), .cv (.fn (.func 57) [] [.pcs [.fn (.func 33) [] []] 0])] (.I r) := (Bx.okE h).pcall (by kernel_rfl)
def Cc (K : Nat) (p0 : List Aa) : Option Bool := (Ap.upto K K).Cc p0
theorem Cc.okE {K : Nat} {p0 : List Aa} {r : Bool} (h : Cc K p0 = some r) : ECall V P 56 [.cv (.ro .Ad p0), .cv (.fn (.func 57) [] [.pcs [.fn (.func 33) [] []] 0])] [] [] (.B r) [] := (Ap.upto_ok K K).Cc h
theorem Cc.ok {K : Nat} {p0 : List Aa} {r : Bool} (h : Cc K p0 = some r) : PCall V P 56 [.cv (.ro .Ad p0), .cv (.fn (.func 57) [] [.pcs [.fn (.func 33) [] []] 0])] (.B r) := (Cc.okE h).pcall (by kernel_rfl)
def Ch (K : Nat) (p0 : List Aa) : Option Bool := (Ap.upto K K).Ch p0
theorem Ch.okE {K : Nat} {p0 : List Aa} {r : Bool} (h : Ch K p0 = some r) : ECall V P 30 [.cv (.ro .Ad p0), .cv (.fn (.func 33) [] [])] [] [] (.B r) [] := (Ap.upto_ok K K).Ch h
theorem Ch.ok {K : Nat} {p0 : List Aa} {r : Bool} (h : Ch K p0 = some r) : PCall V P 30 [.cv (.ro .Ad p0), .cv (.fn (.func 33) [] [])] (.B r) := (Ch.okE h).pcall (by kernel_rfl)
def A0 (K : Nat) (p0 : Aa) : Option Bool := (Ap.upto K K).A0 p0
theorem A0.okE {K : Nat} {p0 : Aa} {r : Bool} (h : A0 K p0 = some r) : ECall V P 33 [.agg (Ae p0)] [] [] (.B r) [] := (Ap.upto_ok K K).A0 h
theorem A0.ok {K : Nat} {p0 : Aa} {r : Bool} (h : A0 K p0 = some r) : PCall V P 33 [.agg (Ae p0)] (.B r) := (A0.okE h).pcall (by kernel_rfl)
def D3 (K : Nat) (p0 : Aa) : Option Bool := (Option.bind (((if p0.Op = 1 then some (decide (p0.Op = 1)) else (if p0.Op = 2 then some (decide (p0.Op = 2)) else (if p0.Op = 3 then some (decide (p0.Op = 3)) else (if p0.Op = 4 then some (decide (p0.Op = 4)) else some (decide (p0.Op = 5))))))) : Option Bool) (fun xt5_7 => (if xt5_7 = true then (Option.bind (A0 K p0) (fun a1 => some a1)) else (if p0.Op = 14 then (Option.bind (A0 K p0) (fun a2 => (if a2 = true then (if (0 : Int) < (p0.Kids.length : Int) then some (decide ((p0.Kids.getD (Int.toNat 0) Ai).Op = 4)) else none) else some false))) else some false))))
theorem D3.body {Γ : Ent} {K : Nat} {p0 : Aa} {r : Bool} (h : D3 K p0 = some r) : AWp V P 25 100 Γ (Tryz.f59.body.getD .skip) (EndsE P V Tryz.f59 (.B r) []) ⟨args0 0 [.agg (Ae p0)], []⟩ := by
 unfold D3 at h
 refine sg0 L 200 <| awp_seq <| sg0 L 203 <| awp_block ?_
 obtain ⟨o1, hp1, h⟩ := bind_some h
 refine awp_seq (awp_mono (Q' := fun e S => (e = .normal ∧ ∃ xt5_7 : Bool, S = ⟨[(1, .P 21400), (4, .I p0.Op), (5, .B xt5_7)], [(21400, .raw (Ae p0))]⟩ ∧ xt5_7 = o1)) ?_ ?_)
 ·clear h
  replace h := hp1
  refine sg0 L 206 ?_
  rcases ite_some h with ⟨c1, h⟩ | ⟨c1, h⟩
  ·refine tT c1 <| awp_turn (Turns.trans (Turns.kk [1, 4, 5] [200]) (Turns.rr [(200, 21400)])) ?_
   refine sk (S' := ⟨[(1, .P 21400), (4, .I p0.Op), (5, .B (decide (p0.Op = 1)))], [(21400, .raw (Ae p0))]⟩) ?_
   cases h
   exact ⟨rfl, _, rfl, rfl⟩
  refine fF c1 <| sg0 L 209 ?_
  rcases ite_some h with ⟨c2, h⟩ | ⟨c2, h⟩
  ·refine tT c2 <| awp_turn (Turns.trans (Turns.kk [1, 4, 5] [200]) (Turns.rr [(200, 21400)])) ?_
   refine sk (S' := ⟨[(1, .P 21400), (4, .I p0.Op), (5, .B (decide (p0.Op = 2)))], [(21400, .raw (Ae p0))]⟩) ?_
   cases h
   exact ⟨rfl, _, rfl, rfl⟩
  refine fF c2 <| sg0 L 212 ?_
  rcases ite_some h with ⟨c3, h⟩ | ⟨c3, h⟩
  ·refine tT c3 <| awp_turn (Turns.trans (Turns.kk [1, 4, 5] [200]) (Turns.rr [(200, 21400)])) ?_
   refine sk (S' := ⟨[(1, .P 21400), (4, .I p0.Op), (5, .B (decide (p0.Op = 3)))], [(21400, .raw (Ae p0))]⟩) ?_
   cases h
   exact ⟨rfl, _, rfl, rfl⟩
  refine fF c3 <| sg0 L 215 ?_
  rcases ite_some h with ⟨c4, h⟩ | ⟨c4, h⟩
  ·refine tT c4 <| awp_turn (Turns.trans (Turns.kk [1, 4, 5] [200]) (Turns.rr [(200, 21400)])) ?_
   refine sk (S' := ⟨[(1, .P 21400), (4, .I p0.Op), (5, .B (decide (p0.Op = 4)))], [(21400, .raw (Ae p0))]⟩) ?_
   cases h
   exact ⟨rfl, _, rfl, rfl⟩
  refine fF c4 <| awp_post (rg0 L 218 ⟨rfl, rfl⟩) (Turns.trans (Turns.kk [1, 4, 5] [200]) (Turns.trans (Turns.rr [(200, 21400)]) (Turns.kp (S' := ⟨[(1, .P 21400), (4, .I p0.Op), (5, .B (decide (p0.Op = 5)))], [(21400, .raw (Ae p0))]⟩)))) ?_
  cases h
  exact ⟨rfl, _, rfl, rfl⟩
 ·rintro e S ⟨rfl, xt5_7, rfl, rfl⟩
  rcases ite_some h with ⟨c5, h⟩ | ⟨c5, h⟩
  ·refine tt c5 <| awp_seq ?_
   obtain ⟨a1, h1, h⟩ := bind_some h
   refine rg L 221 [] [(1, .B a1)] [] (plt (A0.ok h1)) ?_
   refine awp_ret ?_
   cases h
   exact er0
  refine fN c5 <| sg0 L 225 ?_
  rcases ite_some h with ⟨c6, h⟩ | ⟨c6, h⟩
  ·refine tT c6 <| awp_seq ?_
   obtain ⟨a2, h2, h⟩ := bind_some h
   rcases ite_some h with ⟨c7, h⟩ | ⟨c7, h⟩
   ·obtain ⟨g1, h⟩ := guard_some h
    refine rg L 228 [(2, true)] [(1, .B a2)] [] (plc (A0.ok h2) (plc trivial (plc c7 (plc (show (0 : Int) ≤ 0 from by decide) (pl1 g1))))) ?_
    refine awp_ret ?_
    cases h
    exact er0
   refine rg L 228 [(2, false)] [(1, .B a2)] [] (plc (A0.ok h2) (plc trivial (pl1 (eq_false_of_ne_true c7)))) ?_
   refine awp_ret ?_
   cases h
   exact er0
  refine fF c6 <| awp_skip' <| sg0 L 240 <| awp_ret ?_
  cases h
  exact er0
theorem D3.ok {K : Nat} {p0 : Aa} {r : Bool} (h : D3 K p0 = some r) : PCall V P 59 [.agg (Ae p0)] (.B r) := ECall.pcall (eo (fn := Tryz.f59) (n := 25) (m := 100) fun Γ => D3.body h) (by kernel_rfl)
structure Ag where
 Ds : (List Aa) → Option Bool
 Ct : Aa → Option Bool
 Br : (List Aa) → Option Int
 Cd : (List Aa) → Option Bool
 C0 : (List Aa) → Option Bool
 C9 : Aa → Option Bool
 Cu : Aa → Option Bool
 Bt : (List Aa) → Option Int
 Cb : (List Aa) → Option Bool
 C2 : (List Aa) → Option Bool
 C3 : (List Aa) → Option Bool
 Ce : Aa → Option Bool
 Cx : Aa → Option Bool
 Bv : (List Aa) → Option Int
 B9 : (List Aa) → Option Bool
 C8 : (List Aa) → Option Bool
 A3 : Aa → Option Bool
structure Ag.Ok (R : Ag) : Prop where
 Ds : ∀ {p0 : List Aa} {r : Bool}, R.Ds p0 = some r → ECall V P 120 [.cv (.ro .Ad p0)] [] [] (.B r) []
 Ct : ∀ {p0 : Aa} {r : Bool}, R.Ct p0 = some r → ECall V P 57 [.agg (Ae p0), .cv (.pcs [.fn (.func 60) [] []] 0)] [] [] (.B r) []
 Br : ∀ {p0 : List Aa} {r : Int}, R.Br p0 = some r → ECall V P 90 [.cv (.ro .Ad p0), .cv (.fn (.func 57) [] [.pcs [.fn (.func 60) [] []] 0])] [] [] (.I r) []
 Cd : ∀ {p0 : List Aa} {r : Bool}, R.Cd p0 = some r → ECall V P 56 [.cv (.ro .Ad p0), .cv (.fn (.func 57) [] [.pcs [.fn (.func 60) [] []] 0])] [] [] (.B r) []
 C0 : ∀ {p0 : List Aa} {r : Bool}, R.C0 p0 = some r → ECall V P 30 [.cv (.ro .Ad p0), .cv (.fn (.func 60) [] [])] [] [] (.B r) []
 C9 : ∀ {p0 : Aa} {r : Bool}, R.C9 p0 = some r → ECall V P 136 [.agg (Ae p0)] [] [] (.B r) []
 Cu : ∀ {p0 : Aa} {r : Bool}, R.Cu p0 = some r → ECall V P 57 [.agg (Ae p0), .cv (.pcs [.fn (.func 136) [] []] 0)] [] [] (.B r) []
 Bt : ∀ {p0 : List Aa} {r : Int}, R.Bt p0 = some r → ECall V P 90 [.cv (.ro .Ad p0), .cv (.fn (.func 57) [] [.pcs [.fn (.func 136) [] []] 0])] [] [] (.I r) []
 Cb : ∀ {p0 : List Aa} {r : Bool}, R.Cb p0 = some r → ECall V P 56 [.cv (.ro .Ad p0), .cv (.fn (.func 57) [] [.pcs [.fn (.func 136) [] []] 0])] [] [] (.B r) []
 C2 : ∀ {p0 : List Aa} {r : Bool}, R.C2 p0 = some r → ECall V P 30 [.cv (.ro .Ad p0), .cv (.fn (.func 136) [] [])] [] [] (.B r) []
 C3 : ∀ {p0 : List Aa} {r : Bool}, R.C3 p0 = some r → ECall V P 121 [.cv (.ro .Ad p0)] [] [] (.B r) []
 Ce : ∀ {p0 : Aa} {r : Bool}, R.Ce p0 = some r → ECall V P 92 [.agg (Ae p0)] [] [] (.B r) []
 Cx : ∀ {p0 : Aa} {r : Bool}, R.Cx p0 = some r → ECall V P 57 [.agg (Ae p0), .cv (.pcs [.fn (.func 92) [] []] 0)] [] [] (.B r) []
 Bv : ∀ {p0 : List Aa} {r : Int}, R.Bv p0 = some r → ECall V P 90 [.cv (.ro .Ad p0), .cv (.fn (.func 57) [] [.pcs [.fn (.func 92) [] []] 0])] [] [] (.I r) []
 B9 : ∀ {p0 : List Aa} {r : Bool}, R.B9 p0 = some r → ECall V P 56 [.cv (.ro .Ad p0), .cv (.fn (.func 57) [] [.pcs [.fn (.func 92) [] []] 0])] [] [] (.B r) []
 C8 : ∀ {p0 : List Aa} {r : Bool}, R.C8 p0 = some r → ECall V P 30 [.cv (.ro .Ad p0), .cv (.fn (.func 92) [] [])] [] [] (.B r) []
 A3 : ∀ {p0 : Aa} {r : Bool}, R.A3 p0 = some r → ECall V P 60 [.agg (Ae p0)] [] [] (.B r) []
theorem Ds.okR {R : Ag} (hR : R.Ok) {p0 : List Aa} {r : Bool} (h : R.Ds p0 = some r) : PCall V P 120 [.cv (.ro .Ad p0)] (.B r) := (hR.Ds h).pcall (by kernel_rfl)
theorem Ct.okR {R : Ag} (hR : R.Ok) {p0 : Aa} {r : Bool} (h : R.Ct p0 = some r) : PCall V P 57 [.agg (Ae p0), .cv (.pcs [.fn (.func 60) [] []] 0)] (.B r) := (hR.Ct h).pcall (by kernel_rfl)
theorem Br.okR {R : Ag} (hR : R.Ok) {p0 : List Aa} {r : Int} (h : R.Br p0 = some r) : PCall V P 90 [.cv (.ro .Ad p0), .cv (.fn (.func 57) [] [.pcs [.fn (.func 60) [] []] 0])] (.I r) := (hR.Br h).pcall (by kernel_rfl)
theorem Cd.okR {R : Ag} (hR : R.Ok) {p0 : List Aa} {r : Bool} (h : R.Cd p0 = some r) : PCall V P 56 [.cv (.ro .Ad p0), .cv (.fn (.func 57) [] [.pcs [.fn (.func 60) [] []] 0])] (.B r) := (hR.Cd h).pcall (by kernel_rfl)
theorem C0.okR {R : Ag} (hR : R.Ok) {p0 : List Aa} {r : Bool} (h : R.C0 p0 = some r) : PCall V P 30 [.cv (.ro .Ad p0), .cv (.fn (.func 60) [] [])] (.B r) := (hR.C0 h).pcall (by kernel_rfl)
theorem C9.okR {R : Ag} (hR : R.Ok) {p0 : Aa} {r : Bool} (h : R.C9 p0 = some r) : PCall V P 136 [.agg (Ae p0)] (.B r) := (hR.C9 h).pcall (by kernel_rfl)
theorem Cu.okR {R : Ag} (hR : R.Ok) {p0 : Aa} {r : Bool} (h : R.Cu p0 = some r) : PCall V P 57 [.agg (Ae p0), .cv (.pcs [.fn (.func 136) [] []] 0)] (.B r) := (hR.Cu h).pcall (by kernel_rfl)
theorem Bt.okR {R : Ag} (hR : R.Ok) {p0 : List Aa} {r : Int} (h : R.Bt p0 = some r) : PCall V P 90 [.cv (.ro .Ad p0), .cv (.fn (.func 57) [] [.pcs [.fn (.func 136) [] []] 0])] (.I r) := (hR.Bt h).pcall (by kernel_rfl)
theorem Cb.okR {R : Ag} (hR : R.Ok) {p0 : List Aa} {r : Bool} (h : R.Cb p0 = some r) : PCall V P 56 [.cv (.ro .Ad p0), .cv (.fn (.func 57) [] [.pcs [.fn (.func 136) [] []] 0])] (.B r) := (hR.Cb h).pcall (by kernel_rfl)
theorem C2.okR {R : Ag} (hR : R.Ok) {p0 : List Aa} {r : Bool} (h : R.C2 p0 = some r) : PCall V P 30 [.cv (.ro .Ad p0), .cv (.fn (.func 136) [] [])] (.B r) := (hR.C2 h).pcall (by kernel_rfl)
theorem C3.okR {R : Ag} (hR : R.Ok) {p0 : List Aa} {r : Bool} (h : R.C3 p0 = some r) : PCall V P 121 [.cv (.ro .Ad p0)] (.B r) := (hR.C3 h).pcall (by kernel_rfl)
theorem Ce.okR {R : Ag} (hR : R.Ok) {p0 : Aa} {r : Bool} (h : R.Ce p0 = some r) : PCall V P 92 [.agg (Ae p0)] (.B r) := (hR.Ce h).pcall (by kernel_rfl)
theorem Cx.okR {R : Ag} (hR : R.Ok) {p0 : Aa} {r : Bool} (h : R.Cx p0 = some r) : PCall V P 57 [.agg (Ae p0), .cv (.pcs [.fn (.func 92) [] []] 0)] (.B r) := (hR.Cx h).pcall (by kernel_rfl)
theorem Bv.okR {R : Ag} (hR : R.Ok) {p0 : List Aa} {r : Int} (h : R.Bv p0 = some r) : PCall V P 90 [.cv (.ro .Ad p0), .cv (.fn (.func 57) [] [.pcs [.fn (.func 92) [] []] 0])] (.I r) := (hR.Bv h).pcall (by kernel_rfl)
theorem B9.okR {R : Ag} (hR : R.Ok) {p0 : List Aa} {r : Bool} (h : R.B9 p0 = some r) : PCall V P 56 [.cv (.ro .Ad p0), .cv (.fn (.func 57) [] [.pcs [.fn (.func 92) [] []] 0])] (.B r) := (hR.B9 h).pcall (by kernel_rfl)
theorem C8.okR {R : Ag} (hR : R.Ok) {p0 : List Aa} {r : Bool} (h : R.C8 p0 = some r) : PCall V P 30 [.cv (.ro .Ad p0), .cv (.fn (.func 92) [] [])] (.B r) := (hR.C8 h).pcall (by kernel_rfl)
theorem A3.okR {R : Ag} (hR : R.Ok) {p0 : Aa} {r : Bool} (h : R.A3 p0 = some r) : PCall V P 60 [.agg (Ae p0)] (.B r) := (hR.A3 h).pcall (by kernel_rfl)
def Ds.F (K : Nat) (R : Ag) (p0 : List Aa) : Option Bool := (if (p0.length : Int) < 2 then some false else (if (p0.length : Int) > 3 then some false else (if (0 : Int) < (p0.length : Int) then (Option.bind (A0 K (p0.getD (Int.toNat 0) Ai)) (fun a1 => (if a1 = true then (if (1 : Int) < (p0.length : Int) then (Option.bind (R.A3 (p0.getD (Int.toNat 1) Ai)) (fun a2 => (if a2 = true then (if (p0.length : Int) = 2 then some true else (if (2 : Int) < (p0.length : Int) then (Option.bind (R.A3 (p0.getD (Int.toNat 2) Ai)) (fun a3 => (if a3 = true then some true else (if (p0.getD (Int.toNat 2) Ai).Op = 42 then (Option.bind (R.Ce (p0.getD (Int.toNat 2) Ai)) (fun a4 => some a4)) else some false)))) else none)) else some false))) else none) else some false))) else none)))
theorem Ds.body {Γ : Ent} {K : Nat} {R : Ag} (hR : R.Ok) {p0 : List Aa} {r : Bool} (h : Ds.F K R p0 = some r) : AWp V P 47 100 Γ (Tryz.f120.body.getD .skip) (EndsE P V Tryz.f120 (.B r) []) ⟨args0 0 [.cv (.ro .Ad p0)], []⟩ := by
 unfold Ds.F at h
 refine sg0 L 200 <| awp_seq <| awp_seq ?_
 rcases ite_some h with ⟨c1, h⟩ | ⟨c1, h⟩
 ·refine rg L 202 [(3, true)] [] [] (pl1 (decide_eq_true c1)) ?_
  refine tt (b := true) (rfl) ?_
  refine sg0 L 225 <| awp_ret ?_
  cases h
  exact er0
 rcases ite_some h with ⟨c2, h⟩ | ⟨c2, h⟩
 ·refine rg L 202 [(3, false), (8, true)] [] [] (pl2 (decide_eq_false c1) (decide_eq_true c2)) ?_
  refine tt (b := true) (rfl) ?_
  refine sg0 L 225 <| awp_ret ?_
  cases h
  exact er0
 obtain ⟨g1, h⟩ := guard_some h
 obtain ⟨a1, h1, h⟩ := bind_some h
 rcases ite_some h with ⟨c3, h⟩ | ⟨c3, h⟩
 ·obtain ⟨g2, h⟩ := guard_some h
  obtain ⟨a2, h2, h⟩ := bind_some h
  refine rg L 202 [(3, false), (8, false), (15, false)] [(12, .B a1), (19, .B a2)] [] (plc (decide_eq_false c1) (plc (decide_eq_false c2) (plc (show (0 : Int) ≤ 0 from by decide) (plc g1 (plc (A0.ok h1) (plc trivial (plc (show (!a1) = false from congrArg Bool.not (c3)) (plc (show (0 : Int) ≤ 1 from by decide) (plc g2 (plc (A3.okR hR h2) (pl1 trivial))))))))))) ?_
  rcases ite_some h with ⟨c4, h⟩ | ⟨c4, h⟩
  ·refine ff (b := (!a2)) (congrArg Bool.not (c4)) ?_
   refine awp_skip' <| awp_seq ?_
   rcases ite_some h with ⟨c5, h⟩ | ⟨c5, h⟩
   ·refine rg L 227 [(3, true)] [] [] (pl1 (decide_eq_true c5)) ?_
    refine awp_ret ?_
    cases h
    exact er0
   obtain ⟨g3, h⟩ := guard_some h
   obtain ⟨a3, h3, h⟩ := bind_some h
   rcases ite_some h with ⟨c6, h⟩ | ⟨c6, h⟩
   ·refine rg L 227 [(3, false), (9, true)] [(7, .B a3)] [] (plc (decide_eq_false c5) (plc (show (0 : Int) ≤ 2 from by decide) (plc g3 (plc (A3.okR hR h3) (plc trivial (pl1 c6)))))) ?_
    refine awp_ret ?_
    cases h
    exact er0
   rcases ite_some h with ⟨c7, h⟩ | ⟨c7, h⟩
   ·obtain ⟨a4, h4, h⟩ := bind_some h
    refine rg L 227 [(3, false), (9, false), (15, true)] [(7, .B a3), (19, .B a4)] [] (plc (decide_eq_false c5) (plc (show (0 : Int) ≤ 2 from by decide) (plc g3 (plc (A3.okR hR h3) (plc trivial (plc (eq_false_of_ne_true c6) (plc (show (0 : Int) ≤ 2 from by decide) (plc g3 (plc (decide_eq_true c7) (plc (show (0 : Int) ≤ 2 from by decide) (plc g3 (plc (Ce.okR hR h4) (pl1 trivial))))))))))))) ?_
    refine awp_ret ?_
    cases h
    exact er0
   refine rg L 227 [(3, false), (9, false), (15, false)] [(7, .B a3)] [] (plc (decide_eq_false c5) (plc (show (0 : Int) ≤ 2 from by decide) (plc g3 (plc (A3.okR hR h3) (plc trivial (plc (eq_false_of_ne_true c6) (plc (show (0 : Int) ≤ 2 from by decide) (plc g3 (pl1 (decide_eq_false c7)))))))))) ?_
   refine awp_ret ?_
   cases h
   exact er0
  refine tt (b := (!a2)) (congrArg Bool.not (eq_false_of_ne_true c4)) ?_
  refine sg0 L 225 <| awp_ret ?_
  cases h
  exact er0
 refine rg L 202 [(3, false), (8, false), (15, true)] [(12, .B a1)] [] (plc (decide_eq_false c1) (plc (decide_eq_false c2) (plc (show (0 : Int) ≤ 0 from by decide) (plc g1 (plc (A0.ok h1) (plc trivial (pl1 (show (!a1) = true from congrArg Bool.not (eq_false_of_ne_true c3))))))))) ?_
 refine tt (b := true) (rfl) ?_
 refine sg0 L 225 <| awp_ret ?_
 cases h
 exact er0
def Ct.F (K : Nat) (R : Ag) (p0 : Aa) : Option Bool := (Option.bind (R.A3 p0) (fun a1 => some (!a1)))
theorem Ct.body {Γ : Ent} {K : Nat} {R : Ag} (hR : R.Ok) {p0 : Aa} {r : Bool} (h : Ct.F K R p0 = some r) : AWp V P 8 100 Γ (Tryz.f57.body.getD .skip) (EndsE P V Tryz.f57 (.B r) []) ⟨args0 0 [.agg (Ae p0), .cv (.pcs [.fn (.func 60) [] []] 0)], []⟩ := by
 unfold Ct.F at h
 refine sg0 L 200 <| awp_seq ?_
 obtain ⟨a1, h1, h⟩ := bind_some h
 refine rg L 203 [] [(2, .B a1)] [] (plt (A3.okR hR h1)) ?_
 refine awp_ret ?_
 cases h
 exact er0
def Br.l7 (K : Nat) (R : Ag) (p0 : List Aa) : Nat → Int → Option (Out Int Unit)
 | 0, _ => none
 | k + 1, xt8_7h => (if xt8_7h < (p0.length : Int) then (if (0 : Int) ≤ xt8_7h ∧ (xt8_7h : Int) < (p0.length : Int) then (Option.bind (R.Ct (p0.getD (Int.toNat xt8_7h) Ai)) (fun a1 => (if a1 = true then some (Out.done xt8_7h) else Br.l7 K R p0 k (IntKind.i64.wrap (xt8_7h + 1))))) else none) else some (Out.go ()))
def Br.F (K : Nat) (R : Ag) (p0 : List Aa) : Option Int := (obind (Br.l7 K R p0 K 0 : Option (Out Int Unit)) (fun r => r) (fun _ => some (-1)))
theorem Br.body {Γ : Ent} {K : Nat} {R : Ag} (hR : R.Ok) {p0 : List Aa} {r : Int} (h : Br.F K R p0 = some r) : AWp V P 19 100 Γ (Tryz.f90.body.getD .skip) (EndsE P V Tryz.f90 (.I r) []) ⟨args0 0 [.cv (.ro .Ad p0), .cv (.fn (.func 57) [] [.pcs [.fn (.func 60) [] []] 0])], []⟩ := by
 unfold Br.F at h
 refine sg0 L 200 <| awp_seq <| sg0 L 202 <| awp_block <| kp (S' := ⟨[(0, .cv (.ro .Ad p0)), (1, .cv (.fn (.func 57) [] [.pcs [.fn (.func 60) [] []] 0])), (7, .I (p0.length : Int)), (8, .I 0)], []⟩) ?_
 obtain ⟨o1, hp1, h⟩ := obind_some h
 refine awp_conseq (Q' := fun e S => (e = .exit 0 ∧ S = ⟨[], []⟩ ∧ Out.go () = o1) ∨ (e = .ret ∧ ∃ a, Out.done a = o1 ∧ EndsE P V Tryz.f90 (.I a) [] .ret S)) (awp_loop (fun k S => ∃ xt8_7h : Int, S = ⟨[(0, .cv (.ro .Ad p0)), (1, .cv (.fn (.func 57) [] [.pcs [.fn (.func 60) [] []] 0])), (7, .I (p0.length : Int)), (8, .I xt8_7h)], []⟩ ∧ Br.l7 K R p0 k xt8_7h = some o1) ?_ ⟨_, rfl, hp1⟩) ?_
 ·clear h hp1
  intro k S hS
  obtain ⟨xt8_7h, rfl, h⟩ := hS
  cases k with
  | zero => cases h
  | succ k =>
  unfold Br.l7 at h
  refine sg0 L 206 <| awp_seq ?_
  rcases ite_some h with ⟨c1, h⟩ | ⟨c1, h⟩
  ·refine tT c1 <| awp_skip' <| awp_seq <| awp_block <| sg0 L 208 <| awp_seq ?_
   obtain ⟨g1, h⟩ := guard_some h
   obtain ⟨a1, h1, h⟩ := bind_some h
   refine rg L 211 [] [(5, .B a1)] [] (plc g1.1 (plc g1.2 (plc (Ct.okR hR h1) (pl1 trivial)))) ?_
   rcases ite_some h with ⟨c2, h⟩ | ⟨c2, h⟩
   ·refine tt c2 <| sg0 L 218 <| awp_ret ?_
    cases h
    exact .inr ⟨rfl, _, rfl, er0⟩
   refine fN c2 <| awp_skip' <| ar0 L 221 [] [] [] (S' := ⟨[(0, .cv (.ro .Ad p0)), (1, .cv (.fn (.func 57) [] [.pcs [.fn (.func 60) [] []] 0])), (7, .I (p0.length : Int)), (8, .I (IntKind.i64.wrap (xt8_7h + 1)))], []⟩) ?_
   exact ⟨k, Nat.lt_succ_self k, _, rfl, h⟩
  refine fF c1 <| ex (S' := ⟨[], []⟩) ?_
  cases h
  exact .inl ⟨rfl, rfl, rfl⟩
 ·rintro e S (⟨rfl, rfl, rfl⟩ | ⟨rfl, a, rfl, hr⟩)
  ·rcases h with ⟨_, e1, h⟩ | ⟨_, e1, h⟩
   ·cases e1
   ·have e2 := Out.go.inj e1
    subst e2
    refine ⟨_, Turns.refl, ?_⟩
    refine sg0 L 224 <| awp_ret ?_
    cases h
    exact er0
  ·rcases h with ⟨_, e1, h⟩ | ⟨_, e1, h⟩
   ·have e2 := Out.done.inj e1
    subst e2
    subst h
    exact ⟨_, Turns.refl, hr⟩
   ·cases e1
def Cd.F (K : Nat) (R : Ag) (p0 : List Aa) : Option Bool := (Option.bind (R.Br p0) (fun a1 => some (decide (a1 ≥ 0))))
theorem Cd.body {Γ : Ent} {K : Nat} {R : Ag} (hR : R.Ok) {p0 : List Aa} {r : Bool} (h : Cd.F K R p0 = some r) : AWp V P 9 100 Γ (Tryz.f56.body.getD .skip) (EndsE P V Tryz.f56 (.B r) []) ⟨args0 0 [.cv (.ro .Ad p0), .cv (.fn (.func 57) [] [.pcs [.fn (.func 60) [] []] 0])], []⟩ := by
 unfold Cd.F at h
 refine sg0 L 200 <| awp_seq ?_
 obtain ⟨a1, h1, h⟩ := bind_some h
 refine rg L 202 [] [(2, .I a1)] [] (plt (Br.okR hR h1)) ?_
 refine awp_ret ?_
 cases h
 exact er0
def C0.F (K : Nat) (R : Ag) (p0 : List Aa) : Option Bool := (Option.bind (R.Cd p0) (fun a1 => some (!a1)))
theorem C0.body {Γ : Ent} {K : Nat} {R : Ag} (hR : R.Ok) {p0 : List Aa} {r : Bool} (h : C0.F K R p0 = some r) : AWp V P 9 100 Γ (Tryz.f30.body.getD .skip) (EndsE P V Tryz.f30 (.B r) []) ⟨args0 0 [.cv (.ro .Ad p0), .cv (.fn (.func 60) [] [])], []⟩ := by
 unfold C0.F at h
 refine sg0 L 200 <| awp_seq ?_
 obtain ⟨a1, h1, h⟩ := bind_some h
 refine rg L 203 [] [(2, .B a1)] [] (plt (Cd.okR hR h1)) ?_
 refine awp_ret ?_
 cases h
 exact er0
end Go.Proofs.YtifjagfmfkemmaaGreatDoor
