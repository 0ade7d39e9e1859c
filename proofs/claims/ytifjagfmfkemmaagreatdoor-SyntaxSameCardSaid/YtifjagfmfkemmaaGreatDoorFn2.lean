/- What functions of the program compute, as Lean functions, and that they compute it. -/
import Derived.Test.YtifjagfmfkemmaaGreatDoorFn1
set_option linter.unusedVariables false
set_option maxHeartbeats 0
namespace Go.Proofs.YtifjagfmfkemmaaGreatDoor
open Eng
def B3 (K : Nat) (p0 : Ab) : Option (Int ⊕ (Aa × Ab)) := (Option.bind (Aw K p0) (fun a1 => match a1 with | (Sum.inl a1) => some (Sum.inl a1) | (Sum.inr (a1_0, a1_1)) => (Option.bind (Aq K ([59] : List UInt8) a1_1) (fun a2 => match a2 with | (Sum.inl a2) => some (Sum.inr (a1_0, a2)) | (Sum.inr a2) => some (Sum.inl a2)))))
def B3.rep (p0 : Ab) : Int ⊕ (Aa × Ab) → Outc T
 | (Sum.inl v0) => .pan (ofi 49 v0)
 | (Sum.inr (v0, v1)) => .ret (.agg [.I v0.Op, .str v0.Name, .I v0.Int, .str v0.Text, .ro .Ae v0.Kids])
def B3.post (p0 : Ab) : Int ⊕ (Aa × Ab) → List (Nat × Blk T)
 | (Sum.inl v0) => []
 | (Sum.inr (v0, v1)) => [(0, .raw [.ro .Am v1.l, .I v1.i])]
theorem B3.body {Γ : Ent} {K : Nat} {p0 : Ab} {r : Int ⊕ (Aa × Ab)} (h : B3 K p0 = some r) : AWp V P 9 100 Γ (Tryz.f104.body.getD .skip) (EndsX P V Tryz.f104 (B3.rep p0 r) (B3.post p0 r)) ⟨args0 0 [.P 0], [(0, .raw (Af p0))]⟩ := by
 unfold B3 at h
 refine sg0 L 200 <| awp_seq ?_
 obtain ⟨a1, h1, h⟩ := bind_some h
 rcases a1 with a1 | a1
 ·dsimp only at h
  refine qn L 202 [] [] [] 1 (ef0 (.tup []) []) (ofi 49 a1) (pl1 (Aw.okE h1)) ?_
  cases h
  exact rfl
 ·obtain ⟨a1_0, a1_1⟩ := a1
  dsimp only at h
  refine rg L 202 [] [] [(1, (ef0 (.agg (Ag a1_0)) [(0, .raw (Af a1_1))]))] (pl1 (Aw.okE h1)) ?_
  refine awp_seq ?_
  obtain ⟨a2, h2, h⟩ := bind_some h
  rcases a2 with a2 | a2
  ·dsimp only at h
   refine rg L 207 [] [] [(1, (ef0 (.tup []) [(0, .raw (Af a2))]))] (pl1 (Aq.okE h2)) ?_
   refine sg0 L 210 <| awp_turn (Turns.trans (Turns.kk [2] [0, 200]) (Turns.rr [(0, 0), (200, 100)])) ?_
   refine awp_ret ?_
   cases h
   exact xr0
  ·obtain ⟨a2, rfl⟩ : ∃ z, z = a2 := ⟨_, rfl⟩
   dsimp only at h
   refine qn L 207 [] [] [] 1 (ef0 (.tup []) []) (ofi 49 a2) (pl1 (Aq.okE h2)) ?_
   cases h
   exact rfl
theorem B3.okE {K : Nat} {p0 : Ab} {r : Int ⊕ (Aa × Ab)} (h : B3 K p0 = some r) : XCall V P 104 [.P 0] [(0, .raw (Af p0))] [0] (B3.post p0 r) (B3.rep p0 r) :=
 xo (fn := Tryz.f104) (n := 9) (m := 100) fun Γ => B3.body h
def C5 (K : Nat) (p0 : Ab) : Option (Int ⊕ (Aa × Ab)) := (if (0 : Int) ≤ (if (IntKind.i64.wrap ((p0.l.length : Int) - 1)) < (IntKind.i64.wrap (p0.i + 1)) then (IntKind.i64.wrap ((p0.l.length : Int) - 1)) else (IntKind.i64.wrap (p0.i + 1))) ∧ ((if (IntKind.i64.wrap ((p0.l.length : Int) - 1)) < (IntKind.i64.wrap (p0.i + 1)) then (IntKind.i64.wrap ((p0.l.length : Int) - 1)) else (IntKind.i64.wrap (p0.i + 1))) : Int) < (p0.l.length : Int) then (Option.bind (((Option.bind (Bx K p0) (fun a1 => (if a1.Kind = 1 then (if ((p0.l.getD (Int.toNat (if (IntKind.i64.wrap ((p0.l.length : Int) - 1)) < (IntKind.i64.wrap (p0.i + 1)) then (IntKind.i64.wrap ((p0.l.length : Int) - 1)) else (IntKind.i64.wrap (p0.i + 1)))) D2)).Kind = 5 then some ((decide (((p0.l.getD (Int.toNat (if (IntKind.i64.wrap ((p0.l.length : Int) - 1)) < (IntKind.i64.wrap (p0.i + 1)) then (IntKind.i64.wrap ((p0.l.length : Int) - 1)) else (IntKind.i64.wrap (p0.i + 1)))) D2)).Text = ([61] : List UInt8)))) else some false) else some false)))) : Option Bool) (fun xt36_6 => (if xt36_6 = true then (Option.bind (Au K p0) (fun a2 => match a2 with | (Sum.inl a2) => some (Sum.inl a2) | (Sum.inr (a2_0, a2_1)) => (Option.bind (B3 K (⟨a2_1.l, (IntKind.i64.wrap (a2_1.i + 1))⟩ : Ab)) (fun a3 => match a3 with | (Sum.inl a3) => some (Sum.inl a3) | (Sum.inr (a3_0, a3_1)) => some (Sum.inr ((⟨41, a2_0, 0, [], ([(⟨a3_0.Op, a3_0.Name, a3_0.Int, a3_0.Text, a3_0.Kids⟩ : Aa)] : List Aa)⟩ : Aa), a3_1)))))) else (Option.bind (B3 K p0) (fun a4 => match a4 with | (Sum.inl a4) => some (Sum.inl a4) | (Sum.inr (a4_0, a4_1)) => (Option.bind (C3 K 52 ([(⟨a4_0.Op, a4_0.Name, a4_0.Int, a4_0.Text, a4_0.Kids⟩ : Aa)] : List Aa)) (fun a5 => some (Sum.inr (a5, a4_1))))))))) else none)
def C5.rep (p0 : Ab) : Int ⊕ (Aa × Ab) → Outc T
 | (Sum.inl v0) => .pan (ofi 49 v0)
 | (Sum.inr (v0, v1)) => .ret (.agg [.I v0.Op, .str v0.Name, .I v0.Int, .str v0.Text, .ro .Ae v0.Kids])
def C5.post (p0 : Ab) : Int ⊕ (Aa × Ab) → List (Nat × Blk T)
 | (Sum.inl v0) => []
 | (Sum.inr (v0, v1)) => [(0, .raw [.ro .Am v1.l, .I v1.i])]
theorem C5.body {Γ : Ent} {K : Nat} {p0 : Ab} {r : Int ⊕ (Aa × Ab)} (h : C5 K p0 = some r) : AWp V P 55 100 Γ (Tryz.f108.body.getD .skip) (EndsX P V Tryz.f108 (C5.rep p0 r) (C5.post p0 r)) ⟨args0 0 [.P 0], [(0, .raw (Af p0))]⟩ := by
 unfold C5 at h
 refine sg0 L 200 <| awp_seq <| awp_seq ?_
 obtain ⟨g1, h⟩ := guard_some h
 refine rd L mixed 202 [] [] [] [220] 20 (pl2 g1.1 g1.2) ?_
 obtain ⟨o1, hp1, h⟩ := bind_some h
 refine awp_seq (awp_mono (Q' := fun e S => (e = .normal ∧ ∃ xt36_6 : Bool, S = ⟨[(0, .P 0), (2, .P 21200), (36, .B xt36_6)], [(0, .raw (Af p0)), (21200, .raw [.I 0, .str [], .I 0, .str [], .N])]⟩ ∧ xt36_6 = o1)) ?_ ?_)
 ·clear h
  replace h := hp1
  obtain ⟨a1, h1, h⟩ := bind_some h
  rcases ite_some h with ⟨c1, h⟩ | ⟨c1, h⟩
  ·rcases ite_some h with ⟨c2, h⟩ | ⟨c2, h⟩
   ·refine awp_post (rg L 223 [(4, true), (9, true)] [(1, .agg (Ea a1))] [] (plc (Bx.ok h1) (plc trivial (plc (decide_eq_true c1) (pl1 (decide_eq_true c2))))) ⟨rfl, rfl⟩) (Turns.trans (Turns.kk [0, 2, 36] [0, 200]) (Turns.trans (Turns.rr [(0, 0), (200, 21200)]) (Turns.kp (S' := ⟨[(0, .P 0), (2, .P 21200), (36, .B ((decide (((p0.l.getD (Int.toNat (if (IntKind.i64.wrap ((p0.l.length : Int) - 1)) < (IntKind.i64.wrap (p0.i + 1)) then (IntKind.i64.wrap ((p0.l.length : Int) - 1)) else (IntKind.i64.wrap (p0.i + 1)))) D2)).Text = ([61] : List UInt8)))))], [(0, .raw (Af p0)), (21200, .raw [.I 0, .str [], .I 0, .str [], .N])]⟩)))) ?_
    cases h
    exact ⟨rfl, _, rfl, rfl⟩
   refine awp_post (rg L 223 [(4, true), (9, false)] [(1, .agg (Ea a1))] [] (plc (Bx.ok h1) (plc trivial (plc (decide_eq_true c1) (pl1 (decide_eq_false c2))))) ⟨rfl, rfl⟩) (Turns.trans (Turns.kk [0, 2, 36] [0, 200]) (Turns.trans (Turns.rr [(0, 0), (200, 21200)]) (Turns.kp (S' := ⟨[(0, .P 0), (2, .P 21200), (36, .B false)], [(0, .raw (Af p0)), (21200, .raw [.I 0, .str [], .I 0, .str [], .N])]⟩)))) ?_
   cases h
   exact ⟨rfl, _, rfl, rfl⟩
  refine awp_post (rg L 223 [(4, false)] [(1, .agg (Ea a1))] [] (plc (Bx.ok h1) (plc trivial (pl1 (decide_eq_false c1)))) ⟨rfl, rfl⟩) (Turns.trans (Turns.kk [0, 2, 36] [0, 200]) (Turns.trans (Turns.rr [(0, 0), (200, 21200)]) (Turns.kp (S' := ⟨[(0, .P 0), (2, .P 21200), (36, .B false)], [(0, .raw (Af p0)), (21200, .raw [.I 0, .str [], .I 0, .str [], .N])]⟩)))) ?_
  cases h
  exact ⟨rfl, _, rfl, rfl⟩
 ·rintro e S ⟨rfl, xt36_6, rfl, rfl⟩
  rcases ite_some h with ⟨c3, h⟩ | ⟨c3, h⟩
  ·refine tt c3 <| awp_seq ?_
   obtain ⟨a2, h2, h⟩ := bind_some h
   rcases a2 with a2 | a2
   ·dsimp only at h
    refine qn L 238 [] [] [] 1 (ef0 (.tup []) []) (ofi 49 a2) (pl1 (Au.okE h2)) ?_
    cases h
    exact rfl
   ·obtain ⟨a2_0, a2_1⟩ := a2
    dsimp only at h
    refine rg L 238 [] [] [(1, (ef0 (.cv (.str a2_0)) [(0, .raw (Af a2_1))]))] (pl1 (Au.okE h2)) ?_
    refine sg0 L 242 <| awp_seq ?_
    obtain ⟨a3, h3, h⟩ := bind_some h
    rcases a3 with a3 | a3
    ·dsimp only at h
     refine qn L 251 [] [] [] 2 (ef0 (.tup []) []) (ofi 49 a3) (pl1 (B3.okE h3)) ?_
     cases h
     exact rfl
    ·obtain ⟨a3_0, a3_1⟩ := a3
     dsimp only at h
     refine rg L 251 [] [] [(2, (ef0 (.agg (Ag a3_0)) [(0, .raw (Af a3_1))]))] (pl1 (B3.okE h3)) ?_
     refine awp_turn (Turns.trans (Turns.kk [2] [0, 21200]) (Turns.rr [(0, 0), (21200, 100)])) ?_
     refine awp_ret ?_
     cases h
     exact xr0
  refine fN c3 <| awp_skip' <| awp_seq ?_
  obtain ⟨a4, h4, h⟩ := bind_some h
  rcases a4 with a4 | a4
  ·dsimp only at h
   refine qn L 258 [] [] [] 1 (ef0 (.tup []) []) (ofi 49 a4) (pl1 (B3.okE h4)) ?_
   cases h
   exact rfl
  ·obtain ⟨a4_0, a4_1⟩ := a4
   dsimp only at h
   obtain ⟨a5, h5, h⟩ := bind_some h
   refine rg L 258 [] [(3, .agg (Ag a5))] [(1, (ef0 (.agg (Ag a4_0)) [(0, .raw (Af a4_1))]))] (plc (B3.okE h4) (plc (C3.ok h5) (pl1 trivial))) ?_
   refine awp_turn (Turns.trans (Turns.kk [2] [0, 21200]) (Turns.rr [(0, 0), (21200, 100)])) ?_
   refine awp_ret ?_
   cases h
   exact xr0
theorem C5.okE {K : Nat} {p0 : Ab} {r : Int ⊕ (Aa × Ab)} (h : C5 K p0 = some r) : XCall V P 108 [.P 0] [(0, .raw (Af p0))] [0] (C5.post p0 r) (C5.rep p0 r) :=
 xo (fn := Tryz.f108) (n := 55) (m := 100) fun Γ => C5.body h
def Fe (K : Nat) (p0 : Int) (p1 : List Aa) : Option (List Aa) := some p1
theorem Fe.body {Γ : Ent} {K : Nat} {p0 : Int} {p1 : List Aa} {r : List Aa} (h : Fe K p0 p1 = some r) : AWp V P 8 100 Γ (Tryz.f75.body.getD .skip) (EndsE P V Tryz.f75 (.agg [.I p0, .str [], .I 0, .str [], .own .Ae 0]) [(0, .lst .Ae r)]) ⟨args0 0 [.I p0, .cv (.own .Ae 0)], [(0, .lst .Ae p1)]⟩ := by
 unfold Fe at h
 refine sg0 L 200 <| sg0 L 202 <| awp_turn (Turns.trans (Turns.kk [4] [0, 200]) (Turns.rr [(0, 0), (200, 100)])) ?_
 refine awp_ret ?_
 cases h
 exact er0
theorem Fe.okE {K : Nat} {p0 : Int} {p1 : List Aa} {r : List Aa} (h : Fe K p0 p1 = some r) : ECall V P 75 [.I p0, .cv (.own .Ae 0)] [(0, .lst .Ae p1)] [0] (.agg [.I p0, .str [], .I 0, .str [], .own .Ae 0]) [(0, .lst .Ae r)] :=
 eo (fn := Tryz.f75) (n := 8) (m := 100) fun Γ => Fe.body h
def Bb.rep (p0 : Ab) : Int ⊕ (Aa × Ab) → Outc T
 | (Sum.inl v0) => .pan (ofi 49 v0)
 | (Sum.inr (v0, v1)) => .ret (.agg [.I v0.Op, .str v0.Name, .I v0.Int, .str v0.Text, .ro .Ae v0.Kids])
def Bb.post (p0 : Ab) : Int ⊕ (Aa × Ab) → List (Nat × Blk T)
 | (Sum.inl v0) => []
 | (Sum.inr (v0, v1)) => [(0, .raw [.ro .Am v1.l, .I v1.i])]
def Bd.rep (p0 : Ab) : Int ⊕ (Aa × Ab) → Outc T
 | (Sum.inl v0) => .pan (ofi 49 v0)
 | (Sum.inr (v0, v1)) => .ret (.agg [.I v0.Op, .str v0.Name, .I v0.Int, .str v0.Text, .ro .Ae v0.Kids])
def Bd.post (p0 : Ab) : Int ⊕ (Aa × Ab) → List (Nat × Blk T)
 | (Sum.inl v0) => []
 | (Sum.inr (v0, v1)) => [(0, .raw [.ro .Am v1.l, .I v1.i])]
def Bn.rep (p0 : Ab) : Int ⊕ (Aa × Ab) → Outc T
 | (Sum.inl v0) => .pan (ofi 49 v0)
 | (Sum.inr (v0, v1)) => .ret (.agg [.I v0.Op, .str v0.Name, .I v0.Int, .str v0.Text, .ro .Ae v0.Kids])
def Bn.post (p0 : Ab) : Int ⊕ (Aa × Ab) → List (Nat × Blk T)
 | (Sum.inl v0) => []
 | (Sum.inr (v0, v1)) => [(0, .raw [.ro .Am v1.l, .I v1.i])]
def Ap.rep (p0 : Ab) : Int ⊕ (Aa × Ab) → Outc T
 | (Sum.inl v0) => .pan (ofi 49 v0)
 | (Sum.inr (v0, v1)) => .ret (.agg [.I v0.Op, .str v0.Name, .I v0.Int, .str v0.Text, .ro .Ae v0.Kids])
def Ap.post (p0 : Ab) : Int ⊕ (Aa × Ab) → List (Nat × Blk T)
 | (Sum.inl v0) => []
 | (Sum.inr (v0, v1)) => [(0, .raw [.ro .Am v1.l, .I v1.i])]
structure Bh where
 Bb : Ab → Option (Int ⊕ (Aa × Ab))
 Bd : Ab → Option (Int ⊕ (Aa × Ab))
 Bn : Ab → Option (Int ⊕ (Aa × Ab))
 Ap : Ab → Option (Int ⊕ (Aa × Ab))
structure Bh.Ok (R : Bh) : Prop where
 Bb : ∀ {p0 : Ab} {r : Int ⊕ (Aa × Ab)}, R.Bb p0 = some r → XCall V P 105 [.P 0] [(0, .raw (Af p0))] [0] (Bb.post p0 r) (Bb.rep p0 r)
 Bd : ∀ {p0 : Ab} {r : Int ⊕ (Aa × Ab)}, R.Bd p0 = some r → XCall V P 107 [.P 0] [(0, .raw (Af p0))] [0] (Bd.post p0 r) (Bd.rep p0 r)
 Bn : ∀ {p0 : Ab} {r : Int ⊕ (Aa × Ab)}, R.Bn p0 = some r → XCall V P 77 [.P 0] [(0, .raw (Af p0))] [0] (Bn.post p0 r) (Bn.rep p0 r)
 Ap : ∀ {p0 : Ab} {r : Int ⊕ (Aa × Ab)}, R.Ap p0 = some r → XCall V P 50 [.P 0] [(0, .raw (Af p0))] [0] (Ap.post p0 r) (Ap.rep p0 r)
def Bb.F (K : Nat) (R : Bh) (p0 : Ab) : Option (Int ⊕ (Aa × Ab)) := (Option.bind (Aw K p0) (fun a1 => match a1 with | (Sum.inl a1) => some (Sum.inl a1) | (Sum.inr (a1_0, a1_1)) => (Option.bind (R.Ap a1_1) (fun a2 => match a2 with | (Sum.inl a2) => some (Sum.inl a2) | (Sum.inr (a2_0, a2_1)) => (Option.bind (Fe K 42 ([(⟨a1_0.Op, a1_0.Name, a1_0.Int, a1_0.Text, a1_0.Kids⟩ : Aa), (⟨a2_0.Op, a2_0.Name, a2_0.Int, a2_0.Text, a2_0.Kids⟩ : Aa)] : List Aa)) (fun a3 => (Option.bind (Ao K ([101, 108, 115, 101] : List UInt8) a2_1) (fun (a4_0, a4_1) => (if a4_0 = true then (Option.bind (Ao K ([105, 102] : List UInt8) a4_1) (fun (a5_0, a5_1) => (if a5_0 = true then (Option.bind (R.Bb a5_1) (fun a6 => match a6 with | (Sum.inl a6) => some (Sum.inl a6) | (Sum.inr (a6_0, a6_1)) => (if (a3.length + ([(⟨a6_0.Op, a6_0.Name, a6_0.Int, a6_0.Text, a6_0.Kids⟩ : Aa)] : List Aa).length) * 72 ≤ 140737488355328 then some ((Sum.inr ((⟨42, [], 0, [], (a3 ++ ([(⟨a6_0.Op, a6_0.Name, a6_0.Int, a6_0.Text, a6_0.Kids⟩ : Aa)] : List Aa))⟩ : Aa), a6_1))) else none))) else (Option.bind (R.Ap a5_1) (fun a7 => match a7 with | (Sum.inl a7) => some (Sum.inl a7) | (Sum.inr (a7_0, a7_1)) => (if (a3.length + ([(⟨a7_0.Op, a7_0.Name, a7_0.Int, a7_0.Text, a7_0.Kids⟩ : Aa)] : List Aa).length) * 72 ≤ 140737488355328 then some ((Sum.inr ((⟨42, [], 0, [], (a3 ++ ([(⟨a7_0.Op, a7_0.Name, a7_0.Int, a7_0.Text, a7_0.Kids⟩ : Aa)] : List Aa))⟩ : Aa), a7_1))) else none)))))) else some (Sum.inr ((⟨42, [], 0, [], a3⟩ : Aa), a4_1)))))))))))
theorem Bb.body {Γ : Ent} {K : Nat} {R : Bh} (hR : R.Ok) {p0 : Ab} {r : Int ⊕ (Aa × Ab)} (h : Bb.F K R p0 = some r) : AWp V P 31 100 Γ (Tryz.f105.body.getD .skip) (EndsX P V Tryz.f105 (Bb.rep p0 r) (Bb.post p0 r)) ⟨args0 0 [.P 0], [(0, .raw (Af p0))]⟩ := by
 unfold Bb.F at h
 refine sg0 L 200 <| awp_seq ?_
 obtain ⟨a1, h1, h⟩ := bind_some h
 rcases a1 with a1 | a1
 ·dsimp only at h
  refine qn L 100202 [] [] [] 1 (ef0 (.tup []) []) (ofi 49 a1) (pl1 (Aw.okE h1)) ?_
  cases h
  exact rfl
 ·obtain ⟨a1_0, a1_1⟩ := a1
  dsimp only at h
  obtain ⟨a2, h2, h⟩ := bind_some h
  rcases a2 with a2 | a2
  ·dsimp only at h
   refine qn L 100202 [] [] [(1, (ef0 (.agg (Ag a1_0)) [(0, .raw (Af a1_1))]))] 3 (ef0 (.tup []) []) (ofi 49 a2) (pl2 (Aw.okE h1) (hR.Ap h2)) ?_
   cases h
   exact rfl
  ·obtain ⟨a2_0, a2_1⟩ := a2
   dsimp only at h
   obtain ⟨a3, h3, h⟩ := bind_some h
   refine rg L 100202 [] [] [(1, (ef0 (.agg (Ag a1_0)) [(0, .raw (Af a1_1))])), (3, (ef0 (.agg (Ag a2_0)) [(0, .raw (Af a2_1))])), (5, (ef [0] [0] (.agg [.I 42, .str [], .I 0, .str [], .own .Ae 0]) [(0, .lst .Ae a3)] [(0, 100206)]))] (plc (Aw.okE h1) (plc (hR.Ap h2) (pl1 (Fe.okE h3)))) ?_
   refine awp_seq <| awp_seq ?_
   obtain ⟨⟨a4_0, a4_1⟩, h4, h⟩ := bind_some h
   dsimp only at h
   refine rg L 211 [] [] [(1, (ef0 (.B a4_0) [(0, .raw (Af a4_1))]))] (pl1 (Ao.okE h4)) ?_
   rcases ite_some h with ⟨c1, h⟩ | ⟨c1, h⟩
   ·refine ff (b := (!a4_0)) (congrArg Bool.not (c1)) ?_
    refine awp_skip' <| awp_seq <| awp_seq ?_
    obtain ⟨⟨a5_0, a5_1⟩, h5, h⟩ := bind_some h
    dsimp only at h
    refine rg L 218 [] [] [(1, (ef0 (.B a5_0) [(0, .raw (Af a5_1))]))] (pl1 (Ao.okE h5)) ?_
    rcases ite_some h with ⟨c2, h⟩ | ⟨c2, h⟩
    ·refine tt c2 ?_
     obtain ⟨a6, h6, h⟩ := bind_some h
     rcases a6 with a6 | a6
     ·dsimp only at h
      refine qP L mixed 221 [] [] [] [0, 2] 3 (ef0 (.tup []) []) (ofi 49 a6) (pl2 (hR.Bb h6) (hR.Bb h6)) ?_
      cases h
      exact rfl
     ·obtain ⟨a6_0, a6_1⟩ := a6
      dsimp only at h
      obtain ⟨g1, h⟩ := guard_some h
      refine hB L mixed 221 [] [] [(3, (ef0 (.agg (Ag a6_0)) [(0, .raw (Af a6_1))]))] [0, 2] 3 (plc (hR.Bb h6) (plc g1 (plc trivial (plc (hR.Bb h6) (plc g1 (plc trivial (plc g1 (pl1 trivial)))))))) (S' := ⟨[(2, .P 200), (3, .P 100208)], [(0, .raw (Af a6_1)), (200, .raw [.I 0, .str [], .I 0, .str [], .N]), (100206, .lst .Ae (a3 ++ ([(⟨a6_0.Op, a6_0.Name, a6_0.Int, a6_0.Text, a6_0.Kids⟩ : Aa)] : List Aa))), (100208, .raw [.I 42, .str [], .I 0, .str [], .own .Ae 100206])]⟩) ?_
      refine sg0 L 239 <| awp_turn (Turns.trans (Turns.kk [2] [0, 200, 100206]) (Turns.trans (Turns.fz 100206) (Turns.rr [(0, 0), (200, 100)]))) ?_
      refine awp_ret ?_
      cases h
      exact xr0
    refine fN c2 ?_
    obtain ⟨a7, h7, h⟩ := bind_some h
    rcases a7 with a7 | a7
    ·dsimp only at h
     refine qP L mixed 230 [] [] [] [0, 2] 3 (ef0 (.tup []) []) (ofi 49 a7) (pl2 (hR.Ap h7) (hR.Ap h7)) ?_
     cases h
     exact rfl
    ·obtain ⟨a7_0, a7_1⟩ := a7
     dsimp only at h
     obtain ⟨g2, h⟩ := guard_some h
     refine hB L mixed 230 [] [] [(3, (ef0 (.agg (Ag a7_0)) [(0, .raw (Af a7_1))]))] [0, 2] 3 (plc (hR.Ap h7) (plc g2 (plc trivial (plc (hR.Ap h7) (plc g2 (plc trivial (plc g2 (pl1 trivial)))))))) (S' := ⟨[(2, .P 200), (3, .P 100208)], [(0, .raw (Af a7_1)), (200, .raw [.I 0, .str [], .I 0, .str [], .N]), (100206, .lst .Ae (a3 ++ ([(⟨a7_0.Op, a7_0.Name, a7_0.Int, a7_0.Text, a7_0.Kids⟩ : Aa)] : List Aa))), (100208, .raw [.I 42, .str [], .I 0, .str [], .own .Ae 100206])]⟩) ?_
     refine sg0 L 239 <| awp_turn (Turns.trans (Turns.kk [2] [0, 200, 100206]) (Turns.trans (Turns.fz 100206) (Turns.rr [(0, 0), (200, 100)]))) ?_
     refine awp_ret ?_
     cases h
     exact xr0
   refine tt (b := (!a4_0)) (congrArg Bool.not (eq_false_of_ne_true c1)) ?_
   refine sg0 L 215 <| awp_turn (Turns.trans (Turns.kk [2] [0, 200, 100206]) (Turns.trans (Turns.fz 100206) (Turns.rr [(0, 0), (200, 100)]))) ?_
   refine awp_ret ?_
   cases h
   exact xr0
def Bd.l9 (K : Nat) (R : Bh) : Nat → (List As) → Int → (List Aa) → Option (Out (Int ⊕ (Aa × Ab)) ((List As) × Int × (List Aa)))
 | 0, _, _, _ => none
 | k + 1, xh0_0_9h, xh0_1_9h, x21902 => (Option.bind (Ec K (⟨xh0_0_9h, xh0_1_9h⟩ : Ab) ([99, 97, 115, 101] : List UInt8)) (fun a2 => (if a2 = true then (if (x21902.length : Int) = 16 then (Option.bind (Bs K (⟨xh0_0_9h, xh0_1_9h⟩ : Ab)) (fun a3 => some (Out.done (Sum.inl a3)))) else (obind (((if (0 : Int) ≤ (if (IntKind.i64.wrap ((xh0_0_9h.length : Int) - 1)) < (IntKind.i64.wrap ((IntKind.i64.wrap (xh0_1_9h + 1)) + 1)) then (IntKind.i64.wrap ((xh0_0_9h.length : Int) - 1)) else (IntKind.i64.wrap ((IntKind.i64.wrap (xh0_1_9h + 1)) + 1))) ∧ ((if (IntKind.i64.wrap ((xh0_0_9h.length : Int) - 1)) < (IntKind.i64.wrap ((IntKind.i64.wrap (xh0_1_9h + 1)) + 1)) then (IntKind.i64.wrap ((xh0_0_9h.length : Int) - 1)) else (IntKind.i64.wrap ((IntKind.i64.wrap (xh0_1_9h + 1)) + 1))) : Int) < (xh0_0_9h.length : Int) then (Option.bind (((Option.bind (Bx K (⟨xh0_0_9h, (IntKind.i64.wrap (xh0_1_9h + 1))⟩ : Ab)) (fun a4 => (if a4.Kind = 1 then (if ((xh0_0_9h.getD (Int.toNat (if (IntKind.i64.wrap ((xh0_0_9h.length : Int) - 1)) < (IntKind.i64.wrap ((IntKind.i64.wrap (xh0_1_9h + 1)) + 1)) then (IntKind.i64.wrap ((xh0_0_9h.length : Int) - 1)) else (IntKind.i64.wrap ((IntKind.i64.wrap (xh0_1_9h + 1)) + 1)))) D2)).Kind = 5 then some ((decide (((xh0_0_9h.getD (Int.toNat (if (IntKind.i64.wrap ((xh0_0_9h.length : Int) - 1)) < (IntKind.i64.wrap ((IntKind.i64.wrap (xh0_1_9h + 1)) + 1)) then (IntKind.i64.wrap ((xh0_0_9h.length : Int) - 1)) else (IntKind.i64.wrap ((IntKind.i64.wrap (xh0_1_9h + 1)) + 1)))) D2)).Text = ([61] : List UInt8)))) else some false) else some false)))) : Option Bool) (fun xt56_30 => (if xt56_30 = true then (Option.bind (Au K (⟨xh0_0_9h, (IntKind.i64.wrap (xh0_1_9h + 1))⟩ : Ab)) (fun a5 => match a5 with | (Sum.inl a5) => some (Out.done (Sum.inl a5)) | (Sum.inr (a5_0, a5_1)) => some (Out.go (a5_1.l, (IntKind.i64.wrap (a5_1.i + 1)), a5_0)))) else some (Out.go (xh0_0_9h, (IntKind.i64.wrap (xh0_1_9h + 1)), []))))) else none)) : Option (Out (Int ⊕ (Aa × Ab)) ((List As) × Int × (List UInt8)))) Out.done (fun (xh0_0_27, xh0_1_27, x25402_1) => (Option.bind (Aw K (⟨xh0_0_27, xh0_1_27⟩ : Ab)) (fun a6 => match a6 with | (Sum.inl a6) => some (Out.done (Sum.inl a6)) | (Sum.inr (a6_0, a6_1)) => (Option.bind (R.Ap a6_1) (fun a7 => match a7 with | (Sum.inl a7) => some (Out.done (Sum.inl a7)) | (Sum.inr (a7_0, a7_1)) => (if (x21902.length + ([(⟨50, x25402_1, 0, [], ([(⟨a6_0.Op, a6_0.Name, a6_0.Int, a6_0.Text, a6_0.Kids⟩ : Aa), (⟨a7_0.Op, a7_0.Name, a7_0.Int, a7_0.Text, a7_0.Kids⟩ : Aa)] : List Aa)⟩ : Aa)] : List Aa).length) * 72 ≤ 140737488355328 then Bd.l9 K R k a7_1.l a7_1.i (x21902 ++ ([(⟨50, x25402_1, 0, [], ([(⟨a6_0.Op, a6_0.Name, a6_0.Int, a6_0.Text, a6_0.Kids⟩ : Aa), (⟨a7_0.Op, a7_0.Name, a7_0.Int, a7_0.Text, a7_0.Kids⟩ : Aa)] : List Aa)⟩ : Aa)] : List Aa)) else none)))))))) else some (Out.go (xh0_0_9h, xh0_1_9h, x21902)))))
def Bd.F (K : Nat) (R : Bh) (p0 : Ab) : Option (Int ⊕ (Aa × Ab)) := (Option.bind (Aq K ([123] : List UInt8) p0) (fun a1 => match a1 with | (Sum.inl a1) => (obind (Bd.l9 K R K a1.l a1.i ([] : List Aa) : Option (Out (Int ⊕ (Aa × Ab)) ((List As) × Int × (List Aa)))) (fun r => r) (fun (xh0_0_9, xh0_1_9, x21802) => (obind (((Option.bind (Ao K ([101, 108, 115, 101] : List UInt8) (⟨xh0_0_9, xh0_1_9⟩ : Ab)) (fun (a8_0, a8_1) => (if a8_0 = true then (Option.bind (R.Ap a8_1) (fun a9 => match a9 with | (Sum.inl a9) => some (Out.done (Sum.inl a9)) | (Sum.inr (a9_0, a9_1)) => (Option.bind (C3 K 51 ([(⟨a9_0.Op, a9_0.Name, a9_0.Int, a9_0.Text, a9_0.Kids⟩ : Aa)] : List Aa)) (fun a10 => (if (x21802.length + ([(⟨a10.Op, a10.Name, a10.Int, a10.Text, a10.Kids⟩ : Aa)] : List Aa).length) * 72 ≤ 140737488355328 then some (Out.go (a9_1.l, a9_1.i, (x21802 ++ ([(⟨a10.Op, a10.Name, a10.Int, a10.Text, a10.Kids⟩ : Aa)] : List Aa)))) else none))))) else some (Out.go (a8_1.l, a8_1.i, x21802)))))) : Option (Out (Int ⊕ (Aa × Ab)) ((List As) × Int × (List Aa)))) (fun r => r) (fun (xh0_0_40, xh0_1_40, x28002) => (if (x28002.length : Int) = 0 then (Option.bind (Bs K (⟨xh0_0_40, xh0_1_40⟩ : Ab)) (fun a11 => some (Sum.inl a11))) else (Option.bind (Aq K ([125] : List UInt8) (⟨xh0_0_40, xh0_1_40⟩ : Ab)) (fun a12 => match a12 with | (Sum.inl a12) => some (Sum.inr ((⟨49, [], 0, [], x28002⟩ : Aa), a12)) | (Sum.inr a12) => some (Sum.inl a12)))))))) | (Sum.inr a1) => some (Sum.inl a1)))
theorem Bd.body {Γ : Ent} {K : Nat} {R : Bh} (hR : R.Ok) {p0 : Ab} {r : Int ⊕ (Aa × Ab)} (h : Bd.F K R p0 = some r) : AWp V P 99 100 Γ (Tryz.f107.body.getD .skip) (EndsX P V Tryz.f107 (Bd.rep p0 r) (Bd.post p0 r)) ⟨args0 0 [.P 0], [(0, .raw (Af p0))]⟩ := by
 unfold Bd.F at h
 refine sg0 L 200 <| sg0 L 202 <| awp_seq ?_
 obtain ⟨a1, h1, h⟩ := bind_some h
 rcases a1 with a1 | a1
 ·dsimp only at h
  refine rg L 206 [] [] [(1, (ef0 (.tup []) [(0, .raw (Af a1))]))] (pl1 (Aq.okE h1)) ?_
  refine awp_seq <| awp_block <| awp_turn (Turns.trans (Turns.kk [0, 2, 3] [0, 200, 203]) (Turns.trans (Turns.nc 203 4 9500 Tag.Ae) (Turns.trans (Turns.kk [0, 2, 3] [0, 200, 203, 9500]) (Turns.rr [(0, 0), (200, 21900), (203, 21901), (9500, 21902)])))) ?_
  refine kp (S' := ⟨[(0, .P 0), (2, .P 21900), (3, .P 21901)], [(0, .raw (Af a1)), (21900, .raw [.I 0, .str [], .I 0, .str [], .N]), (21901, .raw [.I 49, .str [], .I 0, .str [], .own .Ae 21902]), (21902, .lst .Ae ([] : List Aa))]⟩) ?_
  obtain ⟨o3, hp3, h⟩ := obind_some h
  refine awp_conseq (Q' := fun e S => (e = .exit 0 ∧ ∃ xh0_0_9 : List As, ∃ xh0_1_9 : Int, ∃ x21802 : List Aa, S = ⟨[(0, .P 0), (2, .P 21800), (3, .P 21801)], [(0, .raw [.ro .Am xh0_0_9, .I xh0_1_9]), (21800, .raw [.I 0, .str [], .I 0, .str [], .N]), (21801, .raw [.I 49, .str [], .I 0, .str [], .own .Ae 21802]), (21802, .lst .Ae x21802)]⟩ ∧ Out.go (xh0_0_9, xh0_1_9, x21802) = o3) ∨ ((e = .ret ∨ ∃ ch, e = .panic ch) ∧ ∃ a, Out.done a = o3 ∧ EndsX P V Tryz.f107 (Bd.rep p0 a) (Bd.post p0 a) e S)) (awp_loop (fun k S => ∃ xh0_0_9h : List As, ∃ xh0_1_9h : Int, ∃ x21902 : List Aa, S = ⟨[(0, .P 0), (2, .P 21900), (3, .P 21901)], [(0, .raw [.ro .Am xh0_0_9h, .I xh0_1_9h]), (21900, .raw [.I 0, .str [], .I 0, .str [], .N]), (21901, .raw [.I 49, .str [], .I 0, .str [], .own .Ae 21902]), (21902, .lst .Ae x21902)]⟩ ∧ Bd.l9 K R k xh0_0_9h xh0_1_9h x21902 = some o3) ?_ ⟨_, _, _, rfl, hp3⟩) ?_
  ·clear h hp3
   intro k S hS
   obtain ⟨xh0_0_9h, xh0_1_9h, x21902, rfl, h⟩ := hS
   cases k with
   | zero => cases h
   | succ k =>
   unfold Bd.l9 at h
   refine awp_seq <| awp_seq ?_
   obtain ⟨a2, h2, h⟩ := bind_some h
   refine rg L 209 [] [(1, .B a2)] [] (plt (Ec.ok h2)) ?_
   rcases ite_some h with ⟨c1, h⟩ | ⟨c1, h⟩
   ·refine tt c1 <| awp_skip' <| awp_block <| awp_seq <| sg0 L 212 ?_
    rcases ite_some h with ⟨c2, h⟩ | ⟨c2, h⟩
    ·refine tT c2 ?_
     obtain ⟨a3, h3, h⟩ := bind_some h
     refine qn L 217 [] [] [] 1 (ef0 (.tup []) []) (ofi 49 a3) (pl1 (Bs.okE h3)) ?_
     cases h
     exact .inr ⟨.inr ⟨_, rfl⟩, _, rfl, rfl⟩
    refine fF c2 <| awp_skip' <| sg0 L 220 <| sg0 L 229 ?_
    obtain ⟨o2, hp2, h⟩ := obind_some h
    refine awp_seq (awp_mono (Q' := fun e S => (e = .normal ∧ ∃ xh0_0_27 : List As, ∃ xh0_1_27 : Int, ∃ x25402_1 : List UInt8, S = ⟨[(0, .P 0), (2, .P 25400), (3, .P 25401), (4, .P 25402)], [(0, .raw [.ro .Am xh0_0_27, .I xh0_1_27]), (25400, .raw [.I 0, .str [], .I 0, .str [], .N]), (25401, .raw [.I 49, .str [], .I 0, .str [], .own .Ae 25403]), (25402, .raw [.I 50, .str x25402_1, .I 0, .str [], .N]), (25403, .lst .Ae x21902)]⟩ ∧ Out.go (xh0_0_27, xh0_1_27, x25402_1) = o2) ∨ ((e = .ret ∨ ∃ ch, e = .panic ch) ∧ ∃ a, Out.done a = o2 ∧ EndsX P V Tryz.f107 (Bd.rep p0 a) (Bd.post p0 a) e S)) ?_ ?_)
    ·clear h
     replace h := hp2
     refine awp_seq ?_
     obtain ⟨g1, h⟩ := guard_some h
     refine rd L mixed 233 [] [] [] [251] 20 (pl2 g1.1 g1.2) ?_
     obtain ⟨o1, hp1, h⟩ := bind_some h
     refine awp_seq (awp_mono (Q' := fun e S => (e = .normal ∧ ∃ xt56_30 : Bool, S = ⟨[(0, .P 0), (2, .P 26000), (3, .P 26001), (4, .P 26002), (56, .B xt56_30)], [(0, .raw [.ro .Am xh0_0_9h, .I (IntKind.i64.wrap (xh0_1_9h + 1))]), (26000, .raw [.I 0, .str [], .I 0, .str [], .N]), (26001, .raw [.I 49, .str [], .I 0, .str [], .own .Ae 26003]), (26002, .raw [.I 50, .str [], .I 0, .str [], .N]), (26003, .lst .Ae x21902)]⟩ ∧ xt56_30 = o1)) ?_ ?_)
     ·clear h
      replace h := hp1
      obtain ⟨a4, h4, h⟩ := bind_some h
      rcases ite_some h with ⟨c3, h⟩ | ⟨c3, h⟩
      ·rcases ite_some h with ⟨c4, h⟩ | ⟨c4, h⟩
       ·refine awp_post (rg L 254 [(4, true), (9, true)] [(1, .agg (Ea a4))] [] (plc (Bx.ok h4) (plc trivial (plc (decide_eq_true c3) (pl1 (decide_eq_true c4))))) ⟨rfl, rfl⟩) (Turns.trans (Turns.kk [0, 2, 3, 4, 56] [0, 230, 21900, 21901, 21902]) (Turns.trans (Turns.rr [(0, 0), (230, 26002), (21900, 26000), (21901, 26001), (21902, 26003)]) (Turns.kp (S' := ⟨[(0, .P 0), (2, .P 26000), (3, .P 26001), (4, .P 26002), (56, .B ((decide (((xh0_0_9h.getD (Int.toNat (if (IntKind.i64.wrap ((xh0_0_9h.length : Int) - 1)) < (IntKind.i64.wrap ((IntKind.i64.wrap (xh0_1_9h + 1)) + 1)) then (IntKind.i64.wrap ((xh0_0_9h.length : Int) - 1)) else (IntKind.i64.wrap ((IntKind.i64.wrap (xh0_1_9h + 1)) + 1)))) D2)).Text = ([61] : List UInt8)))))], [(0, .raw [.ro .Am xh0_0_9h, .I (IntKind.i64.wrap (xh0_1_9h + 1))]), (26000, .raw [.I 0, .str [], .I 0, .str [], .N]), (26001, .raw [.I 49, .str [], .I 0, .str [], .own .Ae 26003]), (26002, .raw [.I 50, .str [], .I 0, .str [], .N]), (26003, .lst .Ae x21902)]⟩)))) ?_
        cases h
        exact ⟨rfl, _, rfl, rfl⟩
       refine awp_post (rg L 254 [(4, true), (9, false)] [(1, .agg (Ea a4))] [] (plc (Bx.ok h4) (plc trivial (plc (decide_eq_true c3) (pl1 (decide_eq_false c4))))) ⟨rfl, rfl⟩) (Turns.trans (Turns.kk [0, 2, 3, 4, 56] [0, 230, 21900, 21901, 21902]) (Turns.trans (Turns.rr [(0, 0), (230, 26002), (21900, 26000), (21901, 26001), (21902, 26003)]) (Turns.kp (S' := ⟨[(0, .P 0), (2, .P 26000), (3, .P 26001), (4, .P 26002), (56, .B false)], [(0, .raw [.ro .Am xh0_0_9h, .I (IntKind.i64.wrap (xh0_1_9h + 1))]), (26000, .raw [.I 0, .str [], .I 0, .str [], .N]), (26001, .raw [.I 49, .str [], .I 0, .str [], .own .Ae 26003]), (26002, .raw [.I 50, .str [], .I 0, .str [], .N]), (26003, .lst .Ae x21902)]⟩)))) ?_
       cases h
       exact ⟨rfl, _, rfl, rfl⟩
      refine awp_post (rg L 254 [(4, false)] [(1, .agg (Ea a4))] [] (plc (Bx.ok h4) (plc trivial (pl1 (decide_eq_false c3)))) ⟨rfl, rfl⟩) (Turns.trans (Turns.kk [0, 2, 3, 4, 56] [0, 230, 21900, 21901, 21902]) (Turns.trans (Turns.rr [(0, 0), (230, 26002), (21900, 26000), (21901, 26001), (21902, 26003)]) (Turns.kp (S' := ⟨[(0, .P 0), (2, .P 26000), (3, .P 26001), (4, .P 26002), (56, .B false)], [(0, .raw [.ro .Am xh0_0_9h, .I (IntKind.i64.wrap (xh0_1_9h + 1))]), (26000, .raw [.I 0, .str [], .I 0, .str [], .N]), (26001, .raw [.I 49, .str [], .I 0, .str [], .own .Ae 26003]), (26002, .raw [.I 50, .str [], .I 0, .str [], .N]), (26003, .lst .Ae x21902)]⟩)))) ?_
      cases h
      exact ⟨rfl, _, rfl, rfl⟩
     ·rintro e S ⟨rfl, xt56_30, rfl, rfl⟩
      rcases ite_some h with ⟨c5, h⟩ | ⟨c5, h⟩
      ·refine tt c5 <| awp_seq ?_
       obtain ⟨a5, h5, h⟩ := bind_some h
       rcases a5 with a5 | a5
       ·dsimp only at h
        refine qn L 269 [] [] [] 1 (ef0 (.tup []) []) (ofi 49 a5) (pl1 (Au.okE h5)) ?_
        cases h
        exact .inr ⟨.inr ⟨_, rfl⟩, _, rfl, rfl⟩
       ·obtain ⟨a5_0, a5_1⟩ := a5
        dsimp only at h
        refine rg L 269 [] [] [(1, (ef0 (.cv (.str a5_0)) [(0, .raw (Af a5_1))]))] (pl1 (Au.okE h5)) ?_
        refine awp_post (rg0 L 274 ⟨rfl, rfl⟩) (Turns.trans (Turns.kk [0, 2, 3, 4] [0, 26000, 26001, 26002, 26003]) (Turns.trans (Turns.rr [(0, 0), (26000, 25400), (26001, 25401), (26002, 25402), (26003, 25403)]) (Turns.kp (S' := ⟨[(0, .P 0), (2, .P 25400), (3, .P 25401), (4, .P 25402)], [(0, .raw [.ro .Am a5_1.l, .I (IntKind.i64.wrap (a5_1.i + 1))]), (25400, .raw [.I 0, .str [], .I 0, .str [], .N]), (25401, .raw [.I 49, .str [], .I 0, .str [], .own .Ae 25403]), (25402, .raw [.I 50, .str a5_0, .I 0, .str [], .N]), (25403, .lst .Ae x21902)]⟩)))) ?_
        cases h
        exact .inl ⟨rfl, _, _, _, rfl, rfl⟩
      refine fN c5 <| awp_turn (Turns.trans (Turns.kk [0, 2, 3, 4] [0, 26000, 26001, 26002, 26003]) (Turns.rr [(0, 0), (26000, 25400), (26001, 25401), (26002, 25402), (26003, 25403)])) ?_
      refine sk (S' := ⟨[(0, .P 0), (2, .P 25400), (3, .P 25401), (4, .P 25402)], [(0, .raw [.ro .Am xh0_0_9h, .I (IntKind.i64.wrap (xh0_1_9h + 1))]), (25400, .raw [.I 0, .str [], .I 0, .str [], .N]), (25401, .raw [.I 49, .str [], .I 0, .str [], .own .Ae 25403]), (25402, .raw [.I 50, .str [], .I 0, .str [], .N]), (25403, .lst .Ae x21902)]⟩) ?_
      cases h
      exact .inl ⟨rfl, _, _, _, rfl, rfl⟩
    ·rintro e S (⟨rfl, xh0_0_27, xh0_1_27, x25402_1, rfl, rfl⟩ | ⟨he, a, rfl, hr⟩)
     ·rcases h with ⟨_, e1, h⟩ | ⟨_, e1, h⟩
      ·cases e1
      ·have e2 := Out.go.inj e1
       subst e2
       dsimp only at h
       refine awp_seq ?_
       obtain ⟨a6, h6, h⟩ := bind_some h
       rcases a6 with a6 | a6
       ·dsimp only at h
        refine qn L 283 [] [] [] 1 (ef0 (.tup []) []) (ofi 49 a6) (pl1 (Aw.okE h6)) ?_
        cases h
        exact .inr ⟨.inr ⟨_, rfl⟩, _, rfl, rfl⟩
       ·obtain ⟨a6_0, a6_1⟩ := a6
        dsimp only at h
        obtain ⟨a7, h7, h⟩ := bind_some h
        rcases a7 with a7 | a7
        ·dsimp only at h
         refine qn L 283 [] [] [(1, (ef0 (.agg (Ag a6_0)) [(0, .raw (Af a6_1))]))] 3 (ef0 (.tup []) []) (ofi 49 a7) (pl2 (Aw.okE h6) (hR.Ap h7)) ?_
         cases h
         exact .inr ⟨.inr ⟨_, rfl⟩, _, rfl, rfl⟩
        ·obtain ⟨a7_0, a7_1⟩ := a7
         dsimp only at h
         refine rg L 283 [] [] [(1, (ef0 (.agg (Ag a6_0)) [(0, .raw (Af a6_1))])), (3, (ef0 (.agg (Ag a7_0)) [(0, .raw (Af a7_1))]))] (pl2 (Aw.okE h6) (hR.Ap h7)) ?_
         obtain ⟨g2, h⟩ := guard_some h
         refine awp_post (rg L 291 [] [] [] (plt g2) ⟨rfl, rfl⟩) (Turns.trans (Turns.kk [0, 2, 3] [0, 25400, 25401, 25403]) (Turns.trans (Turns.rr [(0, 0), (25400, 21900), (25401, 21901), (25403, 21902)]) (Turns.kp (S' := ⟨[(0, .P 0), (2, .P 21900), (3, .P 21901)], [(0, .raw (Af a7_1)), (21900, .raw [.I 0, .str [], .I 0, .str [], .N]), (21901, .raw [.I 49, .str [], .I 0, .str [], .own .Ae 21902]), (21902, .lst .Ae (x21902 ++ ([(⟨50, x25402_1, 0, [], ([(⟨a6_0.Op, a6_0.Name, a6_0.Int, a6_0.Text, a6_0.Kids⟩ : Aa), (⟨a7_0.Op, a7_0.Name, a7_0.Int, a7_0.Text, a7_0.Kids⟩ : Aa)] : List Aa)⟩ : Aa)] : List Aa)))]⟩)))) ?_
         exact ⟨k, Nat.lt_succ_self k, _, _, _, rfl, h⟩
     ·rcases h with ⟨_, e1, h⟩ | ⟨_, e1, h⟩
      ·have e2 := Out.done.inj e1
       subst e2
       subst h
       rcases he with rfl | ⟨ch, rfl⟩
       ·exact .inr ⟨.inl rfl, _, rfl, hr⟩
       ·exact .inr ⟨.inr ⟨_, rfl⟩, _, rfl, hr⟩
      ·cases e1
   refine fN c1 <| awp_turn (Turns.trans (Turns.kk [0, 2, 3] [0, 21900, 21901, 21902]) (Turns.rr [(0, 0), (21900, 21800), (21901, 21801), (21902, 21802)])) ?_
   refine ex (S' := ⟨[(0, .P 0), (2, .P 21800), (3, .P 21801)], [(0, .raw [.ro .Am xh0_0_9h, .I xh0_1_9h]), (21800, .raw [.I 0, .str [], .I 0, .str [], .N]), (21801, .raw [.I 49, .str [], .I 0, .str [], .own .Ae 21802]), (21802, .lst .Ae x21902)]⟩) ?_
   cases h
   exact .inl ⟨rfl, _, _, _, rfl, rfl⟩
  ·rintro e S (⟨rfl, xh0_0_9, xh0_1_9, x21802, rfl, rfl⟩ | ⟨he, a, rfl, hr⟩)
   ·rcases h with ⟨_, e1, h⟩ | ⟨_, e1, h⟩
    ·cases e1
    ·have e2 := Out.go.inj e1
     subst e2
     dsimp only at h
     refine ⟨_, Turns.refl, ?_⟩
     obtain ⟨o4, hp4, h⟩ := obind_some h
     refine awp_seq (awp_mono (Q' := fun e S => (e = .normal ∧ ∃ xh0_0_40 : List As, ∃ xh0_1_40 : Int, ∃ x28002 : List Aa, S = ⟨[(0, .P 0), (2, .P 28000), (3, .P 28001)], [(0, .raw [.ro .Am xh0_0_40, .I xh0_1_40]), (28000, .raw [.I 0, .str [], .I 0, .str [], .N]), (28001, .raw [.I 49, .str [], .I 0, .str [], .own .Ae 28002]), (28002, .lst .Ae x28002)]⟩ ∧ Out.go (xh0_0_40, xh0_1_40, x28002) = o4) ∨ ((e = .ret ∨ ∃ ch, e = .panic ch) ∧ ∃ a, Out.done a = o4 ∧ EndsX P V Tryz.f107 (Bd.rep p0 a) (Bd.post p0 a) e S)) ?_ ?_)
     ·clear h
      replace h := hp4
      refine awp_seq ?_
      obtain ⟨⟨a8_0, a8_1⟩, h8, h⟩ := bind_some h
      dsimp only at h
      refine rg L 299 [] [] [(1, (ef0 (.B a8_0) [(0, .raw (Af a8_1))]))] (pl1 (Ao.okE h8)) ?_
      rcases ite_some h with ⟨c6, h⟩ | ⟨c6, h⟩
      ·refine tt c6 ?_
       obtain ⟨a9, h9, h⟩ := bind_some h
       rcases a9 with a9 | a9
       ·dsimp only at h
        refine qP L mixed 302 [] [] [] [0, 2] 3 (ef0 (.tup []) []) (ofi 49 a9) (pl2 (hR.Ap h9) (hR.Ap h9)) ?_
        cases h
        exact .inr ⟨.inr ⟨_, rfl⟩, _, rfl, rfl⟩
       ·obtain ⟨a9_0, a9_1⟩ := a9
        dsimp only at h
        obtain ⟨a10, h10, h⟩ := bind_some h
        obtain ⟨g3, h⟩ := guard_some h
        refine awp_post (hB L mixed 302 [] [(5, .agg (Ag a10))] [(3, (ef0 (.agg (Ag a9_0)) [(0, .raw (Af a9_1))]))] [0, 2] 5 (plc (hR.Ap h9) (plc (C3.ok h10) (plc trivial (plc g3 (plc trivial (plc (hR.Ap h9) (plc (C3.ok h10) (plc trivial (plc g3 (plc trivial (plc (C3.ok h10) (plc trivial (plc g3 (plc trivial (plc (C3.ok h10) (plc trivial (plc g3 (plc trivial (plc g3 (pl1 trivial)))))))))))))))))))) (S' := ⟨[(0, .P 0), (2, .P 21800), (3, .P 21801)], [(0, .raw (Af a9_1)), (21800, .raw [.I 0, .str [], .I 0, .str [], .N]), (21801, .raw [.I 49, .str [], .I 0, .str [], .own .Ae 21802]), (21802, .lst .Ae (x21802 ++ ([(⟨a10.Op, a10.Name, a10.Int, a10.Text, a10.Kids⟩ : Aa)] : List Aa)))]⟩) ⟨rfl, rfl⟩) (Turns.trans (Turns.kk [0, 2, 3] [0, 21800, 21801, 21802]) (Turns.trans (Turns.rr [(0, 0), (21800, 28000), (21801, 28001), (21802, 28002)]) (Turns.kp (S' := ⟨[(0, .P 0), (2, .P 28000), (3, .P 28001)], [(0, .raw (Af a9_1)), (28000, .raw [.I 0, .str [], .I 0, .str [], .N]), (28001, .raw [.I 49, .str [], .I 0, .str [], .own .Ae 28002]), (28002, .lst .Ae (x21802 ++ ([(⟨a10.Op, a10.Name, a10.Int, a10.Text, a10.Kids⟩ : Aa)] : List Aa)))]⟩)))) ?_
        cases h
        exact .inl ⟨rfl, _, _, _, rfl, rfl⟩
      refine fN c6 <| awp_turn (Turns.trans (Turns.kk [0, 2, 3] [0, 21800, 21801, 21802]) (Turns.rr [(0, 0), (21800, 28000), (21801, 28001), (21802, 28002)])) ?_
      refine sk (S' := ⟨[(0, .P 0), (2, .P 28000), (3, .P 28001)], [(0, .raw (Af a8_1)), (28000, .raw [.I 0, .str [], .I 0, .str [], .N]), (28001, .raw [.I 49, .str [], .I 0, .str [], .own .Ae 28002]), (28002, .lst .Ae x21802)]⟩) ?_
      cases h
      exact .inl ⟨rfl, _, _, _, rfl, rfl⟩
     ·rintro e S (⟨rfl, xh0_0_40, xh0_1_40, x28002, rfl, rfl⟩ | ⟨he, a, rfl, hr⟩)
      ·rcases h with ⟨_, e1, h⟩ | ⟨_, e1, h⟩
       ·cases e1
       ·have e2 := Out.go.inj e1
        subst e2
        dsimp only at h
        refine awp_seq <| sg0 L 313 ?_
        rcases ite_some h with ⟨c7, h⟩ | ⟨c7, h⟩
        ·refine tT c7 ?_
         obtain ⟨a11, h11, h⟩ := bind_some h
         refine qn L 318 [] [] [] 1 (ef0 (.tup []) []) (ofi 49 a11) (pl1 (Bs.okE h11)) ?_
         cases h
         exact rfl
        refine fF c7 <| awp_skip' <| awp_seq ?_
        obtain ⟨a12, h12, h⟩ := bind_some h
        rcases a12 with a12 | a12
        ·dsimp only at h
         refine rg L 321 [] [] [(1, (ef0 (.tup []) [(0, .raw (Af a12))]))] (pl1 (Aq.okE h12)) ?_
         refine sg0 L 324 <| awp_turn (Turns.trans (Turns.kk [2] [0, 28000, 28002]) (Turns.trans (Turns.fz 28002) (Turns.rr [(0, 0), (28000, 100)]))) ?_
         refine awp_ret ?_
         cases h
         exact xr0
        ·obtain ⟨a12, rfl⟩ : ∃ z, z = a12 := ⟨_, rfl⟩
         dsimp only at h
         refine qn L 321 [] [] [] 1 (ef0 (.tup []) []) (ofi 49 a12) (pl1 (Aq.okE h12)) ?_
         cases h
         exact rfl
      ·rcases h with ⟨_, e1, h⟩ | ⟨_, e1, h⟩
       ·have e2 := Out.done.inj e1
        subst e2
        subst h
        rcases he with rfl | ⟨ch, rfl⟩
        ·exact hr
        ·exact hr
       ·cases e1
   ·rcases h with ⟨_, e1, h⟩ | ⟨_, e1, h⟩
    ·have e2 := Out.done.inj e1
     subst e2
     subst h
     rcases he with rfl | ⟨ch, rfl⟩
     ·exact ⟨_, Turns.refl, hr⟩
     ·exact ⟨_, Turns.refl, hr⟩
    ·cases e1
 ·obtain ⟨a1, rfl⟩ : ∃ z, z = a1 := ⟨_, rfl⟩
  dsimp only at h
  refine qn L 206 [] [] [] 1 (ef0 (.tup []) []) (ofi 49 a1) (pl1 (Aq.okE h1)) ?_
  cases h
  exact rfl
def Bn.F (K : Nat) (R : Bh) (p0 : Ab) : Option (Int ⊕ (Aa × Ab)) := (Option.bind (Ao K ([108, 101, 116] : List UInt8) p0) (fun (a1_0, a1_1) => (if a1_0 = true then (Option.bind (Au K a1_1) (fun a2 => match a2 with | (Sum.inl a2) => some (Sum.inl a2) | (Sum.inr (a2_0, a2_1)) => (Option.bind (Aq K ([61] : List UInt8) a2_1) (fun a3 => match a3 with | (Sum.inl a3) => (Option.bind (B3 K a3) (fun a4 => match a4 with | (Sum.inl a4) => some (Sum.inl a4) | (Sum.inr (a4_0, a4_1)) => some (Sum.inr ((⟨40, a2_0, 0, [], ([(⟨a4_0.Op, a4_0.Name, a4_0.Int, a4_0.Text, a4_0.Kids⟩ : Aa)] : List Aa)⟩ : Aa), a4_1)))) | (Sum.inr a3) => some (Sum.inl a3))))) else (Option.bind (Ao K ([105, 102] : List UInt8) a1_1) (fun (a5_0, a5_1) => (if a5_0 = true then (Option.bind (R.Bb a5_1) (fun a6 => match a6 with | (Sum.inl a6) => some (Sum.inl a6) | (Sum.inr (a6_0, a6_1)) => some (Sum.inr (a6_0, a6_1)))) else (Option.bind (Ao K ([119, 104, 105, 108, 101] : List UInt8) a5_1) (fun (a7_0, a7_1) => (if a7_0 = true then (Option.bind (Aw K a7_1) (fun a8 => match a8 with | (Sum.inl a8) => some (Sum.inl a8) | (Sum.inr (a8_0, a8_1)) => (Option.bind (R.Ap a8_1) (fun a9 => match a9 with | (Sum.inl a9) => some (Sum.inl a9) | (Sum.inr (a9_0, a9_1)) => (Option.bind (C3 K 43 ([(⟨a8_0.Op, a8_0.Name, a8_0.Int, a8_0.Text, a8_0.Kids⟩ : Aa), (⟨a9_0.Op, a9_0.Name, a9_0.Int, a9_0.Text, a9_0.Kids⟩ : Aa)] : List Aa)) (fun a10 => some (Sum.inr (a10, a9_1)))))))) else (Option.bind (Ao K ([114, 101, 116, 117, 114, 110] : List UInt8) a7_1) (fun (a11_0, a11_1) => (if a11_0 = true then (Option.bind (Ao K ([59] : List UInt8) a11_1) (fun (a12_0, a12_1) => (if a12_0 = true then some (Sum.inr ((⟨44, [], 0, [], ([] : List Aa)⟩ : Aa), a12_1)) else (Option.bind (B3 K a12_1) (fun a13 => match a13 with | (Sum.inl a13) => some (Sum.inl a13) | (Sum.inr (a13_0, a13_1)) => (Option.bind (C3 K 44 ([(⟨a13_0.Op, a13_0.Name, a13_0.Int, a13_0.Text, a13_0.Kids⟩ : Aa)] : List Aa)) (fun a14 => some (Sum.inr (a14, a13_1))))))))) else (Option.bind (Ao K ([116, 104, 114, 111, 119] : List UInt8) a11_1) (fun (a15_0, a15_1) => (if a15_0 = true then (Option.bind (B3 K a15_1) (fun a16 => match a16 with | (Sum.inl a16) => some (Sum.inl a16) | (Sum.inr (a16_0, a16_1)) => (Option.bind (C3 K 45 ([(⟨a16_0.Op, a16_0.Name, a16_0.Int, a16_0.Text, a16_0.Kids⟩ : Aa)] : List Aa)) (fun a17 => some (Sum.inr (a17, a16_1)))))) else (Option.bind (Ao K ([116, 114, 121] : List UInt8) a15_1) (fun (a18_0, a18_1) => (if a18_0 = true then (Option.bind (R.Ap a18_1) (fun a19 => match a19 with | (Sum.inl a19) => some (Sum.inl a19) | (Sum.inr (a19_0, a19_1)) => (Option.bind (Aq K ([99, 97, 116, 99, 104] : List UInt8) a19_1) (fun a20 => match a20 with | (Sum.inl a20) => (Option.bind (Au K a20) (fun a21 => match a21 with | (Sum.inl a21) => some (Sum.inl a21) | (Sum.inr (a21_0, a21_1)) => (Option.bind (R.Ap a21_1) (fun a22 => match a22 with | (Sum.inl a22) => some (Sum.inl a22) | (Sum.inr (a22_0, a22_1)) => some (Sum.inr ((⟨46, a21_0, 0, [], ([(⟨a19_0.Op, a19_0.Name, a19_0.Int, a19_0.Text, a19_0.Kids⟩ : Aa), (⟨a22_0.Op, a22_0.Name, a22_0.Int, a22_0.Text, a22_0.Kids⟩ : Aa)] : List Aa)⟩ : Aa), a22_1)))))) | (Sum.inr a20) => some (Sum.inl a20))))) else (Option.bind (Ao K ([115, 97, 103, 97] : List UInt8) a18_1) (fun (a23_0, a23_1) => (if a23_0 = true then (Option.bind (R.Ap a23_1) (fun a24 => match a24 with | (Sum.inl a24) => some (Sum.inl a24) | (Sum.inr (a24_0, a24_1)) => (Option.bind (C3 K 47 ([(⟨a24_0.Op, a24_0.Name, a24_0.Int, a24_0.Text, a24_0.Kids⟩ : Aa)] : List Aa)) (fun a25 => some (Sum.inr (a25, a24_1)))))) else (Option.bind (Ao K ([117, 110, 100, 111] : List UInt8) a23_1) (fun (a26_0, a26_1) => (if a26_0 = true then (Option.bind (Au K a26_1) (fun a27 => match a27 with | (Sum.inl a27) => some (Sum.inl a27) | (Sum.inr (a27_0, a27_1)) => (Option.bind (Bz K 48 a27_0 a27_1) (fun a28 => match a28 with | (Sum.inl (a28_0, a28_1)) => (Option.bind (Aq K ([59] : List UInt8) a28_1) (fun a29 => match a29 with | (Sum.inl a29) => some (Sum.inr (a28_0, a29)) | (Sum.inr a29) => some (Sum.inl a29))) | (Sum.inr a28) => some (Sum.inl a28))))) else (Option.bind (Ao K ([115, 101, 108, 101, 99, 116] : List UInt8) a26_1) (fun (a30_0, a30_1) => (if a30_0 = true then (Option.bind (R.Bd a30_1) (fun a31 => match a31 with | (Sum.inl a31) => some (Sum.inl a31) | (Sum.inr (a31_0, a31_1)) => some (Sum.inr (a31_0, a31_1)))) else (Option.bind (C5 K a30_1) (fun a32 => match a32 with | (Sum.inl a32) => some (Sum.inl a32) | (Sum.inr (a32_0, a32_1)) => some (Sum.inr (a32_0, a32_1)))))))))))))))))))))))))))))))
theorem Bn.body {Γ : Ent} {K : Nat} {R : Bh} (hR : R.Ok) {p0 : Ab} {r : Int ⊕ (Aa × Ab)} (h : Bn.F K R p0 = some r) : AWp V P 87 100 Γ (Tryz.f77.body.getD .skip) (EndsX P V Tryz.f77 (Bn.rep p0 r) (Bn.post p0 r)) ⟨args0 0 [.P 0], [(0, .raw (Af p0))]⟩ := by
 unfold Bn.F at h
 refine sg0 L 200 <| awp_seq <| awp_block <| awp_seq ?_
 obtain ⟨⟨a1_0, a1_1⟩, h1, h⟩ := bind_some h
 dsimp only at h
 refine rg L 202 [] [] [(1, (ef0 (.B a1_0) [(0, .raw (Af a1_1))]))] (pl1 (Ao.okE h1)) ?_
 rcases ite_some h with ⟨c1, h⟩ | ⟨c1, h⟩
 ·refine tt c1 <| awp_seq ?_
  obtain ⟨a2, h2, h⟩ := bind_some h
  rcases a2 with a2 | a2
  ·dsimp only at h
   refine qn L 206 [] [] [] 1 (ef0 (.tup []) []) (ofi 49 a2) (pl1 (Au.okE h2)) ?_
   cases h
   exact rfl
  ·obtain ⟨a2_0, a2_1⟩ := a2
   dsimp only at h
   refine rg L 206 [] [] [(1, (ef0 (.cv (.str a2_0)) [(0, .raw (Af a2_1))]))] (pl1 (Au.okE h2)) ?_
   refine awp_seq ?_
   obtain ⟨a3, h3, h⟩ := bind_some h
   rcases a3 with a3 | a3
   ·dsimp only at h
    refine rg L 210 [] [] [(1, (ef0 (.tup []) [(0, .raw (Af a3))]))] (pl1 (Aq.okE h3)) ?_
    refine awp_seq ?_
    obtain ⟨a4, h4, h⟩ := bind_some h
    rcases a4 with a4 | a4
    ·dsimp only at h
     refine qn L 213 [] [] [] 2 (ef0 (.tup []) []) (ofi 49 a4) (pl1 (B3.okE h4)) ?_
     cases h
     exact rfl
    ·obtain ⟨a4_0, a4_1⟩ := a4
     dsimp only at h
     refine rg L 213 [] [] [(2, (ef0 (.agg (Ag a4_0)) [(0, .raw (Af a4_1))]))] (pl1 (B3.okE h4)) ?_
     refine awp_turn (Turns.trans (Turns.kk [2] [0, 200]) (Turns.rr [(0, 0), (200, 100)])) ?_
     refine awp_ret ?_
     cases h
     exact xr0
   ·obtain ⟨a3, rfl⟩ : ∃ z, z = a3 := ⟨_, rfl⟩
    dsimp only at h
    refine qn L 210 [] [] [] 1 (ef0 (.tup []) []) (ofi 49 a3) (pl1 (Aq.okE h3)) ?_
    cases h
    exact rfl
 refine fN c1 <| awp_seq ?_
 obtain ⟨⟨a5_0, a5_1⟩, h5, h⟩ := bind_some h
 dsimp only at h
 refine rg L 220 [] [] [(1, (ef0 (.B a5_0) [(0, .raw (Af a5_1))]))] (pl1 (Ao.okE h5)) ?_
 rcases ite_some h with ⟨c2, h⟩ | ⟨c2, h⟩
 ·refine tt c2 <| awp_seq ?_
  obtain ⟨a6, h6, h⟩ := bind_some h
  rcases a6 with a6 | a6
  ·dsimp only at h
   refine qn L 224 [] [] [] 1 (ef0 (.tup []) []) (ofi 49 a6) (pl1 (hR.Bb h6)) ?_
   cases h
   exact rfl
  ·obtain ⟨a6_0, a6_1⟩ := a6
   dsimp only at h
   refine rg L 224 [] [] [(1, (ef0 (.agg (Ag a6_0)) [(0, .raw (Af a6_1))]))] (pl1 (hR.Bb h6)) ?_
   refine awp_turn (Turns.trans (Turns.kk [2] [0, 200]) (Turns.rr [(0, 0), (200, 100)])) ?_
   refine awp_ret ?_
   cases h
   exact xr0
 refine fN c2 <| awp_seq ?_
 obtain ⟨⟨a7_0, a7_1⟩, h7, h⟩ := bind_some h
 dsimp only at h
 refine rg L 228 [] [] [(1, (ef0 (.B a7_0) [(0, .raw (Af a7_1))]))] (pl1 (Ao.okE h7)) ?_
 rcases ite_some h with ⟨c3, h⟩ | ⟨c3, h⟩
 ·refine tt c3 <| awp_seq ?_
  obtain ⟨a8, h8, h⟩ := bind_some h
  rcases a8 with a8 | a8
  ·dsimp only at h
   refine qn L 232 [] [] [] 1 (ef0 (.tup []) []) (ofi 49 a8) (pl1 (Aw.okE h8)) ?_
   cases h
   exact rfl
  ·obtain ⟨a8_0, a8_1⟩ := a8
   dsimp only at h
   obtain ⟨a9, h9, h⟩ := bind_some h
   rcases a9 with a9 | a9
   ·dsimp only at h
    refine qn L 232 [] [] [(1, (ef0 (.agg (Ag a8_0)) [(0, .raw (Af a8_1))]))] 3 (ef0 (.tup []) []) (ofi 49 a9) (pl2 (Aw.okE h8) (hR.Ap h9)) ?_
    cases h
    exact rfl
   ·obtain ⟨a9_0, a9_1⟩ := a9
    dsimp only at h
    obtain ⟨a10, h10, h⟩ := bind_some h
    refine rg L 232 [] [(5, .agg (Ag a10))] [(1, (ef0 (.agg (Ag a8_0)) [(0, .raw (Af a8_1))])), (3, (ef0 (.agg (Ag a9_0)) [(0, .raw (Af a9_1))]))] (plc (Aw.okE h8) (plc (hR.Ap h9) (plc (C3.ok h10) (pl1 trivial)))) ?_
    refine awp_turn (Turns.trans (Turns.kk [2] [0, 200]) (Turns.rr [(0, 0), (200, 100)])) ?_
    refine awp_ret ?_
    cases h
    exact xr0
 refine fN c3 <| awp_seq ?_
 obtain ⟨⟨a11_0, a11_1⟩, h11, h⟩ := bind_some h
 dsimp only at h
 refine rg L 240 [] [] [(1, (ef0 (.B a11_0) [(0, .raw (Af a11_1))]))] (pl1 (Ao.okE h11)) ?_
 rcases ite_some h with ⟨c4, h⟩ | ⟨c4, h⟩
 ·refine tt c4 <| awp_seq <| awp_seq ?_
  obtain ⟨⟨a12_0, a12_1⟩, h12, h⟩ := bind_some h
  dsimp only at h
  refine rg L 244 [] [] [(1, (ef0 (.B a12_0) [(0, .raw (Af a12_1))]))] (pl1 (Ao.okE h12)) ?_
  rcases ite_some h with ⟨c5, h⟩ | ⟨c5, h⟩
  ·refine tt c5 <| sg0 L 247 <| awp_turn (Turns.trans (Turns.kk [2] [0, 200]) (Turns.rr [(0, 0), (200, 100)])) ?_
   refine awp_ret ?_
   cases h
   exact xr0
  refine fN c5 <| awp_skip' <| awp_seq ?_
  obtain ⟨a13, h13, h⟩ := bind_some h
  rcases a13 with a13 | a13
  ·dsimp only at h
   refine qn L 250 [] [] [] 1 (ef0 (.tup []) []) (ofi 49 a13) (pl1 (B3.okE h13)) ?_
   cases h
   exact rfl
  ·obtain ⟨a13_0, a13_1⟩ := a13
   dsimp only at h
   obtain ⟨a14, h14, h⟩ := bind_some h
   refine rg L 250 [] [(3, .agg (Ag a14))] [(1, (ef0 (.agg (Ag a13_0)) [(0, .raw (Af a13_1))]))] (plc (B3.okE h13) (plc (C3.ok h14) (pl1 trivial))) ?_
   refine awp_turn (Turns.trans (Turns.kk [2] [0, 200]) (Turns.rr [(0, 0), (200, 100)])) ?_
   refine awp_ret ?_
   cases h
   exact xr0
 refine fN c4 <| awp_seq ?_
 obtain ⟨⟨a15_0, a15_1⟩, h15, h⟩ := bind_some h
 dsimp only at h
 refine rg L 256 [] [] [(1, (ef0 (.B a15_0) [(0, .raw (Af a15_1))]))] (pl1 (Ao.okE h15)) ?_
 rcases ite_some h with ⟨c6, h⟩ | ⟨c6, h⟩
 ·refine tt c6 <| awp_seq ?_
  obtain ⟨a16, h16, h⟩ := bind_some h
  rcases a16 with a16 | a16
  ·dsimp only at h
   refine qn L 260 [] [] [] 1 (ef0 (.tup []) []) (ofi 49 a16) (pl1 (B3.okE h16)) ?_
   cases h
   exact rfl
  ·obtain ⟨a16_0, a16_1⟩ := a16
   dsimp only at h
   obtain ⟨a17, h17, h⟩ := bind_some h
   refine rg L 260 [] [(3, .agg (Ag a17))] [(1, (ef0 (.agg (Ag a16_0)) [(0, .raw (Af a16_1))]))] (plc (B3.okE h16) (plc (C3.ok h17) (pl1 trivial))) ?_
   refine awp_turn (Turns.trans (Turns.kk [2] [0, 200]) (Turns.rr [(0, 0), (200, 100)])) ?_
   refine awp_ret ?_
   cases h
   exact xr0
 refine fN c6 <| awp_seq ?_
 obtain ⟨⟨a18_0, a18_1⟩, h18, h⟩ := bind_some h
 dsimp only at h
 refine rg L 266 [] [] [(1, (ef0 (.B a18_0) [(0, .raw (Af a18_1))]))] (pl1 (Ao.okE h18)) ?_
 rcases ite_some h with ⟨c7, h⟩ | ⟨c7, h⟩
 ·refine tt c7 <| awp_seq ?_
  obtain ⟨a19, h19, h⟩ := bind_some h
  rcases a19 with a19 | a19
  ·dsimp only at h
   refine qn L 270 [] [] [] 1 (ef0 (.tup []) []) (ofi 49 a19) (pl1 (hR.Ap h19)) ?_
   cases h
   exact rfl
  ·obtain ⟨a19_0, a19_1⟩ := a19
   dsimp only at h
   refine rg L 270 [] [] [(1, (ef0 (.agg (Ag a19_0)) [(0, .raw (Af a19_1))]))] (pl1 (hR.Ap h19)) ?_
   refine awp_seq ?_
   obtain ⟨a20, h20, h⟩ := bind_some h
   rcases a20 with a20 | a20
   ·dsimp only at h
    refine rg L 275 [] [] [(1, (ef0 (.tup []) [(0, .raw (Af a20))]))] (pl1 (Aq.okE h20)) ?_
    refine awp_seq ?_
    obtain ⟨a21, h21, h⟩ := bind_some h
    rcases a21 with a21 | a21
    ·dsimp only at h
     refine qP L mixed 278 [] [] [] [0, 3] 1 (ef0 (.tup []) []) (ofi 49 a21) (pl2 (Au.okE h21) (Au.okE h21)) ?_
     cases h
     exact rfl
    ·obtain ⟨a21_0, a21_1⟩ := a21
     dsimp only at h
     obtain ⟨a22, h22, h⟩ := bind_some h
     rcases a22 with a22 | a22
     ·dsimp only at h
      refine qP L mixed 278 [] [] [(1, (ef0 (.cv (.str a21_0)) [(0, .raw (Af a21_1))]))] [0, 3] 4 (ef0 (.tup []) []) (ofi 49 a22) (plc (Au.okE h21) (plc (hR.Ap h22) (plc (hR.Ap h22) (plc (Au.okE h21) (pl1 (hR.Ap h22)))))) ?_
      cases h
      exact rfl
     ·obtain ⟨a22_0, a22_1⟩ := a22
      dsimp only at h
      refine hB L mixed 278 [] [] [(1, (ef0 (.cv (.str a21_0)) [(0, .raw (Af a21_1))])), (4, (ef0 (.agg (Ag a22_0)) [(0, .raw (Af a22_1))]))] [0, 3] 3 (plc (Au.okE h21) (plc (hR.Ap h22) (plc (hR.Ap h22) (plc (Au.okE h21) (pl1 (hR.Ap h22)))))) (S' := ⟨[(2, .P 200)], [(0, .raw (Af a22_1)), (200, .raw [.I 46, .str a21_0, .I 0, .str [], .ro .Ae ([(⟨a19_0.Op, a19_0.Name, a19_0.Int, a19_0.Text, a19_0.Kids⟩ : Aa), (⟨a22_0.Op, a22_0.Name, a22_0.Int, a22_0.Text, a22_0.Kids⟩ : Aa)] : List Aa)])]⟩) ?_
      refine awp_turn (Turns.trans (Turns.kk [2] [0, 200]) (Turns.rr [(0, 0), (200, 100)])) ?_
      refine awp_ret ?_
      cases h
      exact xr0
   ·obtain ⟨a20, rfl⟩ : ∃ z, z = a20 := ⟨_, rfl⟩
    dsimp only at h
    refine qn L 275 [] [] [] 1 (ef0 (.tup []) []) (ofi 49 a20) (pl1 (Aq.okE h20)) ?_
    cases h
    exact rfl
 refine fN c7 <| awp_seq ?_
 obtain ⟨⟨a23_0, a23_1⟩, h23, h⟩ := bind_some h
 dsimp only at h
 refine rg L 287 [] [] [(1, (ef0 (.B a23_0) [(0, .raw (Af a23_1))]))] (pl1 (Ao.okE h23)) ?_
 rcases ite_some h with ⟨c8, h⟩ | ⟨c8, h⟩
 ·refine tt c8 <| awp_seq ?_
  obtain ⟨a24, h24, h⟩ := bind_some h
  rcases a24 with a24 | a24
  ·dsimp only at h
   refine qn L 291 [] [] [] 1 (ef0 (.tup []) []) (ofi 49 a24) (pl1 (hR.Ap h24)) ?_
   cases h
   exact rfl
  ·obtain ⟨a24_0, a24_1⟩ := a24
   dsimp only at h
   obtain ⟨a25, h25, h⟩ := bind_some h
   refine rg L 291 [] [(3, .agg (Ag a25))] [(1, (ef0 (.agg (Ag a24_0)) [(0, .raw (Af a24_1))]))] (plc (hR.Ap h24) (plc (C3.ok h25) (pl1 trivial))) ?_
   refine awp_turn (Turns.trans (Turns.kk [2] [0, 200]) (Turns.rr [(0, 0), (200, 100)])) ?_
   refine awp_ret ?_
   cases h
   exact xr0
 refine fN c8 <| awp_seq ?_
 obtain ⟨⟨a26_0, a26_1⟩, h26, h⟩ := bind_some h
 dsimp only at h
 refine rg L 297 [] [] [(1, (ef0 (.B a26_0) [(0, .raw (Af a26_1))]))] (pl1 (Ao.okE h26)) ?_
 rcases ite_some h with ⟨c9, h⟩ | ⟨c9, h⟩
 ·refine tt c9 <| awp_seq ?_
  obtain ⟨a27, h27, h⟩ := bind_some h
  rcases a27 with a27 | a27
  ·dsimp only at h
   refine qn L 301 [] [] [] 2 (ef0 (.tup []) []) (ofi 49 a27) (pl1 (Au.okE h27)) ?_
   cases h
   exact rfl
  ·obtain ⟨a27_0, a27_1⟩ := a27
   dsimp only at h
   obtain ⟨a28, h28, h⟩ := bind_some h
   rcases a28 with ⟨a28_0, a28_1⟩ | a28
   ·dsimp only at h
    refine rg L 301 [] [] [(2, (ef0 (.cv (.str a27_0)) [(0, .raw (Af a27_1))])), (3, (ef0 (.agg (Ag a28_0)) [(0, .raw (Af a28_1))]))] (pl2 (Au.okE h27) (Bz.okE h28)) ?_
    refine awp_seq ?_
    obtain ⟨a29, h29, h⟩ := bind_some h
    rcases a29 with a29 | a29
    ·dsimp only at h
     refine rg L 308 [] [] [(1, (ef0 (.tup []) [(0, .raw (Af a29))]))] (pl1 (Aq.okE h29)) ?_
     refine sg0 L 311 <| awp_turn (Turns.trans (Turns.kk [2] [0, 200]) (Turns.rr [(0, 0), (200, 100)])) ?_
     refine awp_ret ?_
     cases h
     exact xr0
    ·obtain ⟨a29, rfl⟩ : ∃ z, z = a29 := ⟨_, rfl⟩
     dsimp only at h
     refine qn L 308 [] [] [] 1 (ef0 (.tup []) []) (ofi 49 a29) (pl1 (Aq.okE h29)) ?_
     cases h
     exact rfl
   ·obtain ⟨a28, rfl⟩ : ∃ z, z = a28 := ⟨_, rfl⟩
    dsimp only at h
    refine qn L 301 [] [] [(2, (ef0 (.cv (.str a27_0)) [(0, .raw (Af a27_1))]))] 3 (ef0 (.tup []) []) (ofi 49 a28) (pl2 (Au.okE h27) (Bz.okE h28)) ?_
    cases h
    exact rfl
 refine fN c9 <| awp_seq ?_
 obtain ⟨⟨a30_0, a30_1⟩, h30, h⟩ := bind_some h
 dsimp only at h
 refine rg L 314 [] [] [(1, (ef0 (.B a30_0) [(0, .raw (Af a30_1))]))] (pl1 (Ao.okE h30)) ?_
 rcases ite_some h with ⟨c10, h⟩ | ⟨c10, h⟩
 ·refine tt c10 <| awp_seq ?_
  obtain ⟨a31, h31, h⟩ := bind_some h
  rcases a31 with a31 | a31
  ·dsimp only at h
   refine qn L 318 [] [] [] 1 (ef0 (.tup []) []) (ofi 49 a31) (pl1 (hR.Bd h31)) ?_
   cases h
   exact rfl
  ·obtain ⟨a31_0, a31_1⟩ := a31
   dsimp only at h
   refine rg L 318 [] [] [(1, (ef0 (.agg (Ag a31_0)) [(0, .raw (Af a31_1))]))] (pl1 (hR.Bd h31)) ?_
   refine awp_turn (Turns.trans (Turns.kk [2] [0, 200]) (Turns.rr [(0, 0), (200, 100)])) ?_
   refine awp_ret ?_
   cases h
   exact xr0
 refine fN c10 <| awp_skip' <| awp_seq ?_
 obtain ⟨a32, h32, h⟩ := bind_some h
 rcases a32 with a32 | a32
 ·dsimp only at h
  refine qn L 322 [] [] [] 1 (ef0 (.tup []) []) (ofi 49 a32) (pl1 (C5.okE h32)) ?_
  cases h
  exact rfl
 ·obtain ⟨a32_0, a32_1⟩ := a32
  dsimp only at h
  refine rg L 322 [] [] [(1, (ef0 (.agg (Ag a32_0)) [(0, .raw (Af a32_1))]))] (pl1 (C5.okE h32)) ?_
  refine awp_turn (Turns.trans (Turns.kk [2] [0, 200]) (Turns.rr [(0, 0), (200, 100)])) ?_
  refine awp_ret ?_
  cases h
  exact xr0
def Ap.l9 (K : Nat) (R : Bh) : Nat → (List As) → Int → (List Aa) → Option (Out (Int ⊕ (Aa × Ab)) ((List As) × Int × (List Aa)))
 | 0, _, _, _ => none
 | k + 1, xh0_0_9h, xh0_1_9h, x21902 => (Option.bind (Ao K ([125] : List UInt8) (⟨xh0_0_9h, xh0_1_9h⟩ : Ab)) (fun (a2_0, a2_1) => (if a2_0 = true then some (Out.go (a2_1.l, a2_1.i, x21902)) else (Option.bind (R.Bn a2_1) (fun a3 => match a3 with | (Sum.inl a3) => some (Out.done (Sum.inl a3)) | (Sum.inr (a3_0, a3_1)) => (if (x21902.length + ([(⟨a3_0.Op, a3_0.Name, a3_0.Int, a3_0.Text, a3_0.Kids⟩ : Aa)] : List Aa).length) * 72 ≤ 140737488355328 then Ap.l9 K R k a3_1.l a3_1.i (x21902 ++ ([(⟨a3_0.Op, a3_0.Name, a3_0.Int, a3_0.Text, a3_0.Kids⟩ : Aa)] : List Aa)) else none))))))
def Ap.F (K : Nat) (R : Bh) (p0 : Ab) : Option (Int ⊕ (Aa × Ab)) := (Option.bind (Aq K ([123] : List UInt8) p0) (fun a1 => match a1 with | (Sum.inl a1) => (obind (Ap.l9 K R K a1.l a1.i ([] : List Aa) : Option (Out (Int ⊕ (Aa × Ab)) ((List As) × Int × (List Aa)))) (fun r => r) (fun (xh0_0_9, xh0_1_9, x21802) => some (Sum.inr ((⟨53, [], 0, [], x21802⟩ : Aa), (⟨xh0_0_9, xh0_1_9⟩ : Ab))))) | (Sum.inr a1) => some (Sum.inl a1)))
theorem Ap.body {Γ : Ent} {K : Nat} {R : Bh} (hR : R.Ok) {p0 : Ab} {r : Int ⊕ (Aa × Ab)} (h : Ap.F K R p0 = some r) : AWp V P 18 100 Γ (Tryz.f50.body.getD .skip) (EndsX P V Tryz.f50 (Ap.rep p0 r) (Ap.post p0 r)) ⟨args0 0 [.P 0], [(0, .raw (Af p0))]⟩ := by
 unfold Ap.F at h
 refine sg0 L 200 <| sg0 L 202 <| awp_seq ?_
 obtain ⟨a1, h1, h⟩ := bind_some h
 rcases a1 with a1 | a1
 ·dsimp only at h
  refine rg L 206 [] [] [(1, (ef0 (.tup []) [(0, .raw (Af a1))]))] (pl1 (Aq.okE h1)) ?_
  refine awp_seq <| awp_block <| awp_turn (Turns.trans (Turns.kk [0, 2, 3] [0, 200, 203]) (Turns.trans (Turns.nc 203 4 9500 Tag.Ae) (Turns.trans (Turns.kk [0, 2, 3] [0, 200, 203, 9500]) (Turns.rr [(0, 0), (200, 21900), (203, 21901), (9500, 21902)])))) ?_
  refine kp (S' := ⟨[(0, .P 0), (2, .P 21900), (3, .P 21901)], [(0, .raw (Af a1)), (21900, .raw [.I 0, .str [], .I 0, .str [], .N]), (21901, .raw [.I 53, .str [], .I 0, .str [], .own .Ae 21902]), (21902, .lst .Ae ([] : List Aa))]⟩) ?_
  obtain ⟨o1, hp1, h⟩ := obind_some h
  refine awp_conseq (Q' := fun e S => (e = .exit 0 ∧ ∃ xh0_0_9 : List As, ∃ xh0_1_9 : Int, ∃ x21802 : List Aa, S = ⟨[(2, .P 21800), (3, .P 21801)], [(0, .raw [.ro .Am xh0_0_9, .I xh0_1_9]), (21800, .raw [.I 0, .str [], .I 0, .str [], .N]), (21801, .raw [.I 53, .str [], .I 0, .str [], .own .Ae 21802]), (21802, .lst .Ae x21802)]⟩ ∧ Out.go (xh0_0_9, xh0_1_9, x21802) = o1) ∨ ((e = .ret ∨ ∃ ch, e = .panic ch) ∧ ∃ a, Out.done a = o1 ∧ EndsX P V Tryz.f50 (Ap.rep p0 a) (Ap.post p0 a) e S)) (awp_loop (fun k S => ∃ xh0_0_9h : List As, ∃ xh0_1_9h : Int, ∃ x21902 : List Aa, S = ⟨[(0, .P 0), (2, .P 21900), (3, .P 21901)], [(0, .raw [.ro .Am xh0_0_9h, .I xh0_1_9h]), (21900, .raw [.I 0, .str [], .I 0, .str [], .N]), (21901, .raw [.I 53, .str [], .I 0, .str [], .own .Ae 21902]), (21902, .lst .Ae x21902)]⟩ ∧ Ap.l9 K R k xh0_0_9h xh0_1_9h x21902 = some o1) ?_ ⟨_, _, _, rfl, hp1⟩) ?_
  ·clear h hp1
   intro k S hS
   obtain ⟨xh0_0_9h, xh0_1_9h, x21902, rfl, h⟩ := hS
   cases k with
   | zero => cases h
   | succ k =>
   unfold Ap.l9 at h
   refine awp_seq <| awp_seq ?_
   obtain ⟨⟨a2_0, a2_1⟩, h2, h⟩ := bind_some h
   dsimp only at h
   refine rg L 209 [] [] [(1, (ef0 (.B a2_0) [(0, .raw (Af a2_1))]))] (pl1 (Ao.okE h2)) ?_
   rcases ite_some h with ⟨c1, h⟩ | ⟨c1, h⟩
   ·refine ff (b := (!a2_0)) (congrArg Bool.not (c1)) ?_
    refine awp_turn (Turns.trans (Turns.kk [2, 3] [0, 21900, 21901, 21902]) (Turns.rr [(0, 0), (21900, 21800), (21901, 21801), (21902, 21802)])) ?_
    refine ex (S' := ⟨[(2, .P 21800), (3, .P 21801)], [(0, .raw (Af a2_1)), (21800, .raw [.I 0, .str [], .I 0, .str [], .N]), (21801, .raw [.I 53, .str [], .I 0, .str [], .own .Ae 21802]), (21802, .lst .Ae x21902)]⟩) ?_
    cases h
    exact .inl ⟨rfl, _, _, _, rfl, rfl⟩
   refine tt (b := (!a2_0)) (congrArg Bool.not (eq_false_of_ne_true c1)) ?_
   refine awp_skip' <| awp_block ?_
   obtain ⟨a3, h3, h⟩ := bind_some h
   rcases a3 with a3 | a3
   ·dsimp only at h
    refine qP L mixed 213 [] [] [] [0, 2] 3 (ef0 (.tup []) []) (ofi 49 a3) (pl2 (hR.Bn h3) (hR.Bn h3)) ?_
    cases h
    exact .inr ⟨.inr ⟨_, rfl⟩, _, rfl, rfl⟩
   ·obtain ⟨a3_0, a3_1⟩ := a3
    dsimp only at h
    obtain ⟨g1, h⟩ := guard_some h
    refine hB L mixed 213 [] [] [(3, (ef0 (.agg (Ag a3_0)) [(0, .raw (Af a3_1))]))] [0, 2] 3 (plc (hR.Bn h3) (plc g1 (plc trivial (plc (hR.Bn h3) (plc g1 (plc trivial (plc g1 (pl1 trivial)))))))) (S' := ⟨[(0, .P 0), (2, .P 21900), (3, .P 21901)], [(0, .raw (Af a3_1)), (21900, .raw [.I 0, .str [], .I 0, .str [], .N]), (21901, .raw [.I 53, .str [], .I 0, .str [], .own .Ae 21902]), (21902, .lst .Ae (x21902 ++ ([(⟨a3_0.Op, a3_0.Name, a3_0.Int, a3_0.Text, a3_0.Kids⟩ : Aa)] : List Aa)))]⟩) ?_
    exact ⟨k, Nat.lt_succ_self k, _, _, _, rfl, h⟩
  ·rintro e S (⟨rfl, xh0_0_9, xh0_1_9, x21802, rfl, rfl⟩ | ⟨he, a, rfl, hr⟩)
   ·rcases h with ⟨_, e1, h⟩ | ⟨_, e1, h⟩
    ·cases e1
    ·have e2 := Out.go.inj e1
     subst e2
     dsimp only at h
     refine ⟨_, Turns.refl, ?_⟩
     refine sg0 L 222 <| awp_turn (Turns.trans (Turns.kk [2] [0, 21800, 21802]) (Turns.trans (Turns.fz 21802) (Turns.rr [(0, 0), (21800, 100)]))) ?_
     refine awp_ret ?_
     cases h
     exact xr0
   ·rcases h with ⟨_, e1, h⟩ | ⟨_, e1, h⟩
    ·have e2 := Out.done.inj e1
     subst e2
     subst h
     rcases he with rfl | ⟨ch, rfl⟩
     ·exact ⟨_, Turns.refl, hr⟩
     ·exact ⟨_, Turns.refl, hr⟩
    ·cases e1
 ·obtain ⟨a1, rfl⟩ : ∃ z, z = a1 := ⟨_, rfl⟩
  dsimp only at h
  refine qn L 206 [] [] [] 1 (ef0 (.tup []) []) (ofi 49 a1) (pl1 (Aq.okE h1)) ?_
  cases h
  exact rfl
def Bh.upto (K : Nat) : Nat → Bh
 | 0 => ⟨fun _ => none, fun _ => none, fun _ => none, fun _ => none⟩
 | k + 1 => ⟨Bb.F K (Bh.upto K k), Bd.F K (Bh.upto K k), Bn.F K (Bh.upto K k), Ap.F K (Bh.upto K k)⟩
theorem Bh.upto_ok (K : Nat) : ∀ k, (Bh.upto K k).Ok
 | 0 => ⟨fun h => (by cases h), fun h => (by cases h), fun h => (by cases h), fun h => (by cases h)⟩
 | k + 1 => ⟨fun {p0 r} h => xo (fn := Tryz.f105) (n := 31) (m := 100) fun Γ => Bb.body (K := K) (Bh.upto_ok K k) h, fun {p0 r} h => xo (fn := Tryz.f107) (n := 99) (m := 100) fun Γ => Bd.body (K := K) (Bh.upto_ok K k) h, fun {p0 r} h => xo (fn := Tryz.f77) (n := 87) (m := 100) fun Γ => Bn.body (K := K) (Bh.upto_ok K k) h, fun {p0 r} h => xo (fn := Tryz.f50) (n := 18) (m := 100) fun Γ => Ap.body (K := K) (Bh.upto_ok K k) h⟩
def Bb (K : Nat) (p0 : Ab) : Option (Int ⊕ (Aa × Ab)) := (Bh.upto K K).Bb p0
theorem Bb.okE {K : Nat} {p0 : Ab} {r : Int ⊕ (Aa × Ab)} (h : Bb K p0 = some r) : XCall V P 105 [.P 0] [(0, .raw (Af p0))] [0] (Bb.post p0 r) (Bb.rep p0 r) := (Bh.upto_ok K K).Bb h
def Bd (K : Nat) (p0 : Ab) : Option (Int ⊕ (Aa × Ab)) := (Bh.upto K K).Bd p0
theorem Bd.okE {K : Nat} {p0 : Ab} {r : Int ⊕ (Aa × Ab)} (h : Bd K p0 = some r) : XCall V P 107 [.P 0] [(0, .raw (Af p0))] [0] (Bd.post p0 r) (Bd.rep p0 r) := (Bh.upto_ok K K).Bd h
def Bn (K : Nat) (p0 : Ab) : Option (Int ⊕ (Aa × Ab)) := (Bh.upto K K).Bn p0
theorem Bn.okE {K : Nat} {p0 : Ab} {r : Int ⊕ (Aa × Ab)} (h : Bn K p0 = some r) : XCall V P 77 [.P 0] [(0, .raw (Af p0))] [0] (Bn.post p0 r) (Bn.rep p0 r) := (Bh.upto_ok K K).Bn h
def Ap (K : Nat) (p0 : Ab) : Option (Int ⊕ (Aa × Ab)) := (Bh.upto K K).Ap p0
theorem Ap.okE {K : Nat} {p0 : Ab} {r : Int ⊕ (Aa × Ab)} (h : Ap K p0 = some r) : XCall V P 50 [.P 0] [(0, .raw (Af p0))] [0] (Ap.post p0 r) (Ap.rep p0 r) := (Bh.upto_ok K K).Ap h
def C0.l15 (K : Nat) : Nat → (List As) → Int → (List Aa) → Option (Out ((Ab × (List Aa)) ⊕ Int) ((List As) × Int × (List Aa)))
 | 0, _, _, _ => none
 | k + 1, xh0_0_15h, xh0_1_15h, x23100 => (Option.bind (Ao K ([44] : List UInt8) (⟨xh0_0_15h, xh0_1_15h⟩ : Ab)) (fun (a3_0, a3_1) => (if a3_0 = true then (Option.bind (Cw K a3_1) (fun a4 => match a4 with | (Sum.inl a4) => some (Out.done (Sum.inr a4)) | (Sum.inr (a4_0, a4_1)) => (if (x23100.length + ([(⟨a4_0.Op, a4_0.Name, a4_0.Int, a4_0.Text, a4_0.Kids⟩ : Aa)] : List Aa).length) * 72 ≤ 140737488355328 then C0.l15 K k a4_1.l a4_1.i (x23100 ++ ([(⟨a4_0.Op, a4_0.Name, a4_0.Int, a4_0.Text, a4_0.Kids⟩ : Aa)] : List Aa)) else none))) else some (Out.go (a3_1.l, a3_1.i, x23100)))))
def C0 (K : Nat) (p0 : List UInt8) (p1 : Ab) : Option ((Ab × (List Aa)) ⊕ Int) := (Option.bind (Ao K p0 p1) (fun (a1_0, a1_1) => (if a1_0 = true then some (Sum.inl (a1_1, ([] : List Aa))) else (Option.bind (Cw K a1_1) (fun a2 => match a2 with | (Sum.inl a2) => some (Sum.inr a2) | (Sum.inr (a2_0, a2_1)) => (obind (C0.l15 K K a2_1.l a2_1.i ([(⟨a2_0.Op, a2_0.Name, a2_0.Int, a2_0.Text, a2_0.Kids⟩ : Aa)] : List Aa) : Option (Out ((Ab × (List Aa)) ⊕ Int) ((List As) × Int × (List Aa)))) (fun r => r) (fun (xh0_0_15, xh0_1_15, x23000) => (Option.bind (Aq K p0 (⟨xh0_0_15, xh0_1_15⟩ : Ab)) (fun a5 => match a5 with | (Sum.inl a5) => some (Sum.inl (a5, x23000)) | (Sum.inr a5) => some (Sum.inr a5))))))))))
def C0.rep (p0 : List UInt8) (p1 : Ab) : (Ab × (List Aa)) ⊕ Int → Outc T
 | (Sum.inl (v0, v1)) => .ret (.cv (.own .Ae 100))
 | (Sum.inr v0) => .pan (ofi 49 v0)
def C0.post (p0 : List UInt8) (p1 : Ab) : (Ab × (List Aa)) ⊕ Int → List (Nat × Blk T)
 | (Sum.inl (v0, v1)) => [(0, .raw [.ro .Am v0.l, .I v0.i]), (100, .lst .Ae v1)]
 | (Sum.inr v0) => []
theorem C0.body {Γ : Ent} {K : Nat} {p0 : List UInt8} {p1 : Ab} {r : (Ab × (List Aa)) ⊕ Int} (h : C0 K p0 p1 = some r) : AWp V P 25 100 Γ (Tryz.f48.body.getD .skip) (EndsX P V Tryz.f48 (C0.rep p0 p1 r) (C0.post p0 p1 r)) ⟨args0 0 [.P 0, .cv (.str p0), .cv (.fn (.func 49) [.P 0] [])], [(0, .raw (Af p1))]⟩ := by
 unfold C0 at h
 refine sg0 L 200 <| awp_seq <| awp_seq ?_
 obtain ⟨⟨a1_0, a1_1⟩, h1, h⟩ := bind_some h
 dsimp only at h
 refine rg L 202 [] [] [(2, (ef0 (.B a1_0) [(0, .raw (Af a1_1))]))] (pl1 (Ao.okE h1)) ?_
 rcases ite_some h with ⟨c1, h⟩ | ⟨c1, h⟩
 ·refine tt c1 <| sg0 L 206 <| awp_turn (Turns.trans (Turns.kk [6] [0]) (Turns.trans (Turns.no 6 9000 Tag.Ae) (Turns.trans (Turns.kk [6] [0, 9000]) (Turns.rr [(0, 0), (9000, 100)])))) ?_
  refine awp_ret ?_
  cases h
  exact xr0
 refine fN c1 <| awp_skip' <| awp_seq ?_
 obtain ⟨a2, h2, h⟩ := bind_some h
 rcases a2 with a2 | a2
 ·dsimp only at h
  refine qn L 100208 [] [] [] 1 (ef0 (.tup []) []) (ofi 49 a2) (pl1 (Cw.okE h2)) ?_
  cases h
  exact rfl
 ·obtain ⟨a2_0, a2_1⟩ := a2
  dsimp only at h
  refine rg L 100208 [] [] [(1, (ef0 (.agg (Ag a2_0)) [(0, .raw (Af a2_1))]))] (pl1 (Cw.okE h2)) ?_
  refine awp_seq <| awp_block <| awp_turn (Turns.trans (Turns.kk [0, 1, 2, 7] [0, 100210]) (Turns.rr [(0, 0), (100210, 23100)])) ?_
  refine kp (S' := ⟨[(0, .P 0), (1, .cv (.str p0)), (2, .cv (.fn (.func 49) [.P 0] [])), (7, .cv (.own .Ae 23100))], [(0, .raw (Af a2_1)), (23100, .lst .Ae ([(⟨a2_0.Op, a2_0.Name, a2_0.Int, a2_0.Text, a2_0.Kids⟩ : Aa)] : List Aa))]⟩) ?_
  obtain ⟨o1, hp1, h⟩ := obind_some h
  refine awp_conseq (Q' := fun e S => (e = .exit 0 ∧ ∃ xh0_0_15 : List As, ∃ xh0_1_15 : Int, ∃ x23000 : List Aa, S = ⟨[(0, .P 0), (1, .cv (.str p0)), (7, .cv (.own .Ae 23000))], [(0, .raw [.ro .Am xh0_0_15, .I xh0_1_15]), (23000, .lst .Ae x23000)]⟩ ∧ Out.go (xh0_0_15, xh0_1_15, x23000) = o1) ∨ ((e = .ret ∨ ∃ ch, e = .panic ch) ∧ ∃ a, Out.done a = o1 ∧ EndsX P V Tryz.f48 (C0.rep p0 p1 a) (C0.post p0 p1 a) e S)) (awp_loop (fun k S => ∃ xh0_0_15h : List As, ∃ xh0_1_15h : Int, ∃ x23100 : List Aa, S = ⟨[(0, .P 0), (1, .cv (.str p0)), (2, .cv (.fn (.func 49) [.P 0] [])), (7, .cv (.own .Ae 23100))], [(0, .raw [.ro .Am xh0_0_15h, .I xh0_1_15h]), (23100, .lst .Ae x23100)]⟩ ∧ C0.l15 K k xh0_0_15h xh0_1_15h x23100 = some o1) ?_ ⟨_, _, _, rfl, hp1⟩) ?_
  ·clear h hp1
   intro k S hS
   obtain ⟨xh0_0_15h, xh0_1_15h, x23100, rfl, h⟩ := hS
   cases k with
   | zero => cases h
   | succ k =>
   unfold C0.l15 at h
   refine awp_seq <| awp_seq ?_
   obtain ⟨⟨a3_0, a3_1⟩, h3, h⟩ := bind_some h
   dsimp only at h
   refine rg L 213 [] [] [(1, (ef0 (.B a3_0) [(0, .raw (Af a3_1))]))] (pl1 (Ao.okE h3)) ?_
   rcases ite_some h with ⟨c2, h⟩ | ⟨c2, h⟩
   ·refine tt c2 <| awp_skip' <| awp_block ?_
    obtain ⟨a4, h4, h⟩ := bind_some h
    rcases a4 with a4 | a4
    ·dsimp only at h
     refine qn L 216 [] [] [] 2 (ef0 (.tup []) []) (ofi 49 a4) (pl1 (Cw.okE h4)) ?_
     cases h
     exact .inr ⟨.inr ⟨_, rfl⟩, _, rfl, rfl⟩
    ·obtain ⟨a4_0, a4_1⟩ := a4
     dsimp only at h
     obtain ⟨g1, h⟩ := guard_some h
     refine ar L 216 [] [] [(2, (ef0 (.agg (Ag a4_0)) [(0, .raw (Af a4_1))]))] (cs := [ECall V P 49 [.P 0] [(0, .raw (Af a3_1))] [0] (.agg (Ag a4_0)) [(0, .raw (Af a4_1))], (x23100.length + ([(⟨a4_0.Op, a4_0.Name, a4_0.Int, a4_0.Text, a4_0.Kids⟩ : Aa)] : List Aa).length) * 72 ≤ 140737488355328, True]) (S' := ⟨[(0, .P 0), (1, .cv (.str p0)), (2, .cv (.fn (.func 49) [.P 0] [])), (7, .cv (.own .Ae 23100))], [(0, .raw (Af a4_1)), (23100, .lst .Ae (x23100 ++ ([(⟨a4_0.Op, a4_0.Name, a4_0.Int, a4_0.Text, a4_0.Kids⟩ : Aa)] : List Aa)))]⟩) (And.intro (Cw.okE h4) (And.intro g1 trivial)) ?_
     exact ⟨k, Nat.lt_succ_self k, _, _, _, rfl, h⟩
   refine fN c2 <| awp_turn (Turns.trans (Turns.kk [0, 1, 7] [0, 23100]) (Turns.rr [(0, 0), (23100, 23000)])) ?_
   refine ex (S' := ⟨[(0, .P 0), (1, .cv (.str p0)), (7, .cv (.own .Ae 23000))], [(0, .raw (Af a3_1)), (23000, .lst .Ae x23100)]⟩) ?_
   cases h
   exact .inl ⟨rfl, _, _, _, rfl, rfl⟩
  ·rintro e S (⟨rfl, xh0_0_15, xh0_1_15, x23000, rfl, rfl⟩ | ⟨he, a, rfl, hr⟩)
   ·rcases h with ⟨_, e1, h⟩ | ⟨_, e1, h⟩
    ·cases e1
    ·have e2 := Out.go.inj e1
     subst e2
     dsimp only at h
     refine ⟨_, Turns.refl, ?_⟩
     refine awp_seq ?_
     obtain ⟨a5, h5, h⟩ := bind_some h
     rcases a5 with a5 | a5
     ·dsimp only at h
      refine rg L 223 [] [] [(2, (ef0 (.tup []) [(0, .raw (Af a5))]))] (pl1 (Aq.okE h5)) ?_
      refine sg0 L 227 <| awp_turn (Turns.trans (Turns.kk [6] [0, 23000]) (Turns.rr [(0, 0), (23000, 100)])) ?_
      refine awp_ret ?_
      cases h
      exact xr0
     ·obtain ⟨a5, rfl⟩ : ∃ z, z = a5 := ⟨_, rfl⟩
      dsimp only at h
      refine qn L 223 [] [] [] 2 (ef0 (.tup []) []) (ofi 49 a5) (pl1 (Aq.okE h5)) ?_
      cases h
      exact rfl
   ·rcases h with ⟨_, e1, h⟩ | ⟨_, e1, h⟩
    ·have e2 := Out.done.inj e1
     subst e2
     subst h
     rcases he with rfl | ⟨ch, rfl⟩
     ·exact ⟨_, Turns.refl, hr⟩
     ·exact ⟨_, Turns.refl, hr⟩
    ·cases e1
theorem C0.okE {K : Nat} {p0 : List UInt8} {p1 : Ab} {r : (Ab × (List Aa)) ⊕ Int} (h : C0 K p0 p1 = some r) : XCall V P 48 [.P 0, .cv (.str p0), .cv (.fn (.func 49) [.P 0] [])] [(0, .raw (Af p1))] [0] (C0.post p0 p1 r) (C0.rep p0 p1 r) :=
 xo (fn := Tryz.f48) (n := 25) (m := 100) fun Γ => C0.body h
def Cz (K : Nat) (p0 : Ab) : Option (Int ⊕ (Aa × Ab)) := (Option.bind (Cy K ([([115, 105, 103, 110, 97, 108] : List UInt8), ([113, 117, 101, 114, 121] : List UInt8), ([117, 112, 100, 97, 116, 101] : List UInt8)] : List (List UInt8)) ([63, 64, 65] : List Int) p0) (fun (a1_0, a1_1, a1_2) => (if a1_1 = true then (Option.bind (Au K a1_2) (fun a2 => match a2 with | (Sum.inl a2) => some (Sum.inl a2) | (Sum.inr (a2_0, a2_1)) => (Option.bind (Aq K ([40] : List UInt8) a2_1) (fun a3 => match a3 with | (Sum.inl a3) => (Option.bind (Au K a3) (fun a4 => match a4 with | (Sum.inl a4) => some (Sum.inl a4) | (Sum.inr (a4_0, a4_1)) => (Option.bind (Aq K ([41] : List UInt8) a4_1) (fun a5 => match a5 with | (Sum.inl a5) => (obind (((Option.bind ((if a1_0 = 65 then (Option.bind (Ao K ([99, 104, 101, 99, 107] : List UInt8) a5) (fun (a6_0, a6_1) => some (a6_0, a6_1.l, a6_1.i))) else some (false, a5.l, a5.i)) : Option (Bool × (List As) × Int)) (fun (xt33_20, xh0_0_20, xh0_1_20) => (if xt33_20 = true then (Option.bind (Ap K (⟨xh0_0_20, xh0_1_20⟩ : Ab)) (fun a7 => match a7 with | (Sum.inl a7) => some (Out.done (Sum.inl a7)) | (Sum.inr (a7_0, a7_1)) => (if ([(⟨a7_0.Op, a7_0.Name, a7_0.Int, a7_0.Text, a7_0.Kids⟩ : Aa)] : List Aa).length * 72 ≤ 140737488355328 then some (Out.go (a7_1.l, a7_1.i, ([(⟨a7_0.Op, a7_0.Name, a7_0.Int, a7_0.Text, a7_0.Kids⟩ : Aa)] : List Aa))) else none))) else some (Out.go (xh0_0_20, xh0_1_20, ([] : List Aa))))))) : Option (Out (Int ⊕ (Aa × Ab)) ((List As) × Int × (List Aa)))) (fun r => r) (fun (xh0_0_19, xh0_1_19, x23802) => (Option.bind (Ap K (⟨xh0_0_19, xh0_1_19⟩ : Ab)) (fun a8 => match a8 with | (Sum.inl a8) => some (Sum.inl a8) | (Sum.inr (a8_0, a8_1)) => (if (x23802.length + ([(⟨a8_0.Op, a8_0.Name, a8_0.Int, a8_0.Text, a8_0.Kids⟩ : Aa)] : List Aa).length) * 72 ≤ 140737488355328 then some ((Sum.inr ((⟨a1_0, a2_0, 0, a4_0, (x23802 ++ ([(⟨a8_0.Op, a8_0.Name, a8_0.Int, a8_0.Text, a8_0.Kids⟩ : Aa)] : List Aa))⟩ : Aa), a8_1))) else none))))) | (Sum.inr a5) => some (Sum.inl a5))))) | (Sum.inr a3) => some (Sum.inl a3))))) else (Option.bind (Bs K a1_2) (fun a9 => some (Sum.inl a9))))))
def Cz.rep (p0 : Ab) : Int ⊕ (Aa × Ab) → Outc T
 | (Sum.inl v0) => .pan (ofi 49 v0)
 | (Sum.inr (v0, v1)) => .ret (.agg [.I v0.Op, .str v0.Name, .I v0.Int, .str v0.Text, .ro .Ae v0.Kids])
def Cz.post (p0 : Ab) : Int ⊕ (Aa × Ab) → List (Nat × Blk T)
 | (Sum.inl v0) => []
 | (Sum.inr (v0, v1)) => [(0, .raw [.ro .Am v1.l, .I v1.i])]
theorem Cz.body {Γ : Ent} {K : Nat} {p0 : Ab} {r : Int ⊕ (Aa × Ab)} (h : Cz K p0 = some r) : AWp V P 49 100 Γ (Tryz.f51.body.getD .skip) (EndsX P V Tryz.f51 (Cz.rep p0 r) (Cz.post p0 r)) ⟨args0 0 [.P 0], [(0, .raw (Af p0))]⟩ := by
 unfold Cz at h
 refine sg0 L 200 <| awp_seq ?_
 obtain ⟨⟨a1_0, a1_1, a1_2⟩, h1, h⟩ := bind_some h
 dsimp only at h
 refine rg L 202 [] [] [(3, (ef0 (.tup [.I a1_0, .B a1_1]) [(0, .raw (Af a1_2))]))] (pl1 (Cy.okE h1)) ?_
 refine awp_seq <| sg0 L 212 ?_
 rcases ite_some h with ⟨c1, h⟩ | ⟨c1, h⟩
 ·refine ff (b := (!a1_1)) (congrArg Bool.not (c1)) ?_
  refine awp_skip' <| awp_seq ?_
  obtain ⟨a2, h2, h⟩ := bind_some h
  rcases a2 with a2 | a2
  ·dsimp only at h
   refine qn L 218 [] [] [] 2 (ef0 (.tup []) []) (ofi 49 a2) (pl1 (Au.okE h2)) ?_
   cases h
   exact rfl
  ·obtain ⟨a2_0, a2_1⟩ := a2
   dsimp only at h
   refine rg L 218 [] [] [(2, (ef0 (.cv (.str a2_0)) [(0, .raw (Af a2_1))]))] (pl1 (Au.okE h2)) ?_
   refine awp_seq ?_
   obtain ⟨a3, h3, h⟩ := bind_some h
   rcases a3 with a3 | a3
   ·dsimp only at h
    refine rg L 225 [] [] [(1, (ef0 (.tup []) [(0, .raw (Af a3))]))] (pl1 (Aq.okE h3)) ?_
    refine awp_seq ?_
    obtain ⟨a4, h4, h⟩ := bind_some h
    rcases a4 with a4 | a4
    ·dsimp only at h
     refine qn L 228 [] [] [] 1 (ef0 (.tup []) []) (ofi 49 a4) (pl1 (Au.okE h4)) ?_
     cases h
     exact rfl
    ·obtain ⟨a4_0, a4_1⟩ := a4
     dsimp only at h
     refine rg L 228 [] [] [(1, (ef0 (.cv (.str a4_0)) [(0, .raw (Af a4_1))]))] (pl1 (Au.okE h4)) ?_
     refine awp_seq ?_
     obtain ⟨a5, h5, h⟩ := bind_some h
     rcases a5 with a5 | a5
     ·dsimp only at h
      refine rg L 233 [] [] [(1, (ef0 (.tup []) [(0, .raw (Af a5))]))] (pl1 (Aq.okE h5)) ?_
      obtain ⟨o2, hp2, h⟩ := obind_some h
      refine awp_seq (awp_mono (Q' := fun e S => (e = .normal ∧ ∃ xh0_0_19 : List As, ∃ xh0_1_19 : Int, ∃ x23802 : List Aa, S = ⟨[(0, .P 0), (2, .P 23800), (5, .P 23801)], [(0, .raw [.ro .Am xh0_0_19, .I xh0_1_19]), (23800, .raw [.I 0, .str [], .I 0, .str [], .N]), (23801, .raw [.I a1_0, .str a2_0, .I 0, .str a4_0, .own .Ae 23802]), (23802, .lst .Ae x23802)]⟩ ∧ Out.go (xh0_0_19, xh0_1_19, x23802) = o2) ∨ ((e = .ret ∨ ∃ ch, e = .panic ch) ∧ ∃ a, Out.done a = o2 ∧ EndsX P V Tryz.f51 (Cz.rep p0 a) (Cz.post p0 a) e S)) ?_ ?_)
      ·clear h
       replace h := hp2
       obtain ⟨o1, hp1, h⟩ := bind_some h
       refine awp_seq (awp_mono (Q' := fun e S => (e = .normal ∧ ∃ xt33_20 : Bool, ∃ xh0_0_20 : List As, ∃ xh0_1_20 : Int, S = ⟨[(0, .P 0), (2, .P 24000), (5, .P 24001), (33, .B xt33_20)], [(0, .raw [.ro .Am xh0_0_20, .I xh0_1_20]), (24000, .raw [.I 0, .str [], .I 0, .str [], .N]), (24001, .raw [.I a1_0, .str a2_0, .I 0, .str a4_0, .N])]⟩ ∧ (xt33_20, xh0_0_20, xh0_1_20) = o1)) ?_ ?_)
       ·clear h
        replace h := hp1
        rcases ite_some h with ⟨c2, h⟩ | ⟨c2, h⟩
        ·obtain ⟨⟨a6_0, a6_1⟩, h6, h⟩ := bind_some h
         dsimp only at h
         refine awp_post (rg L 236 [(2, true)] [] [(4, (ef0 (.B a6_0) [(0, .raw (Af a6_1))]))] (pl2 (decide_eq_true c2) (Ao.okE h6)) ⟨rfl, rfl⟩) (Turns.trans (Turns.kk [0, 2, 5, 33] [0, 200, 222]) (Turns.trans (Turns.rr [(0, 0), (200, 24000), (222, 24001)]) (Turns.kp (S' := ⟨[(0, .P 0), (2, .P 24000), (5, .P 24001), (33, .B a6_0)], [(0, .raw (Af a6_1)), (24000, .raw [.I 0, .str [], .I 0, .str [], .N]), (24001, .raw [.I a1_0, .str a2_0, .I 0, .str a4_0, .N])]⟩)))) ?_
         cases h
         exact ⟨rfl, _, _, _, rfl, rfl⟩
        refine awp_post (rg L 236 [(2, false)] [] [] (pl1 (decide_eq_false c2)) ⟨rfl, rfl⟩) (Turns.trans (Turns.kk [0, 2, 5, 33] [0, 200, 222]) (Turns.trans (Turns.rr [(0, 0), (200, 24000), (222, 24001)]) (Turns.kp (S' := ⟨[(0, .P 0), (2, .P 24000), (5, .P 24001), (33, .B false)], [(0, .raw (Af a5)), (24000, .raw [.I 0, .str [], .I 0, .str [], .N]), (24001, .raw [.I a1_0, .str a2_0, .I 0, .str a4_0, .N])]⟩)))) ?_
        cases h
        exact ⟨rfl, _, _, _, rfl, rfl⟩
       ·rintro e S ⟨rfl, xt33_20, xh0_0_20, xh0_1_20, rfl, rfl⟩
        dsimp only at h
        rcases ite_some h with ⟨c3, h⟩ | ⟨c3, h⟩
        ·refine tt c3 ?_
         obtain ⟨a7, h7, h⟩ := bind_some h
         rcases a7 with a7 | a7
         ·dsimp only at h
          refine qP L mixed 243 [] [] [] [0, 2] 3 (ef0 (.tup []) []) (ofi 49 a7) (pl2 (Ap.okE h7) (Ap.okE h7)) ?_
          cases h
          exact .inr ⟨.inr ⟨_, rfl⟩, _, rfl, rfl⟩
         ·obtain ⟨a7_0, a7_1⟩ := a7
          dsimp only at h
          obtain ⟨g1, h⟩ := guard_some h
          refine awp_post (hB L mixed 243 [] [] [(3, (ef0 (.agg (Ag a7_0)) [(0, .raw (Af a7_1))]))] [0, 2] 3 (plc (Ap.okE h7) (plc g1 (plc trivial (plc (Ap.okE h7) (plc g1 (plc trivial (plc g1 (pl1 trivial)))))))) (S' := ⟨[(0, .P 0), (2, .P 24000), (5, .P 24001)], [(0, .raw (Af a7_1)), (248, .lst .Ae ([(⟨a7_0.Op, a7_0.Name, a7_0.Int, a7_0.Text, a7_0.Kids⟩ : Aa)] : List Aa)), (24000, .raw [.I 0, .str [], .I 0, .str [], .N]), (24001, .raw [.I a1_0, .str a2_0, .I 0, .str a4_0, .own .Ae 248])]⟩) ⟨rfl, rfl⟩) (Turns.trans (Turns.kk [0, 2, 5] [0, 248, 24000, 24001]) (Turns.trans (Turns.rr [(0, 0), (248, 23802), (24000, 23800), (24001, 23801)]) (Turns.kp (S' := ⟨[(0, .P 0), (2, .P 23800), (5, .P 23801)], [(0, .raw (Af a7_1)), (23800, .raw [.I 0, .str [], .I 0, .str [], .N]), (23801, .raw [.I a1_0, .str a2_0, .I 0, .str a4_0, .own .Ae 23802]), (23802, .lst .Ae ([(⟨a7_0.Op, a7_0.Name, a7_0.Int, a7_0.Text, a7_0.Kids⟩ : Aa)] : List Aa))]⟩)))) ?_
          cases h
          exact .inl ⟨rfl, _, _, _, rfl, rfl⟩
        refine fN c3 <| awp_turn (Turns.trans (Turns.kk [0, 2, 5] [0, 24000, 24001]) (Turns.trans (Turns.nc 24001 4 9500 Tag.Ae) (Turns.trans (Turns.kk [0, 2, 5] [0, 9500, 24000, 24001]) (Turns.rr [(0, 0), (9500, 23802), (24000, 23800), (24001, 23801)])))) ?_
        refine sk (S' := ⟨[(0, .P 0), (2, .P 23800), (5, .P 23801)], [(0, .raw [.ro .Am xh0_0_20, .I xh0_1_20]), (23800, .raw [.I 0, .str [], .I 0, .str [], .N]), (23801, .raw [.I a1_0, .str a2_0, .I 0, .str a4_0, .own .Ae 23802]), (23802, .lst .Ae ([] : List Aa))]⟩) ?_
        cases h
        exact .inl ⟨rfl, _, _, _, rfl, rfl⟩
      ·rintro e S (⟨rfl, xh0_0_19, xh0_1_19, x23802, rfl, rfl⟩ | ⟨he, a, rfl, hr⟩)
       ·rcases h with ⟨_, e1, h⟩ | ⟨_, e1, h⟩
        ·cases e1
        ·have e2 := Out.go.inj e1
         subst e2
         dsimp only at h
         refine awp_seq ?_
         obtain ⟨a8, h8, h⟩ := bind_some h
         rcases a8 with a8 | a8
         ·dsimp only at h
          refine qP L mixed 252 [] [] [] [0, 2] 3 (ef0 (.tup []) []) (ofi 49 a8) (pl2 (Ap.okE h8) (Ap.okE h8)) ?_
          cases h
          exact rfl
         ·obtain ⟨a8_0, a8_1⟩ := a8
          dsimp only at h
          obtain ⟨g2, h⟩ := guard_some h
          refine hB L mixed 252 [] [] [(3, (ef0 (.agg (Ag a8_0)) [(0, .raw (Af a8_1))]))] [0, 2] 3 (plc (Ap.okE h8) (plc g2 (plc trivial (plc (Ap.okE h8) (plc g2 (plc trivial (plc g2 (pl1 trivial)))))))) (S' := ⟨[(2, .P 23800), (5, .P 23801)], [(0, .raw (Af a8_1)), (23800, .raw [.I 0, .str [], .I 0, .str [], .N]), (23801, .raw [.I a1_0, .str a2_0, .I 0, .str a4_0, .own .Ae 23802]), (23802, .lst .Ae (x23802 ++ ([(⟨a8_0.Op, a8_0.Name, a8_0.Int, a8_0.Text, a8_0.Kids⟩ : Aa)] : List Aa)))]⟩) ?_
          refine sg0 L 261 <| awp_turn (Turns.trans (Turns.kk [2] [0, 23800, 23802]) (Turns.trans (Turns.fz 23802) (Turns.rr [(0, 0), (23800, 100)]))) ?_
          refine awp_ret ?_
          cases h
          exact xr0
       ·rcases h with ⟨_, e1, h⟩ | ⟨_, e1, h⟩
        ·have e2 := Out.done.inj e1
         subst e2
         subst h
         rcases he with rfl | ⟨ch, rfl⟩
         ·exact hr
         ·exact hr
        ·cases e1
     ·obtain ⟨a5, rfl⟩ : ∃ z, z = a5 := ⟨_, rfl⟩
      dsimp only at h
      refine qn L 233 [] [] [] 1 (ef0 (.tup []) []) (ofi 49 a5) (pl1 (Aq.okE h5)) ?_
      cases h
      exact rfl
   ·obtain ⟨a3, rfl⟩ : ∃ z, z = a3 := ⟨_, rfl⟩
    dsimp only at h
    refine qn L 225 [] [] [] 1 (ef0 (.tup []) []) (ofi 49 a3) (pl1 (Aq.okE h3)) ?_
    cases h
    exact rfl
 refine tt (b := (!a1_1)) (congrArg Bool.not (eq_false_of_ne_true c1)) ?_
 obtain ⟨a9, h9, h⟩ := bind_some h
 refine qn L 215 [] [] [] 1 (ef0 (.tup []) []) (ofi 49 a9) (pl1 (Bs.okE h9)) ?_
 cases h
 exact rfl
theorem Cz.okE {K : Nat} {p0 : Ab} {r : Int ⊕ (Aa × Ab)} (h : Cz K p0 = some r) : XCall V P 51 [.P 0] [(0, .raw (Af p0))] [0] (Cz.post p0 r) (Cz.rep p0 r) :=
 xo (fn := Tryz.f51) (n := 49) (m := 100) fun Γ => Cz.body h
def B6.l7 (K : Nat) : Nat → (List As) → Int → (List Aa) → Option (Out (Int ⊕ (Aa × Ab)) ((List As) × Int × (List Aa)))
 | 0, _, _, _ => none
 | k + 1, xh0_0_7h, xh0_1_7h, x21502 => (Option.bind (Bx K (⟨xh0_0_7h, xh0_1_7h⟩ : Ab)) (fun a1 => (if a1.Kind ≠ 0 then (Option.bind (Ao K ([118, 97, 114] : List UInt8) (⟨xh0_0_7h, xh0_1_7h⟩ : Ab)) (fun (a2_0, a2_1) => (if a2_0 = true then (Option.bind (Au K a2_1) (fun a3 => match a3 with | (Sum.inl a3) => some (Out.done (Sum.inl a3)) | (Sum.inr (a3_0, a3_1)) => (Option.bind (Aq K ([61] : List UInt8) a3_1) (fun a4 => match a4 with | (Sum.inl a4) => (Option.bind (C4 K a4) (fun a5 => match a5 with | (Sum.inl a5) => some (Out.done (Sum.inl a5)) | (Sum.inr (a5_0, a5_1)) => (if (x21502.length + ([(⟨61, a3_0, 0, [], ([(⟨a5_0.Op, a5_0.Name, a5_0.Int, a5_0.Text, a5_0.Kids⟩ : Aa)] : List Aa)⟩ : Aa)] : List Aa).length) * 72 ≤ 140737488355328 then (Option.bind (Aq K ([59] : List UInt8) a5_1) (fun a6 => match a6 with | (Sum.inl a6) => B6.l7 K k a6.l a6.i (x21502 ++ ([(⟨61, a3_0, 0, [], ([(⟨a5_0.Op, a5_0.Name, a5_0.Int, a5_0.Text, a5_0.Kids⟩ : Aa)] : List Aa)⟩ : Aa)] : List Aa)) | (Sum.inr a6) => some (Out.done (Sum.inl a6)))) else none))) | (Sum.inr a4) => some (Out.done (Sum.inl a4)))))) else (Option.bind (Ao K ([102, 117, 110, 99] : List UInt8) a2_1) (fun (a7_0, a7_1) => (if a7_0 = true then (Option.bind (Au K a7_1) (fun a8 => match a8 with | (Sum.inl a8) => some (Out.done (Sum.inl a8)) | (Sum.inr (a8_0, a8_1)) => (Option.bind (Aq K ([40] : List UInt8) a8_1) (fun a9 => match a9 with | (Sum.inl a9) => (Option.bind (C0 K ([41] : List UInt8) a9) (fun a10 => match a10 with | (Sum.inl (a10_0, a10_1)) => (Option.bind (Ap K a10_0) (fun a11 => match a11 with | (Sum.inl a11) => some (Out.done (Sum.inl a11)) | (Sum.inr (a11_0, a11_1)) => (if (a10_1.length + ([(⟨a11_0.Op, a11_0.Name, a11_0.Int, a11_0.Text, a11_0.Kids⟩ : Aa)] : List Aa).length) * 72 ≤ 140737488355328 then (if (x21502.length + ([(⟨62, a8_0, 0, [], (a10_1 ++ ([(⟨a11_0.Op, a11_0.Name, a11_0.Int, a11_0.Text, a11_0.Kids⟩ : Aa)] : List Aa))⟩ : Aa)] : List Aa).length) * 72 ≤ 140737488355328 then B6.l7 K k a11_1.l a11_1.i ((x21502 ++ ([(⟨62, a8_0, 0, [], (a10_1 ++ ([(⟨a11_0.Op, a11_0.Name, a11_0.Int, a11_0.Text, a11_0.Kids⟩ : Aa)] : List Aa))⟩ : Aa)] : List Aa))) else none) else none))) | (Sum.inr a10) => some (Out.done (Sum.inl a10)))) | (Sum.inr a9) => some (Out.done (Sum.inl a9)))))) else (Option.bind (Aq K ([111, 110] : List UInt8) a7_1) (fun a12 => match a12 with | (Sum.inl a12) => (Option.bind (Cz K a12) (fun a13 => match a13 with | (Sum.inl a13) => some (Out.done (Sum.inl a13)) | (Sum.inr (a13_0, a13_1)) => (if (x21502.length + ([(⟨a13_0.Op, a13_0.Name, a13_0.Int, a13_0.Text, a13_0.Kids⟩ : Aa)] : List Aa).length) * 72 ≤ 140737488355328 then B6.l7 K k a13_1.l a13_1.i (x21502 ++ ([(⟨a13_0.Op, a13_0.Name, a13_0.Int, a13_0.Text, a13_0.Kids⟩ : Aa)] : List Aa)) else none))) | (Sum.inr a12) => some (Out.done (Sum.inl a12)))))))))) else some (Out.go (xh0_0_7h, xh0_1_7h, x21502)))))
def B6 (K : Nat) (p0 : Ab) : Option (Int ⊕ (Aa × Ab)) := (obind (B6.l7 K K p0.l p0.i ([] : List Aa) : Option (Out (Int ⊕ (Aa × Ab)) ((List As) × Int × (List Aa)))) (fun r => r) (fun (xh0_0_7, xh0_1_7, x21402) => some (Sum.inr ((⟨60, [], 0, [], x21402⟩ : Aa), (⟨xh0_0_7, xh0_1_7⟩ : Ab)))))
def B6.rep (p0 : Ab) : Int ⊕ (Aa × Ab) → Outc T
 | (Sum.inl v0) => .pan (ofi 49 v0)
 | (Sum.inr (v0, v1)) => .ret (.agg [.I v0.Op, .str v0.Name, .I v0.Int, .str v0.Text, .ro .Ae v0.Kids])
def B6.post (p0 : Ab) : Int ⊕ (Aa × Ab) → List (Nat × Blk T)
 | (Sum.inl v0) => []
 | (Sum.inr (v0, v1)) => [(0, .raw [.ro .Am v1.l, .I v1.i])]
theorem B6.body {Γ : Ent} {K : Nat} {p0 : Ab} {r : Int ⊕ (Aa × Ab)} (h : B6 K p0 = some r) : AWp V P 64 100 Γ (Tryz.f26.body.getD .skip) (EndsX P V Tryz.f26 (B6.rep p0 r) (B6.post p0 r)) ⟨args0 0 [.P 0], [(0, .raw (Af p0))]⟩ := by
 unfold B6 at h
 refine sg0 L 200 <| sg0 L 202 <| awp_seq <| awp_block <| awp_turn (Turns.trans (Turns.kk [0, 2, 3] [0, 200, 203]) (Turns.trans (Turns.nc 203 4 9500 Tag.Ae) (Turns.trans (Turns.kk [0, 2, 3] [0, 200, 203, 9500]) (Turns.rr [(0, 0), (200, 21500), (203, 21501), (9500, 21502)])))) ?_
 refine kp (S' := ⟨[(0, .P 0), (2, .P 21500), (3, .P 21501)], [(0, .raw (Af p0)), (21500, .raw [.I 0, .str [], .I 0, .str [], .N]), (21501, .raw [.I 60, .str [], .I 0, .str [], .own .Ae 21502]), (21502, .lst .Ae ([] : List Aa))]⟩) ?_
 obtain ⟨o1, hp1, h⟩ := obind_some h
 refine awp_conseq (Q' := fun e S => (e = .exit 0 ∧ ∃ xh0_0_7 : List As, ∃ xh0_1_7 : Int, ∃ x21402 : List Aa, S = ⟨[(2, .P 21400), (3, .P 21401)], [(0, .raw [.ro .Am xh0_0_7, .I xh0_1_7]), (21400, .raw [.I 0, .str [], .I 0, .str [], .N]), (21401, .raw [.I 60, .str [], .I 0, .str [], .own .Ae 21402]), (21402, .lst .Ae x21402)]⟩ ∧ Out.go (xh0_0_7, xh0_1_7, x21402) = o1) ∨ ((e = .ret ∨ ∃ ch, e = .panic ch) ∧ ∃ a, Out.done a = o1 ∧ EndsX P V Tryz.f26 (B6.rep p0 a) (B6.post p0 a) e S)) (awp_loop (fun k S => ∃ xh0_0_7h : List As, ∃ xh0_1_7h : Int, ∃ x21502 : List Aa, S = ⟨[(0, .P 0), (2, .P 21500), (3, .P 21501)], [(0, .raw [.ro .Am xh0_0_7h, .I xh0_1_7h]), (21500, .raw [.I 0, .str [], .I 0, .str [], .N]), (21501, .raw [.I 60, .str [], .I 0, .str [], .own .Ae 21502]), (21502, .lst .Ae x21502)]⟩ ∧ B6.l7 K k xh0_0_7h xh0_1_7h x21502 = some o1) ?_ ⟨_, _, _, rfl, hp1⟩) ?_
 ·clear h hp1
  intro k S hS
  obtain ⟨xh0_0_7h, xh0_1_7h, x21502, rfl, h⟩ := hS
  cases k with
  | zero => cases h
  | succ k =>
  unfold B6.l7 at h
  refine awp_seq <| awp_seq ?_
  obtain ⟨a1, h1, h⟩ := bind_some h
  refine rg L 206 [] [(1, .agg (Ea a1))] [] (plt (Bx.ok h1)) ?_
  rcases ite_some h with ⟨c1, h⟩ | ⟨c1, h⟩
  ·refine tT c1 <| awp_skip' <| awp_block <| awp_block <| awp_seq ?_
   obtain ⟨⟨a2_0, a2_1⟩, h2, h⟩ := bind_some h
   dsimp only at h
   refine rg L 211 [] [] [(1, (ef0 (.B a2_0) [(0, .raw (Af a2_1))]))] (pl1 (Ao.okE h2)) ?_
   rcases ite_some h with ⟨c2, h⟩ | ⟨c2, h⟩
   ·refine tt c2 <| awp_seq ?_
    obtain ⟨a3, h3, h⟩ := bind_some h
    rcases a3 with a3 | a3
    ·dsimp only at h
     refine qn L 215 [] [] [] 1 (ef0 (.tup []) []) (ofi 49 a3) (pl1 (Au.okE h3)) ?_
     cases h
     exact .inr ⟨.inr ⟨_, rfl⟩, _, rfl, rfl⟩
    ·obtain ⟨a3_0, a3_1⟩ := a3
     dsimp only at h
     refine rg L 215 [] [] [(1, (ef0 (.cv (.str a3_0)) [(0, .raw (Af a3_1))]))] (pl1 (Au.okE h3)) ?_
     refine awp_seq ?_
     obtain ⟨a4, h4, h⟩ := bind_some h
     rcases a4 with a4 | a4
     ·dsimp only at h
      refine rg L 219 [] [] [(1, (ef0 (.tup []) [(0, .raw (Af a4))]))] (pl1 (Aq.okE h4)) ?_
      refine awp_seq ?_
      obtain ⟨a5, h5, h⟩ := bind_some h
      rcases a5 with a5 | a5
      ·dsimp only at h
       refine qP L mixed 222 [] [] [] [0, 2, 3] 4 (ef0 (.tup []) []) (ofi 49 a5) (pl2 (C4.okE h5) (C4.okE h5)) ?_
       cases h
       exact .inr ⟨.inr ⟨_, rfl⟩, _, rfl, rfl⟩
      ·obtain ⟨a5_0, a5_1⟩ := a5
       dsimp only at h
       obtain ⟨g1, h⟩ := guard_some h
       refine hB L mixed 222 [] [] [(4, (ef0 (.agg (Ag a5_0)) [(0, .raw (Af a5_1))]))] [0, 2, 3] 5 (plc (C4.okE h5) (plc g1 (plc trivial (plc (C4.okE h5) (plc g1 (plc trivial (plc g1 (plc trivial (plc g1 (plc trivial (plc g1 (pl1 trivial)))))))))))) (S' := ⟨[(0, .P 0), (2, .P 21500), (3, .P 21501)], [(0, .raw (Af a5_1)), (21500, .raw [.I 0, .str [], .I 0, .str [], .N]), (21501, .raw [.I 60, .str [], .I 0, .str [], .own .Ae 21502]), (21502, .lst .Ae (x21502 ++ ([(⟨61, a3_0, 0, [], ([(⟨a5_0.Op, a5_0.Name, a5_0.Int, a5_0.Text, a5_0.Kids⟩ : Aa)] : List Aa)⟩ : Aa)] : List Aa)))]⟩) ?_
       obtain ⟨a6, h6, h⟩ := bind_some h
       rcases a6 with a6 | a6
       ·dsimp only at h
        refine ar L 234 [] [] [(1, (ef0 (.tup []) [(0, .raw (Af a6))]))] (cs := [ECall V P 46 [.P 0, .cv (.str ([59] : List UInt8))] [(0, .raw (Af a5_1))] [0] (.tup []) [(0, .raw (Af a6))]]) (S' := ⟨[(0, .P 0), (2, .P 21500), (3, .P 21501)], [(0, .raw (Af a6)), (21500, .raw [.I 0, .str [], .I 0, .str [], .N]), (21501, .raw [.I 60, .str [], .I 0, .str [], .own .Ae 21502]), (21502, .lst .Ae (x21502 ++ ([(⟨61, a3_0, 0, [], ([(⟨a5_0.Op, a5_0.Name, a5_0.Int, a5_0.Text, a5_0.Kids⟩ : Aa)] : List Aa)⟩ : Aa)] : List Aa)))]⟩) (Aq.okE h6) ?_
        exact ⟨k, Nat.lt_succ_self k, _, _, _, rfl, h⟩
       ·obtain ⟨a6, rfl⟩ : ∃ z, z = a6 := ⟨_, rfl⟩
        dsimp only at h
        refine qn L 234 [] [] [] 1 (ef0 (.tup []) []) (ofi 49 a6) (pl1 (Aq.okE h6)) ?_
        cases h
        exact .inr ⟨.inr ⟨_, rfl⟩, _, rfl, rfl⟩
     ·obtain ⟨a4, rfl⟩ : ∃ z, z = a4 := ⟨_, rfl⟩
      dsimp only at h
      refine qn L 219 [] [] [] 1 (ef0 (.tup []) []) (ofi 49 a4) (pl1 (Aq.okE h4)) ?_
      cases h
      exact .inr ⟨.inr ⟨_, rfl⟩, _, rfl, rfl⟩
   refine fN c2 <| awp_seq ?_
   obtain ⟨⟨a7_0, a7_1⟩, h7, h⟩ := bind_some h
   dsimp only at h
   refine rg L 237 [] [] [(1, (ef0 (.B a7_0) [(0, .raw (Af a7_1))]))] (pl1 (Ao.okE h7)) ?_
   rcases ite_some h with ⟨c3, h⟩ | ⟨c3, h⟩
   ·refine tt c3 <| awp_seq ?_
    obtain ⟨a8, h8, h⟩ := bind_some h
    rcases a8 with a8 | a8
    ·dsimp only at h
     refine qn L 241 [] [] [] 1 (ef0 (.tup []) []) (ofi 49 a8) (pl1 (Au.okE h8)) ?_
     cases h
     exact .inr ⟨.inr ⟨_, rfl⟩, _, rfl, rfl⟩
    ·obtain ⟨a8_0, a8_1⟩ := a8
     dsimp only at h
     refine rg L 241 [] [] [(1, (ef0 (.cv (.str a8_0)) [(0, .raw (Af a8_1))]))] (pl1 (Au.okE h8)) ?_
     refine awp_seq ?_
     obtain ⟨a9, h9, h⟩ := bind_some h
     rcases a9 with a9 | a9
     ·dsimp only at h
      refine rg L 245 [] [] [(1, (ef0 (.tup []) [(0, .raw (Af a9))]))] (pl1 (Aq.okE h9)) ?_
      refine awp_seq ?_
      obtain ⟨a10, h10, h⟩ := bind_some h
      rcases a10 with ⟨a10_0, a10_1⟩ | a10
      ·dsimp only at h
       refine rg L 248 [] [] [(3, (ef [0] [0] (.cv (.own .Ae 100)) [(0, .raw (Af a10_0)), (100, .lst .Ae a10_1)] [(0, 0), (100, 5408)]))] (pl1 (C0.okE h10)) ?_
       obtain ⟨a11, h11, h⟩ := bind_some h
       rcases a11 with a11 | a11
       ·dsimp only at h
        refine qP L mixed 254 [] [] [] [0, 2, 3, 4] 5 (ef0 (.tup []) []) (ofi 49 a11) (pl2 (Ap.okE h11) (Ap.okE h11)) ?_
        cases h
        exact .inr ⟨.inr ⟨_, rfl⟩, _, rfl, rfl⟩
       ·obtain ⟨a11_0, a11_1⟩ := a11
        dsimp only at h
        obtain ⟨g2, h⟩ := guard_some h
        obtain ⟨g3, h⟩ := guard_some h
        refine hB L mixed 254 [] [] [(5, (ef0 (.agg (Ag a11_0)) [(0, .raw (Af a11_1))])), (9, { hids := [], fx := [], r := .tup [], H' := [], σ := [], fr := [5408] })] [0, 2, 3, 4] 6 (plc (Ap.okE h11) (plc g2 (plc trivial (plc g3 (plc trivial (plc (Ap.okE h11) (plc g2 (plc trivial (plc g3 (plc trivial (plc g2 (plc trivial (plc g3 (plc trivial (plc g2 (plc trivial (plc g3 (plc trivial (plc g3 (plc trivial (plc g3 (pl1 trivial)))))))))))))))))))))) (S' := ⟨[(0, .P 0), (2, .P 21500), (3, .P 21501)], [(0, .raw (Af a11_1)), (21500, .raw [.I 0, .str [], .I 0, .str [], .N]), (21501, .raw [.I 60, .str [], .I 0, .str [], .own .Ae 21502]), (21502, .lst .Ae ((x21502 ++ ([(⟨62, a8_0, 0, [], (a10_1 ++ ([(⟨a11_0.Op, a11_0.Name, a11_0.Int, a11_0.Text, a11_0.Kids⟩ : Aa)] : List Aa))⟩ : Aa)] : List Aa))))]⟩) ?_
        exact ⟨k, Nat.lt_succ_self k, _, _, _, rfl, h⟩
      ·obtain ⟨a10, rfl⟩ : ∃ z, z = a10 := ⟨_, rfl⟩
       dsimp only at h
       refine qn L 248 [] [] [] 3 (ef0 (.tup []) []) (ofi 49 a10) (pl1 (C0.okE h10)) ?_
       cases h
       exact .inr ⟨.inr ⟨_, rfl⟩, _, rfl, rfl⟩
     ·obtain ⟨a9, rfl⟩ : ∃ z, z = a9 := ⟨_, rfl⟩
      dsimp only at h
      refine qn L 245 [] [] [] 1 (ef0 (.tup []) []) (ofi 49 a9) (pl1 (Aq.okE h9)) ?_
      cases h
      exact .inr ⟨.inr ⟨_, rfl⟩, _, rfl, rfl⟩
   refine fN c3 <| awp_seq ?_
   obtain ⟨a12, h12, h⟩ := bind_some h
   rcases a12 with a12 | a12
   ·dsimp only at h
    refine rg L 268 [] [] [(1, (ef0 (.tup []) [(0, .raw (Af a12))]))] (pl1 (Aq.okE h12)) ?_
    obtain ⟨a13, h13, h⟩ := bind_some h
    rcases a13 with a13 | a13
    ·dsimp only at h
     refine qP L mixed 271 [] [] [] [0, 2] 3 (ef0 (.tup []) []) (ofi 49 a13) (pl2 (Cz.okE h13) (Cz.okE h13)) ?_
     cases h
     exact .inr ⟨.inr ⟨_, rfl⟩, _, rfl, rfl⟩
    ·obtain ⟨a13_0, a13_1⟩ := a13
     dsimp only at h
     obtain ⟨g4, h⟩ := guard_some h
     refine hB L mixed 271 [] [] [(3, (ef0 (.agg (Ag a13_0)) [(0, .raw (Af a13_1))]))] [0, 2] 3 (plc (Cz.okE h13) (plc g4 (plc trivial (plc (Cz.okE h13) (plc g4 (plc trivial (plc g4 (pl1 trivial)))))))) (S' := ⟨[(0, .P 0), (2, .P 21500), (3, .P 21501)], [(0, .raw (Af a13_1)), (21500, .raw [.I 0, .str [], .I 0, .str [], .N]), (21501, .raw [.I 60, .str [], .I 0, .str [], .own .Ae 21502]), (21502, .lst .Ae (x21502 ++ ([(⟨a13_0.Op, a13_0.Name, a13_0.Int, a13_0.Text, a13_0.Kids⟩ : Aa)] : List Aa)))]⟩) ?_
     exact ⟨k, Nat.lt_succ_self k, _, _, _, rfl, h⟩
   ·obtain ⟨a12, rfl⟩ : ∃ z, z = a12 := ⟨_, rfl⟩
    dsimp only at h
    refine qn L 268 [] [] [] 1 (ef0 (.tup []) []) (ofi 49 a12) (pl1 (Aq.okE h12)) ?_
    cases h
    exact .inr ⟨.inr ⟨_, rfl⟩, _, rfl, rfl⟩
  refine fF c1 <| awp_turn (Turns.trans (Turns.kk [2, 3] [0, 21500, 21501, 21502]) (Turns.rr [(0, 0), (21500, 21400), (21501, 21401), (21502, 21402)])) ?_
  refine ex (S' := ⟨[(2, .P 21400), (3, .P 21401)], [(0, .raw [.ro .Am xh0_0_7h, .I xh0_1_7h]), (21400, .raw [.I 0, .str [], .I 0, .str [], .N]), (21401, .raw [.I 60, .str [], .I 0, .str [], .own .Ae 21402]), (21402, .lst .Ae x21502)]⟩) ?_
  cases h
  exact .inl ⟨rfl, _, _, _, rfl, rfl⟩
 ·rintro e S (⟨rfl, xh0_0_7, xh0_1_7, x21402, rfl, rfl⟩ | ⟨he, a, rfl, hr⟩)
  ·rcases h with ⟨_, e1, h⟩ | ⟨_, e1, h⟩
   ·cases e1
   ·have e2 := Out.go.inj e1
    subst e2
    dsimp only at h
    refine ⟨_, Turns.refl, ?_⟩
    refine sg0 L 280 <| awp_turn (Turns.trans (Turns.kk [2] [0, 21400, 21402]) (Turns.trans (Turns.fz 21402) (Turns.rr [(0, 0), (21400, 100)]))) ?_
    refine awp_ret ?_
    cases h
    exact xr0
  ·rcases h with ⟨_, e1, h⟩ | ⟨_, e1, h⟩
   ·have e2 := Out.done.inj e1
    subst e2
    subst h
    rcases he with rfl | ⟨ch, rfl⟩
    ·exact ⟨_, Turns.refl, hr⟩
    ·exact ⟨_, Turns.refl, hr⟩
   ·cases e1
theorem B6.okE {K : Nat} {p0 : Ab} {r : Int ⊕ (Aa × Ab)} (h : B6 K p0 = some r) : XCall V P 26 [.P 0] [(0, .raw (Af p0))] [0] (B6.post p0 r) (B6.rep p0 r) :=
 xo (fn := Tryz.f26) (n := 64) (m := 100) fun Γ => B6.body h
def Ef (K : Nat) (p0 : List As) (p1 : Int) : Option (Int ⊕ (Aa × Int × Int)) := (Option.bind (B6 K (⟨p0, 0⟩ : Ab)) (fun a1 => match a1 with | (Sum.inl a1) => some (Sum.inl a1) | (Sum.inr (a1_0, a1_1)) => (Option.bind (Bx K a1_1) (fun a2 => (if a2.Kind ≠ 0 then (Option.bind (Bs K a1_1) (fun a3 => some (Sum.inl a3))) else (Option.bind (Di K a1_0) (fun a4 => (if a4 > 4000 then some (Sum.inr ((⟨0, [], 0, [], ([] : List Aa)⟩ : Aa), 0, 6)) else (Option.bind (Dh K a1_0) (fun a5 => (if a5 > 40 then some (Sum.inr ((⟨0, [], 0, [], ([] : List Aa)⟩ : Aa), 0, 7)) else some (Sum.inr (a1_0, 0, 0)))))))))))))
def Ef.rep (p0 : List As) (p1 : Int) : Int ⊕ (Aa × Int × Int) → Outc T
 | (Sum.inl v0) => .pan (ofi 49 v0)
 | (Sum.inr (v0, v1, v2)) => .ret (.tup [.agg [.I v0.Op, .str v0.Name, .I v0.Int, .str v0.Text, .ro .Ae v0.Kids], .I v1, .I v2])
theorem Ef.body {Γ : Ent} {K : Nat} {p0 : List As} {p1 : Int} {r : Int ⊕ (Aa × Int × Int)} (h : Ef K p0 p1 = some r) : AWp V P 44 93 Γ (codeY (codeY (codeY (codeY (Tryz.f25.body.getD .skip))))) (EndsR P V Tryz.f25 (Ef.rep p0 p1 r)) ⟨[(1, .cv (.fn (.func 26) [] [])), (4, .P 90), (5, .P 91), (6, .P 92), (7, .cv (.ro .Am p0))], [(90, .raw [.I 0, .str [], .I 0, .str [], .N]), (91, .raw [.I p1]), (92, .raw [.I 0])]⟩ := by
 unfold Ef at h
 refine sg0 L 200 <| awp_seq ?_
 obtain ⟨a1, h1, h⟩ := bind_some h
 rcases a1 with a1 | a1
 ·dsimp only at h
  refine pn L 205 [] [] [] 2 [4, 5, 6] [90, 91, 92] (ef [0] [0] (.tup []) [] [(0, 202)]) (ofi 49 a1) (cs := [XPan V P 26 [.P 0] [(0, .raw [.ro .Am p0, .I 0])] (ofi 49 a1)]) (S' := ⟨[(4, .P 90), (5, .P 91), (6, .P 92)], [(90, .raw [.I 0, .str [], .I 0, .str [], .N]), (91, .raw [.I p1]), (92, .raw [.I 0])]⟩) (B6.okE h1) ?_
  cases h
  exact (rp : EndsR P V Tryz.f25 (Ef.rep p0 p1 (Sum.inl a1)) _ _)
 ·obtain ⟨a1_0, a1_1⟩ := a1
  dsimp only at h
  refine rg L 205 [] [] [(2, (ef [0] [0] (.agg (Ag a1_0)) [(0, .raw (Af a1_1))] [(0, 202)]))] (pl1 (B6.okE h1)) ?_
  refine awp_seq <| awp_seq ?_
  obtain ⟨a2, h2, h⟩ := bind_some h
  refine rg L 210 [] [(1, .agg (Ea a2))] [] (plt (Bx.ok h2)) ?_
  rcases ite_some h with ⟨c1, h⟩ | ⟨c1, h⟩
  ·refine tT c1 ?_
   obtain ⟨a3, h3, h⟩ := bind_some h
   refine pn L 215 [] [] [] 1 [4, 5, 6] [90, 91, 92] (ef [0] [0] (.tup []) [] [(0, 202)]) (ofi 49 a3) (cs := [XPan V P 43 [.P 0] [(0, .raw (Af a1_1))] (ofi 49 a3)]) (S' := ⟨[(4, .P 90), (5, .P 91), (6, .P 92)], [(90, .raw (Ag a1_0)), (91, .raw [.I p1]), (92, .raw [.I 0])]⟩) (Bs.okE h3) ?_
   cases h
   exact (rp : EndsR P V Tryz.f25 (Ef.rep p0 p1 (Sum.inl a3)) _ _)
  refine fF c1 <| awp_skip' <| awp_seq <| awp_block <| awp_seq ?_
  obtain ⟨a4, h4, h⟩ := bind_some h
  refine rg L 218 [] [(1, .I a4)] [] (plt (Di.ok h4)) ?_
  rcases ite_some h with ⟨c2, h⟩ | ⟨c2, h⟩
  ·refine tT c2 <| sg0 L 223 <| awp_ret ?_
   cases h
   exact rr0
  refine fF c2 <| awp_seq ?_
  obtain ⟨a5, h5, h⟩ := bind_some h
  refine rg L 228 [] [(1, .I a5)] [] (plt (Dh.ok h5)) ?_
  rcases ite_some h with ⟨c3, h⟩ | ⟨c3, h⟩
  ·refine tT c3 <| sg0 L 233 <| awp_ret ?_
   cases h
   exact rr0
  refine fF c3 <| awp_skip' <| sg0 L 238 <| awp_ret ?_
  cases h
  exact rr0
def F1 : Int ⊕ (Aa × Int × Int) → Aa × Int × Int
 | (Sum.inl v0) => (Ay, v0, 29)
 | (Sum.inr (v0, v1, v2)) => (v0, v1, v2)
def Fo (K : Nat) (p0 : List UInt8) : Option (Aa × Int × Int) := Option.bind (E1 K p0) (fun (a1_0, a1_1, a1_2) => if a1_2 ≠ 0 then some (Ay, a1_1, a1_2) else Option.bind (Ef K a1_0 a1_1) (fun x => some (F1 x)))
theorem Fo.ok {K : Nat} {p0 : List UInt8} {r : Aa × Int × Int} (h : Fo K p0 = some r) : PCall V P 25 [.cv (.str p0), .cv (.fn (.func 26) [] [])] (.tup [.agg (Ag r.1), .I r.2.1, .I r.2.2]) := by
 unfold Fo at h
 obtain ⟨⟨l, at0, e0⟩, h1, h⟩ := bind_some h
 dsimp only at h
 by_cases he : e0 ≠ 0
 ·rw [if_pos he] at h
  obtain rfl := Option.some.inj h
  exact Gj (E1.ok h1) he
 ·rw [if_neg he] at h
  obtain ⟨x, h2, h⟩ := bind_some h
  obtain rfl := Option.some.inj h
  have he0 : e0 = 0 := Decidable.not_not.1 he
  subst he0
  refine Gh (o := Ef.rep l at0 x) (E1.ok h1) (fun Γ => Ef.body h2) ?_
  rcases x with v0 | ⟨v0, v1, v2⟩
  ·exact .inr ⟨v0, rfl, rfl⟩
  ·exact .inl rfl
def Fj (K : Nat) (p0 : List UInt8) : Option (Aa × Int × Int) := (Option.bind (Fo K p0) (fun (a1_0, a1_1, a1_2) => some (a1_0, a1_1, a1_2)))
theorem Fj.body {Γ : Ent} {K : Nat} {p0 : List UInt8} {r : Aa × Int × Int} (h : Fj K p0 = some r) : AWp V P 10 100 Γ (Tryz.f10.body.getD .skip) (EndsE P V Tryz.f10 (.tup [.agg [.I r.1.Op, .str r.1.Name, .I r.1.Int, .str r.1.Text, .ro .Ae r.1.Kids], .I r.2.1, .I r.2.2]) []) ⟨args0 0 [.cv (.str p0)], []⟩ := by
 unfold Fj at h
 refine sg0 L 200 <| awp_seq ?_
 obtain ⟨⟨a1_0, a1_1, a1_2⟩, h1, h⟩ := bind_some h
 dsimp only at h
 refine rg L 204 [] [(1, .tup [.agg (Ag a1_0), .I a1_1, .I a1_2])] [] (plt (Fo.ok h1)) ?_
 refine awp_turn (Turns.trans (Turns.kk [2, 3, 4] [200]) (Turns.rr [(200, 100)])) ?_
 refine awp_ret ?_
 cases h
 exact er0
theorem Fj.ok {K : Nat} {p0 : List UInt8} {r : Aa × Int × Int} (h : Fj K p0 = some r) : PCall V P 10 [.cv (.str p0)] (.tup [.agg [.I r.1.Op, .str r.1.Name, .I r.1.Int, .str r.1.Text, .ro .Ae r.1.Kids], .I r.2.1, .I r.2.2]) := ECall.pcall (eo (fn := Tryz.f10) (n := 10) (m := 100) fun Γ => Fj.body h) (by kernel_rfl)
structure Df where
 Bf : Aa → Aa → Option Bool
structure Df.Ok (R : Df) : Prop where
 Bf : ∀ {p0 : Aa} {p1 : Aa} {r : Bool}, R.Bf p0 p1 = some r → ECall V P 12 [.agg (Ag p0), .agg (Ag p1)] [] [] (.B r) []
theorem Bf.okR {R : Df} (hR : R.Ok) {p0 : Aa} {p1 : Aa} {r : Bool} (h : R.Bf p0 p1 = some r) : PCall V P 12 [.agg (Ag p0), .agg (Ag p1)] (.B r) := (hR.Bf h).pcall (by kernel_rfl)
def Bf.l15 (K : Nat) (R : Df) (p0 : Aa) (p1 : Aa) : Nat → Int → Option (Out Bool Unit)
 | 0, _ => none
 | k + 1, xt5_15h => (if xt5_15h < (p0.Kids.length : Int) then (if (0 : Int) ≤ xt5_15h ∧ (xt5_15h : Int) < (p0.Kids.length : Int) then (if (xt5_15h : Int) < (p1.Kids.length : Int) then (Option.bind (R.Bf (p0.Kids.getD (Int.toNat xt5_15h) Ay) (p1.Kids.getD (Int.toNat xt5_15h) Ay)) (fun a1 => (if a1 = true then Bf.l15 K R p0 p1 k (IntKind.i64.wrap (xt5_15h + 1)) else some (Out.done false)))) else none) else none) else some (Out.go ()))
def Bf.F (K : Nat) (R : Df) (p0 : Aa) (p1 : Aa) : Option Bool := (if p0.Op ≠ p1.Op then some false else (if p0.Name ≠ p1.Name then some false else (if p0.Int ≠ p1.Int then some false else (if p0.Text ≠ p1.Text then some false else (if (p0.Kids.length : Int) ≠ (p1.Kids.length : Int) then some false else (obind (Bf.l15 K R p0 p1 K 0 : Option (Out Bool Unit)) (fun r => r) (fun _ => some true)))))))
theorem Bf.body {Γ : Ent} {K : Nat} {R : Df} (hR : R.Ok) {p0 : Aa} {p1 : Aa} {r : Bool} (h : Bf.F K R p0 p1 = some r) : AWp V P 60 100 Γ (Tryz.f12.body.getD .skip) (EndsE P V Tryz.f12 (.B r) []) ⟨args0 0 [.agg (Ag p0), .agg (Ag p1)], []⟩ := by
 unfold Bf.F at h
 refine sg0 L 200 <| awp_seq <| awp_seq ?_
 rcases ite_some h with ⟨c1, h⟩ | ⟨c1, h⟩
 ·refine rg L 204 [(5, true)] [] [] (pl1 (decide_eq_true c1)) ?_
  refine tt (b := true) (rfl) ?_
  refine sg0 L 240 <| awp_ret ?_
  cases h
  exact er0
 rcases ite_some h with ⟨c2, h⟩ | ⟨c2, h⟩
 ·refine rg L 204 [(5, false), (12, true)] [] [] (pl2 (decide_eq_false c1) (decide_eq_true c2)) ?_
  refine tt (b := true) (rfl) ?_
  refine sg0 L 240 <| awp_ret ?_
  cases h
  exact er0
 rcases ite_some h with ⟨c3, h⟩ | ⟨c3, h⟩
 ·refine rg L 204 [(5, false), (12, false), (19, true)] [] [] (plc (decide_eq_false c1) (plc (decide_eq_false c2) (pl1 (decide_eq_true c3)))) ?_
  refine tt (b := true) (rfl) ?_
  refine sg0 L 240 <| awp_ret ?_
  cases h
  exact er0
 rcases ite_some h with ⟨c4, h⟩ | ⟨c4, h⟩
 ·refine rg L 204 [(5, false), (12, false), (19, false), (26, true)] [] [] (plc (decide_eq_false c1) (plc (decide_eq_false c2) (plc (decide_eq_false c3) (pl1 (decide_eq_true c4))))) ?_
  refine tt (b := true) (rfl) ?_
  refine sg0 L 240 <| awp_ret ?_
  cases h
  exact er0
 refine rg L 204 [(5, false), (12, false), (19, false), (26, false)] [] [] (plc (decide_eq_false c1) (plc (decide_eq_false c2) (plc (decide_eq_false c3) (pl1 (decide_eq_false c4))))) ?_
 rcases ite_some h with ⟨c5, h⟩ | ⟨c5, h⟩
 ·refine tT c5 <| sg0 L 240 <| awp_ret ?_
  cases h
  exact er0
 refine fF c5 <| awp_skip' <| awp_seq <| sg0 L 242 <| awp_block <| awp_turn (Turns.trans (Turns.kk [2, 3, 5] [200, 201]) (Turns.rr [(200, 23100), (201, 23101)])) ?_
 refine kp (S' := ⟨[(2, .P 23100), (3, .P 23101), (5, .I 0)], [(23100, .raw (Ag p0)), (23101, .raw (Ag p1))]⟩) ?_
 obtain ⟨o1, hp1, h⟩ := obind_some h
 refine awp_conseq (Q' := fun e S => (e = .exit 0 ∧ S = ⟨[], []⟩ ∧ Out.go () = o1) ∨ (e = .ret ∧ ∃ a, Out.done a = o1 ∧ EndsE P V Tryz.f12 (.B a) [] .ret S)) (awp_loop (fun k S => ∃ xt5_15h : Int, S = ⟨[(2, .P 23100), (3, .P 23101), (5, .I xt5_15h)], [(23100, .raw (Ag p0)), (23101, .raw (Ag p1))]⟩ ∧ Bf.l15 K R p0 p1 k xt5_15h = some o1) ?_ ⟨_, rfl, hp1⟩) ?_
 ·clear h hp1
  intro k S hS
  obtain ⟨xt5_15h, rfl, h⟩ := hS
  cases k with
  | zero => cases h
  | succ k =>
  unfold Bf.l15 at h
  refine awp_seq <| sg0 L 244 ?_
  rcases ite_some h with ⟨c6, h⟩ | ⟨c6, h⟩
  ·refine tT c6 <| awp_skip' <| awp_seq <| awp_block <| awp_seq ?_
   obtain ⟨g1, h⟩ := guard_some h
   obtain ⟨g2, h⟩ := guard_some h
   obtain ⟨a1, h1, h⟩ := bind_some h
   refine rd L mixed 250 [] [(10, .B a1)] [] [] 12 (plc g1.1 (plc g1.2 (plc g1.1 (plc g2 (plc (Bf.okR hR h1) (pl1 trivial)))))) ?_
   rcases ite_some h with ⟨c7, h⟩ | ⟨c7, h⟩
   ·refine ff (b := (!a1)) (congrArg Bool.not (c7)) ?_
    refine awp_skip' <| ar0 L 265 [] [] [] (S' := ⟨[(2, .P 23100), (3, .P 23101), (5, .I (IntKind.i64.wrap (xt5_15h + 1)))], [(23100, .raw (Ag p0)), (23101, .raw (Ag p1))]⟩) ?_
    exact ⟨k, Nat.lt_succ_self k, _, rfl, h⟩
   refine tt (b := (!a1)) (congrArg Bool.not (eq_false_of_ne_true c7)) ?_
   refine sg0 L 263 <| awp_ret ?_
   cases h
   exact .inr ⟨rfl, _, rfl, er0⟩
  refine fF c6 <| ex (S' := ⟨[], []⟩) ?_
  cases h
  exact .inl ⟨rfl, rfl, rfl⟩
 ·rintro e S (⟨rfl, rfl, rfl⟩ | ⟨rfl, a, rfl, hr⟩)
  ·rcases h with ⟨_, e1, h⟩ | ⟨_, e1, h⟩
   ·cases e1
   ·have e2 := Out.go.inj e1
    subst e2
    refine ⟨_, Turns.refl, ?_⟩
    refine sg0 L 269 <| awp_ret ?_
    cases h
    exact er0
  ·rcases h with ⟨_, e1, h⟩ | ⟨_, e1, h⟩
   ·have e2 := Out.done.inj e1
    subst e2
    subst h
    exact ⟨_, Turns.refl, hr⟩
   ·cases e1
def Df.upto (K : Nat) : Nat → Df
 | 0 => ⟨fun _ _ => none⟩
 | k + 1 => ⟨Bf.F K (Df.upto K k)⟩
theorem Df.upto_ok (K : Nat) : ∀ k, (Df.upto K k).Ok
 | 0 => ⟨fun h => (by cases h)⟩
 | k + 1 => ⟨fun {p0 p1 r} h => eo (fn := Tryz.f12) (n := 60) (m := 100) fun Γ => Bf.body (K := K) (Df.upto_ok K k) h⟩
def Bf (K : Nat) (p0 : Aa) (p1 : Aa) : Option Bool := (Df.upto K K).Bf p0 p1
theorem Bf.okE {K : Nat} {p0 : Aa} {p1 : Aa} {r : Bool} (h : Bf K p0 p1 = some r) : ECall V P 12 [.agg (Ag p0), .agg (Ag p1)] [] [] (.B r) [] := (Df.upto_ok K K).Bf h
theorem Bf.ok {K : Nat} {p0 : Aa} {p1 : Aa} {r : Bool} (h : Bf K p0 p1 = some r) : PCall V P 12 [.agg (Ag p0), .agg (Ag p1)] (.B r) := (Bf.okE h).pcall (by kernel_rfl)
def E8 (K : Nat) (p0 : Aa) : Option Bool := (Option.bind (Di K p0) (fun a1 => (if a1 ≤ 4000 then (Option.bind (Dh K p0) (fun a2 => some (decide (a2 ≤ 40)))) else some false)))
theorem E8.body {Γ : Ent} {K : Nat} {p0 : Aa} {r : Bool} (h : E8 K p0 = some r) : AWp V P 11 100 Γ (Tryz.f28.body.getD .skip) (EndsE P V Tryz.f28 (.B r) []) ⟨args0 0 [.agg (Ag p0)], []⟩ := by
 unfold E8 at h
 refine sg0 L 200 <| awp_seq ?_
 obtain ⟨a1, h1, h⟩ := bind_some h
 rcases ite_some h with ⟨c1, h⟩ | ⟨c1, h⟩
 ·obtain ⟨a2, h2, h⟩ := bind_some h
  refine rg L 203 [(3, true)] [(1, .I a1), (5, .I a2)] [] (plc (Di.ok h1) (plc trivial (plc (decide_eq_true c1) (plc (Dh.ok h2) (pl1 trivial))))) ?_
  refine awp_ret ?_
  cases h
  exact er0
 refine rg L 203 [(3, false)] [(1, .I a1)] [] (plc (Di.ok h1) (plc trivial (pl1 (decide_eq_false c1)))) ?_
 refine awp_ret ?_
 cases h
 exact er0
theorem E8.ok {K : Nat} {p0 : Aa} {r : Bool} (h : E8 K p0 = some r) : PCall V P 28 [.agg (Ag p0)] (.B r) := ECall.pcall (eo (fn := Tryz.f28) (n := 11) (m := 100) fun Γ => E8.body h) (by kernel_rfl)
def Az (K : Nat) (p0 : Aa) (p1 : Bool) (p2 : Bool) (p3 : Bool) : Option Bool := (if p1 = true then (if p2 = true then (if p3 = true then some true else some (decide (p0.Int = 0))) else (if p0.Text = ([] : List UInt8) then (if p3 = true then some true else some (decide (p0.Int = 0))) else some false)) else (if p0.Name = ([] : List UInt8) then (if p2 = true then (if p3 = true then some true else some (decide (p0.Int = 0))) else (if p0.Text = ([] : List UInt8) then (if p3 = true then some true else some (decide (p0.Int = 0))) else some false)) else some false))
theorem Az.body {Γ : Ent} {K : Nat} {p0 : Aa} {p1 : Bool} {p2 : Bool} {p3 : Bool} {r : Bool} (h : Az K p0 p1 p2 p3 = some r) : AWp V P 31 100 Γ (Tryz.f29.body.getD .skip) (EndsE P V Tryz.f29 (.B r) []) ⟨args0 0 [.agg (Ag p0), .B p1, .B p2, .B p3], []⟩ := by
 unfold Az at h
 refine sg0 L 200 <| awp_seq ?_
 rcases ite_some h with ⟨c1, h⟩ | ⟨c1, h⟩
 ·rcases ite_some h with ⟨c2, h⟩ | ⟨c2, h⟩
  ·rcases ite_some h with ⟨c3, h⟩ | ⟨c3, h⟩
   ·refine rg L 203 [(1, true), (8, true), (16, true)] [] [] (plc c1 (plc c2 (pl1 c3))) ?_
    refine awp_ret ?_
    cases h
    exact er0
   refine rg L 203 [(1, true), (8, true), (16, false)] [] [] (plc c1 (plc c2 (pl1 (eq_false_of_ne_true c3)))) ?_
   refine awp_ret ?_
   cases h
   exact er0
  rcases ite_some h with ⟨c4, h⟩ | ⟨c4, h⟩
  ·rcases ite_some h with ⟨c5, h⟩ | ⟨c5, h⟩
   ·refine rg L 203 [(1, true), (8, false), (14, true), (16, true)] [] [] (plc c1 (plc (eq_false_of_ne_true c2) (plc (decide_eq_true c4) (pl1 c5)))) ?_
    refine awp_ret ?_
    cases h
    exact er0
   refine rg L 203 [(1, true), (8, false), (14, true), (16, false)] [] [] (plc c1 (plc (eq_false_of_ne_true c2) (plc (decide_eq_true c4) (pl1 (eq_false_of_ne_true c5))))) ?_
   refine awp_ret ?_
   cases h
   exact er0
  refine rg L 203 [(1, true), (8, false), (14, false)] [] [] (plc c1 (plc (eq_false_of_ne_true c2) (pl1 (decide_eq_false c4)))) ?_
  refine awp_ret ?_
  cases h
  exact er0
 rcases ite_some h with ⟨c6, h⟩ | ⟨c6, h⟩
 ·rcases ite_some h with ⟨c7, h⟩ | ⟨c7, h⟩
  ·rcases ite_some h with ⟨c8, h⟩ | ⟨c8, h⟩
   ·refine rg L 203 [(1, false), (6, true), (8, true), (16, true)] [] [] (plc (eq_false_of_ne_true c1) (plc (decide_eq_true c6) (plc c7 (pl1 c8)))) ?_
    refine awp_ret ?_
    cases h
    exact er0
   refine rg L 203 [(1, false), (6, true), (8, true), (16, false)] [] [] (plc (eq_false_of_ne_true c1) (plc (decide_eq_true c6) (plc c7 (pl1 (eq_false_of_ne_true c8))))) ?_
   refine awp_ret ?_
   cases h
   exact er0
  rcases ite_some h with ⟨c9, h⟩ | ⟨c9, h⟩
  ·rcases ite_some h with ⟨c10, h⟩ | ⟨c10, h⟩
   ·refine rg L 203 [(1, false), (6, true), (8, false), (14, true), (16, true)] [] [] (plc (eq_false_of_ne_true c1) (plc (decide_eq_true c6) (plc (eq_false_of_ne_true c7) (plc (decide_eq_true c9) (pl1 c10))))) ?_
    refine awp_ret ?_
    cases h
    exact er0
   refine rg L 203 [(1, false), (6, true), (8, false), (14, true), (16, false)] [] [] (plc (eq_false_of_ne_true c1) (plc (decide_eq_true c6) (plc (eq_false_of_ne_true c7) (plc (decide_eq_true c9) (pl1 (eq_false_of_ne_true c10)))))) ?_
   refine awp_ret ?_
   cases h
   exact er0
  refine rg L 203 [(1, false), (6, true), (8, false), (14, false)] [] [] (plc (eq_false_of_ne_true c1) (plc (decide_eq_true c6) (plc (eq_false_of_ne_true c7) (pl1 (decide_eq_false c9))))) ?_
  refine awp_ret ?_
  cases h
  exact er0
 refine rg L 203 [(1, false), (6, false)] [] [] (pl2 (eq_false_of_ne_true c1) (decide_eq_false c6)) ?_
 refine awp_ret ?_
 cases h
 exact er0
theorem Az.ok {K : Nat} {p0 : Aa} {p1 : Bool} {p2 : Bool} {p3 : Bool} {r : Bool} (h : Az K p0 p1 p2 p3 = some r) : PCall V P 29 [.agg (Ag p0), .B p1, .B p2, .B p3] (.B r) := ECall.pcall (eo (fn := Tryz.f29) (n := 31) (m := 100) fun Γ => Az.body h) (by kernel_rfl)
def Bv.l15 (K : Nat) (p0 : List UInt8) : Nat → Int → Option (Out Bool Unit)
 | 0, _ => none
 | k + 1, xt29_15h => (if xt29_15h < (p0.length : Int) then (if (0 : Int) ≤ xt29_15h ∧ (xt29_15h : Int) < (p0.length : Int) then (if ((p0.getD (Int.toNat xt29_15h) 0).toNat : Int) ≥ 97 then (if ((p0.getD (Int.toNat xt29_15h) 0).toNat : Int) ≤ 122 then Bv.l15 K p0 k (IntKind.i64.wrap (xt29_15h + 1)) else (if ((p0.getD (Int.toNat xt29_15h) 0).toNat : Int) ≥ 65 then (if ((p0.getD (Int.toNat xt29_15h) 0).toNat : Int) ≤ 90 then Bv.l15 K p0 k (IntKind.i64.wrap (xt29_15h + 1)) else (if ((p0.getD (Int.toNat xt29_15h) 0).toNat : Int) ≥ 48 then (if ((p0.getD (Int.toNat xt29_15h) 0).toNat : Int) ≤ 57 then Bv.l15 K p0 k (IntKind.i64.wrap (xt29_15h + 1)) else (if ((p0.getD (Int.toNat xt29_15h) 0).toNat : Int) = 95 then Bv.l15 K p0 k (IntKind.i64.wrap (xt29_15h + 1)) else some (Out.done false))) else (if ((p0.getD (Int.toNat xt29_15h) 0).toNat : Int) = 95 then Bv.l15 K p0 k (IntKind.i64.wrap (xt29_15h + 1)) else some (Out.done false)))) else (if ((p0.getD (Int.toNat xt29_15h) 0).toNat : Int) ≥ 48 then (if ((p0.getD (Int.toNat xt29_15h) 0).toNat : Int) ≤ 57 then Bv.l15 K p0 k (IntKind.i64.wrap (xt29_15h + 1)) else (if ((p0.getD (Int.toNat xt29_15h) 0).toNat : Int) = 95 then Bv.l15 K p0 k (IntKind.i64.wrap (xt29_15h + 1)) else some (Out.done false))) else (if ((p0.getD (Int.toNat xt29_15h) 0).toNat : Int) = 95 then Bv.l15 K p0 k (IntKind.i64.wrap (xt29_15h + 1)) else some (Out.done false))))) else (if ((p0.getD (Int.toNat xt29_15h) 0).toNat : Int) ≥ 65 then (if ((p0.getD (Int.toNat xt29_15h) 0).toNat : Int) ≤ 90 then Bv.l15 K p0 k (IntKind.i64.wrap (xt29_15h + 1)) else (if ((p0.getD (Int.toNat xt29_15h) 0).toNat : Int) ≥ 48 then (if ((p0.getD (Int.toNat xt29_15h) 0).toNat : Int) ≤ 57 then Bv.l15 K p0 k (IntKind.i64.wrap (xt29_15h + 1)) else (if ((p0.getD (Int.toNat xt29_15h) 0).toNat : Int) = 95 then Bv.l15 K p0 k (IntKind.i64.wrap (xt29_15h + 1)) else some (Out.done false))) else (if ((p0.getD (Int.toNat xt29_15h) 0).toNat : Int) = 95 then Bv.l15 K p0 k (IntKind.i64.wrap (xt29_15h + 1)) else some (Out.done false)))) else (if ((p0.getD (Int.toNat xt29_15h) 0).toNat : Int) ≥ 48 then (if ((p0.getD (Int.toNat xt29_15h) 0).toNat : Int) ≤ 57 then Bv.l15 K p0 k (IntKind.i64.wrap (xt29_15h + 1)) else (if ((p0.getD (Int.toNat xt29_15h) 0).toNat : Int) = 95 then Bv.l15 K p0 k (IntKind.i64.wrap (xt29_15h + 1)) else some (Out.done false))) else (if ((p0.getD (Int.toNat xt29_15h) 0).toNat : Int) = 95 then Bv.l15 K p0 k (IntKind.i64.wrap (xt29_15h + 1)) else some (Out.done false))))) else none) else some (Out.go ()))
def Bv (K : Nat) (p0 : List UInt8) : Option Bool := (obind (((if (p0.length : Int) < 1 then some (Out.done false) else (if (p0.length : Int) > 64 then some (Out.done false) else (Option.bind (E2 K p0) (fun a1 => (if a1 = true then some (Out.done false) else (if (0 : Int) < (p0.length : Int) then (if ((p0.getD (Int.toNat 0) 0).toNat : Int) ≥ 48 then (if ((p0.getD (Int.toNat 0) 0).toNat : Int) ≤ 57 then some (Out.done false) else some (Out.go ())) else some (Out.go ())) else none))))))) : Option (Out Bool Unit)) (fun r => r) (fun _ => (obind (Bv.l15 K p0 K 0 : Option (Out Bool Unit)) (fun r => r) (fun _ => some true))))
theorem Bv.body {Γ : Ent} {K : Nat} {p0 : List UInt8} {r : Bool} (h : Bv K p0 = some r) : AWp V P 63 100 Γ (Tryz.f58.body.getD .skip) (EndsE P V Tryz.f58 (.B r) []) ⟨args0 0 [.cv (.str p0)], []⟩ := by
 unfold Bv at h
 refine sg0 L 200 ?_
 obtain ⟨o1, hp1, h⟩ := obind_some h
 refine awp_seq (awp_mono (Q' := fun e S => (e = .normal ∧ S = ⟨[(0, .cv (.str p0))], []⟩ ∧ Out.go () = o1) ∨ (e = .ret ∧ ∃ a, Out.done a = o1 ∧ EndsE P V Tryz.f58 (.B a) [] .ret S)) ?_ ?_)
 ·clear h
  replace h := hp1
  refine awp_seq ?_
  rcases ite_some h with ⟨c1, h⟩ | ⟨c1, h⟩
  ·refine rg L 202 [(3, true)] [] [] (pl1 (decide_eq_true c1)) ?_
   refine tt (b := true) (rfl) ?_
   refine sg0 L 225 <| awp_ret ?_
   cases h
   exact .inr ⟨rfl, _, rfl, er0⟩
  rcases ite_some h with ⟨c2, h⟩ | ⟨c2, h⟩
  ·refine rg L 202 [(3, false), (8, true)] [] [] (pl2 (decide_eq_false c1) (decide_eq_true c2)) ?_
   refine tt (b := true) (rfl) ?_
   refine sg0 L 225 <| awp_ret ?_
   cases h
   exact .inr ⟨rfl, _, rfl, er0⟩
  obtain ⟨a1, h1, h⟩ := bind_some h
  rcases ite_some h with ⟨c3, h⟩ | ⟨c3, h⟩
  ·refine rg L 202 [(3, false), (8, false), (12, true)] [(10, .B a1)] [] (plc (decide_eq_false c1) (plc (decide_eq_false c2) (plc (E2.ok h1) (plc trivial (pl1 c3))))) ?_
   refine tt (b := true) (rfl) ?_
   refine sg0 L 225 <| awp_ret ?_
   cases h
   exact .inr ⟨rfl, _, rfl, er0⟩
  obtain ⟨g1, h⟩ := guard_some h
  rcases ite_some h with ⟨c4, h⟩ | ⟨c4, h⟩
  ·refine rg L 202 [(3, false), (8, false), (12, false), (16, true)] [(10, .B a1)] [] (plc (decide_eq_false c1) (plc (decide_eq_false c2) (plc (E2.ok h1) (plc trivial (plc (eq_false_of_ne_true c3) (plc (show (0 : Int) ≤ 0 from by decide) (plc g1 (plc (decide_eq_true c4) (plc (show (0 : Int) ≤ 0 from by decide) (pl1 g1)))))))))) ?_
   rcases ite_some h with ⟨c5, h⟩ | ⟨c5, h⟩
   ·refine tT c5 <| sg0 L 225 <| awp_ret ?_
    cases h
    exact .inr ⟨rfl, _, rfl, er0⟩
   refine fF c5 <| sk (S' := ⟨[(0, .cv (.str p0))], []⟩) ?_
   cases h
   exact .inl ⟨rfl, rfl, rfl⟩
  refine rg L 202 [(3, false), (8, false), (12, false), (16, false)] [(10, .B a1)] [] (plc (decide_eq_false c1) (plc (decide_eq_false c2) (plc (E2.ok h1) (plc trivial (plc (eq_false_of_ne_true c3) (plc (show (0 : Int) ≤ 0 from by decide) (plc g1 (pl1 (decide_eq_false c4))))))))) ?_
  refine ff (b := false) (rfl) ?_
  refine sk (S' := ⟨[(0, .cv (.str p0))], []⟩) ?_
  cases h
  exact .inl ⟨rfl, rfl, rfl⟩
 ·rintro e S (⟨rfl, rfl, rfl⟩ | ⟨rfl, a, rfl, hr⟩)
  ·rcases h with ⟨_, e1, h⟩ | ⟨_, e1, h⟩
   ·cases e1
   ·have e2 := Out.go.inj e1
    subst e2
    refine awp_seq <| sg0 L 227 <| awp_block <| kp (S' := ⟨[(0, .cv (.str p0)), (28, .I (p0.length : Int)), (29, .I 0)], []⟩) ?_
    obtain ⟨o2, hp2, h⟩ := obind_some h
    refine awp_conseq (Q' := fun e S => (e = .exit 0 ∧ S = ⟨[], []⟩ ∧ Out.go () = o2) ∨ (e = .ret ∧ ∃ a, Out.done a = o2 ∧ EndsE P V Tryz.f58 (.B a) [] .ret S)) (awp_loop (fun k S => ∃ xt29_15h : Int, S = ⟨[(0, .cv (.str p0)), (28, .I (p0.length : Int)), (29, .I xt29_15h)], []⟩ ∧ Bv.l15 K p0 k xt29_15h = some o2) ?_ ⟨_, rfl, hp2⟩) ?_
    ·clear h hp2
     intro k S hS
     obtain ⟨xt29_15h, rfl, h⟩ := hS
     cases k with
     | zero => cases h
     | succ k =>
     unfold Bv.l15 at h
     refine sg0 L 231 <| awp_seq ?_
     rcases ite_some h with ⟨c6, h⟩ | ⟨c6, h⟩
     ·refine tT c6 <| awp_skip' <| awp_seq <| awp_block <| sg0 L 233 <| awp_seq ?_
      obtain ⟨g2, h⟩ := guard_some h
      refine rg L 236 [] [] [] (pl2 g2.1 g2.2) ?_
      refine awp_seq ?_
      rcases ite_some h with ⟨c7, h⟩ | ⟨c7, h⟩
      ·rcases ite_some h with ⟨c8, h⟩ | ⟨c8, h⟩
       ·refine rg L 241 [(2, true), (6, true)] [] [] (pl2 (decide_eq_true c7) (decide_eq_true c8)) ?_
        refine ff (b := false) (rfl) ?_
        refine awp_skip' <| ar0 L 271 [] [] [] (S' := ⟨[(0, .cv (.str p0)), (28, .I (p0.length : Int)), (29, .I (IntKind.i64.wrap (xt29_15h + 1)))], []⟩) ?_
        exact ⟨k, Nat.lt_succ_self k, _, rfl, h⟩
       rcases ite_some h with ⟨c9, h⟩ | ⟨c9, h⟩
       ·rcases ite_some h with ⟨c10, h⟩ | ⟨c10, h⟩
        ·refine rg L 241 [(2, true), (6, false), (9, true), (14, true)] [] [] (plc (decide_eq_true c7) (plc (decide_eq_false c8) (plc (decide_eq_true c9) (pl1 (decide_eq_true c10))))) ?_
         refine ff (b := false) (rfl) ?_
         refine awp_skip' <| ar0 L 271 [] [] [] (S' := ⟨[(0, .cv (.str p0)), (28, .I (p0.length : Int)), (29, .I (IntKind.i64.wrap (xt29_15h + 1)))], []⟩) ?_
         exact ⟨k, Nat.lt_succ_self k, _, rfl, h⟩
        rcases ite_some h with ⟨c11, h⟩ | ⟨c11, h⟩
        ·rcases ite_some h with ⟨c12, h⟩ | ⟨c12, h⟩
         ·refine rg L 241 [(2, true), (6, false), (9, true), (14, false), (17, true), (22, true)] [] [] (plc (decide_eq_true c7) (plc (decide_eq_false c8) (plc (decide_eq_true c9) (plc (decide_eq_false c10) (plc (decide_eq_true c11) (pl1 (decide_eq_true c12))))))) ?_
          refine ff (b := false) (rfl) ?_
          refine awp_skip' <| ar0 L 271 [] [] [] (S' := ⟨[(0, .cv (.str p0)), (28, .I (p0.length : Int)), (29, .I (IntKind.i64.wrap (xt29_15h + 1)))], []⟩) ?_
          exact ⟨k, Nat.lt_succ_self k, _, rfl, h⟩
         refine rg L 241 [(2, true), (6, false), (9, true), (14, false), (17, true), (22, false)] [] [] (plc (decide_eq_true c7) (plc (decide_eq_false c8) (plc (decide_eq_true c9) (plc (decide_eq_false c10) (plc (decide_eq_true c11) (pl1 (decide_eq_false c12))))))) ?_
         rcases ite_some h with ⟨c13, h⟩ | ⟨c13, h⟩
         ·refine ff (b := (!(decide (((p0.getD (Int.toNat xt29_15h) 0).toNat : Int) = 95)))) (congrArg Bool.not (decide_eq_true c13)) ?_
          refine awp_skip' <| ar0 L 271 [] [] [] (S' := ⟨[(0, .cv (.str p0)), (28, .I (p0.length : Int)), (29, .I (IntKind.i64.wrap (xt29_15h + 1)))], []⟩) ?_
          exact ⟨k, Nat.lt_succ_self k, _, rfl, h⟩
         refine tt (b := (!(decide (((p0.getD (Int.toNat xt29_15h) 0).toNat : Int) = 95)))) (congrArg Bool.not (decide_eq_false c13)) ?_
         refine sg0 L 269 <| awp_ret ?_
         cases h
         exact .inr ⟨rfl, _, rfl, er0⟩
        refine rg L 241 [(2, true), (6, false), (9, true), (14, false), (17, false)] [] [] (plc (decide_eq_true c7) (plc (decide_eq_false c8) (plc (decide_eq_true c9) (plc (decide_eq_false c10) (pl1 (decide_eq_false c11)))))) ?_
        rcases ite_some h with ⟨c14, h⟩ | ⟨c14, h⟩
        ·refine ff (b := (!(decide (((p0.getD (Int.toNat xt29_15h) 0).toNat : Int) = 95)))) (congrArg Bool.not (decide_eq_true c14)) ?_
         refine awp_skip' <| ar0 L 271 [] [] [] (S' := ⟨[(0, .cv (.str p0)), (28, .I (p0.length : Int)), (29, .I (IntKind.i64.wrap (xt29_15h + 1)))], []⟩) ?_
         exact ⟨k, Nat.lt_succ_self k, _, rfl, h⟩
        refine tt (b := (!(decide (((p0.getD (Int.toNat xt29_15h) 0).toNat : Int) = 95)))) (congrArg Bool.not (decide_eq_false c14)) ?_
        refine sg0 L 269 <| awp_ret ?_
        cases h
        exact .inr ⟨rfl, _, rfl, er0⟩
       rcases ite_some h with ⟨c15, h⟩ | ⟨c15, h⟩
       ·rcases ite_some h with ⟨c16, h⟩ | ⟨c16, h⟩
        ·refine rg L 241 [(2, true), (6, false), (9, false), (17, true), (22, true)] [] [] (plc (decide_eq_true c7) (plc (decide_eq_false c8) (plc (decide_eq_false c9) (plc (decide_eq_true c15) (pl1 (decide_eq_true c16)))))) ?_
         refine ff (b := false) (rfl) ?_
         refine awp_skip' <| ar0 L 271 [] [] [] (S' := ⟨[(0, .cv (.str p0)), (28, .I (p0.length : Int)), (29, .I (IntKind.i64.wrap (xt29_15h + 1)))], []⟩) ?_
         exact ⟨k, Nat.lt_succ_self k, _, rfl, h⟩
        refine rg L 241 [(2, true), (6, false), (9, false), (17, true), (22, false)] [] [] (plc (decide_eq_true c7) (plc (decide_eq_false c8) (plc (decide_eq_false c9) (plc (decide_eq_true c15) (pl1 (decide_eq_false c16)))))) ?_
        rcases ite_some h with ⟨c17, h⟩ | ⟨c17, h⟩
        ·refine ff (b := (!(decide (((p0.getD (Int.toNat xt29_15h) 0).toNat : Int) = 95)))) (congrArg Bool.not (decide_eq_true c17)) ?_
         refine awp_skip' <| ar0 L 271 [] [] [] (S' := ⟨[(0, .cv (.str p0)), (28, .I (p0.length : Int)), (29, .I (IntKind.i64.wrap (xt29_15h + 1)))], []⟩) ?_
         exact ⟨k, Nat.lt_succ_self k, _, rfl, h⟩
        refine tt (b := (!(decide (((p0.getD (Int.toNat xt29_15h) 0).toNat : Int) = 95)))) (congrArg Bool.not (decide_eq_false c17)) ?_
        refine sg0 L 269 <| awp_ret ?_
        cases h
        exact .inr ⟨rfl, _, rfl, er0⟩
       refine rg L 241 [(2, true), (6, false), (9, false), (17, false)] [] [] (plc (decide_eq_true c7) (plc (decide_eq_false c8) (plc (decide_eq_false c9) (pl1 (decide_eq_false c15))))) ?_
       rcases ite_some h with ⟨c18, h⟩ | ⟨c18, h⟩
       ·refine ff (b := (!(decide (((p0.getD (Int.toNat xt29_15h) 0).toNat : Int) = 95)))) (congrArg Bool.not (decide_eq_true c18)) ?_
        refine awp_skip' <| ar0 L 271 [] [] [] (S' := ⟨[(0, .cv (.str p0)), (28, .I (p0.length : Int)), (29, .I (IntKind.i64.wrap (xt29_15h + 1)))], []⟩) ?_
        exact ⟨k, Nat.lt_succ_self k, _, rfl, h⟩
       refine tt (b := (!(decide (((p0.getD (Int.toNat xt29_15h) 0).toNat : Int) = 95)))) (congrArg Bool.not (decide_eq_false c18)) ?_
       refine sg0 L 269 <| awp_ret ?_
       cases h
       exact .inr ⟨rfl, _, rfl, er0⟩
      rcases ite_some h with ⟨c19, h⟩ | ⟨c19, h⟩
      ·rcases ite_some h with ⟨c20, h⟩ | ⟨c20, h⟩
       ·refine rg L 241 [(2, false), (9, true), (14, true)] [] [] (plc (decide_eq_false c7) (plc (decide_eq_true c19) (pl1 (decide_eq_true c20)))) ?_
        refine ff (b := false) (rfl) ?_
        refine awp_skip' <| ar0 L 271 [] [] [] (S' := ⟨[(0, .cv (.str p0)), (28, .I (p0.length : Int)), (29, .I (IntKind.i64.wrap (xt29_15h + 1)))], []⟩) ?_
        exact ⟨k, Nat.lt_succ_self k, _, rfl, h⟩
       rcases ite_some h with ⟨c21, h⟩ | ⟨c21, h⟩
       ·rcases ite_some h with ⟨c22, h⟩ | ⟨c22, h⟩
        ·refine rg L 241 [(2, false), (9, true), (14, false), (17, true), (22, true)] [] [] (plc (decide_eq_false c7) (plc (decide_eq_true c19) (plc (decide_eq_false c20) (plc (decide_eq_true c21) (pl1 (decide_eq_true c22)))))) ?_
         refine ff (b := false) (rfl) ?_
         refine awp_skip' <| ar0 L 271 [] [] [] (S' := ⟨[(0, .cv (.str p0)), (28, .I (p0.length : Int)), (29, .I (IntKind.i64.wrap (xt29_15h + 1)))], []⟩) ?_
         exact ⟨k, Nat.lt_succ_self k, _, rfl, h⟩
        refine rg L 241 [(2, false), (9, true), (14, false), (17, true), (22, false)] [] [] (plc (decide_eq_false c7) (plc (decide_eq_true c19) (plc (decide_eq_false c20) (plc (decide_eq_true c21) (pl1 (decide_eq_false c22)))))) ?_
        rcases ite_some h with ⟨c23, h⟩ | ⟨c23, h⟩
        ·refine ff (b := (!(decide (((p0.getD (Int.toNat xt29_15h) 0).toNat : Int) = 95)))) (congrArg Bool.not (decide_eq_true c23)) ?_
         refine awp_skip' <| ar0 L 271 [] [] [] (S' := ⟨[(0, .cv (.str p0)), (28, .I (p0.length : Int)), (29, .I (IntKind.i64.wrap (xt29_15h + 1)))], []⟩) ?_
         exact ⟨k, Nat.lt_succ_self k, _, rfl, h⟩
        refine tt (b := (!(decide (((p0.getD (Int.toNat xt29_15h) 0).toNat : Int) = 95)))) (congrArg Bool.not (decide_eq_false c23)) ?_
        refine sg0 L 269 <| awp_ret ?_
        cases h
        exact .inr ⟨rfl, _, rfl, er0⟩
       refine rg L 241 [(2, false), (9, true), (14, false), (17, false)] [] [] (plc (decide_eq_false c7) (plc (decide_eq_true c19) (plc (decide_eq_false c20) (pl1 (decide_eq_false c21))))) ?_
       rcases ite_some h with ⟨c24, h⟩ | ⟨c24, h⟩
       ·refine ff (b := (!(decide (((p0.getD (Int.toNat xt29_15h) 0).toNat : Int) = 95)))) (congrArg Bool.not (decide_eq_true c24)) ?_
        refine awp_skip' <| ar0 L 271 [] [] [] (S' := ⟨[(0, .cv (.str p0)), (28, .I (p0.length : Int)), (29, .I (IntKind.i64.wrap (xt29_15h + 1)))], []⟩) ?_
        exact ⟨k, Nat.lt_succ_self k, _, rfl, h⟩
       refine tt (b := (!(decide (((p0.getD (Int.toNat xt29_15h) 0).toNat : Int) = 95)))) (congrArg Bool.not (decide_eq_false c24)) ?_
       refine sg0 L 269 <| awp_ret ?_
       cases h
       exact .inr ⟨rfl, _, rfl, er0⟩
      rcases ite_some h with ⟨c25, h⟩ | ⟨c25, h⟩
      ·rcases ite_some h with ⟨c26, h⟩ | ⟨c26, h⟩
       ·refine rg L 241 [(2, false), (9, false), (17, true), (22, true)] [] [] (plc (decide_eq_false c7) (plc (decide_eq_false c19) (plc (decide_eq_true c25) (pl1 (decide_eq_true c26))))) ?_
        refine ff (b := false) (rfl) ?_
        refine awp_skip' <| ar0 L 271 [] [] [] (S' := ⟨[(0, .cv (.str p0)), (28, .I (p0.length : Int)), (29, .I (IntKind.i64.wrap (xt29_15h + 1)))], []⟩) ?_
        exact ⟨k, Nat.lt_succ_self k, _, rfl, h⟩
       refine rg L 241 [(2, false), (9, false), (17, true), (22, false)] [] [] (plc (decide_eq_false c7) (plc (decide_eq_false c19) (plc (decide_eq_true c25) (pl1 (decide_eq_false c26))))) ?_
       rcases ite_some h with ⟨c27, h⟩ | ⟨c27, h⟩
       ·refine ff (b := (!(decide (((p0.getD (Int.toNat xt29_15h) 0).toNat : Int) = 95)))) (congrArg Bool.not (decide_eq_true c27)) ?_
        refine awp_skip' <| ar0 L 271 [] [] [] (S' := ⟨[(0, .cv (.str p0)), (28, .I (p0.length : Int)), (29, .I (IntKind.i64.wrap (xt29_15h + 1)))], []⟩) ?_
        exact ⟨k, Nat.lt_succ_self k, _, rfl, h⟩
       refine tt (b := (!(decide (((p0.getD (Int.toNat xt29_15h) 0).toNat : Int) = 95)))) (congrArg Bool.not (decide_eq_false c27)) ?_
       refine sg0 L 269 <| awp_ret ?_
       cases h
       exact .inr ⟨rfl, _, rfl, er0⟩
      refine rg L 241 [(2, false), (9, false), (17, false)] [] [] (plc (decide_eq_false c7) (plc (decide_eq_false c19) (pl1 (decide_eq_false c25)))) ?_
      rcases ite_some h with ⟨c28, h⟩ | ⟨c28, h⟩
      ·refine ff (b := (!(decide (((p0.getD (Int.toNat xt29_15h) 0).toNat : Int) = 95)))) (congrArg Bool.not (decide_eq_true c28)) ?_
       refine awp_skip' <| ar0 L 271 [] [] [] (S' := ⟨[(0, .cv (.str p0)), (28, .I (p0.length : Int)), (29, .I (IntKind.i64.wrap (xt29_15h + 1)))], []⟩) ?_
       exact ⟨k, Nat.lt_succ_self k, _, rfl, h⟩
      refine tt (b := (!(decide (((p0.getD (Int.toNat xt29_15h) 0).toNat : Int) = 95)))) (congrArg Bool.not (decide_eq_false c28)) ?_
      refine sg0 L 269 <| awp_ret ?_
      cases h
      exact .inr ⟨rfl, _, rfl, er0⟩
     refine fF c6 <| ex (S' := ⟨[], []⟩) ?_
     cases h
     exact .inl ⟨rfl, rfl, rfl⟩
    ·rintro e S (⟨rfl, rfl, rfl⟩ | ⟨rfl, a, rfl, hr⟩)
     ·rcases h with ⟨_, e1, h⟩ | ⟨_, e1, h⟩
      ·cases e1
      ·have e2 := Out.go.inj e1
       subst e2
       refine ⟨_, Turns.refl, ?_⟩
       refine sg0 L 274 <| awp_ret ?_
       cases h
       exact er0
     ·rcases h with ⟨_, e1, h⟩ | ⟨_, e1, h⟩
      ·have e2 := Out.done.inj e1
       subst e2
       subst h
       exact ⟨_, Turns.refl, hr⟩
      ·cases e1
  ·rcases h with ⟨_, e1, h⟩ | ⟨_, e1, h⟩
   ·have e2 := Out.done.inj e1
    subst e2
    subst h
    exact hr
   ·cases e1
theorem Bv.ok {K : Nat} {p0 : List UInt8} {r : Bool} (h : Bv K p0 = some r) : PCall V P 58 [.cv (.str p0)] (.B r) := ECall.pcall (eo (fn := Tryz.f58) (n := 63) (m := 100) fun Γ => Bv.body h) (by kernel_rfl)
structure A0 where
 D7 : Aa → Option Bool
 Db : Aa → Option Bool
 Ce : (List Aa) → Option Int
 Co : (List Aa) → Option Bool
 Dq : (List Aa) → Option Bool
 Dd : Aa → Option Bool
 B9 : (List Aa) → Option Int
 Cn : (List Aa) → Option Bool
 C7 : (List Aa) → Option Bool
 B2 : Aa → Option Bool
structure A0.Ok (R : A0) : Prop where
 D7 : ∀ {p0 : Aa} {r : Bool}, R.D7 p0 = some r → ECall V P 64 [.agg (Ag p0)] [] [] (.B r) []
 Db : ∀ {p0 : Aa} {r : Bool}, R.Db p0 = some r → ECall V P 57 [.agg (Ag p0), .cv (.pcs [.fn (.func 64) [] []] 0)] [] [] (.B r) []
 Ce : ∀ {p0 : List Aa} {r : Int}, R.Ce p0 = some r → ECall V P 90 [.cv (.ro .Ae p0), .cv (.fn (.func 57) [] [.pcs [.fn (.func 64) [] []] 0])] [] [] (.I r) []
 Co : ∀ {p0 : List Aa} {r : Bool}, R.Co p0 = some r → ECall V P 56 [.cv (.ro .Ae p0), .cv (.fn (.func 57) [] [.pcs [.fn (.func 64) [] []] 0])] [] [] (.B r) []
 Dq : ∀ {p0 : List Aa} {r : Bool}, R.Dq p0 = some r → ECall V P 30 [.cv (.ro .Ae p0), .cv (.fn (.func 64) [] [])] [] [] (.B r) []
 Dd : ∀ {p0 : Aa} {r : Bool}, R.Dd p0 = some r → ECall V P 57 [.agg (Ag p0), .cv (.pcs [.fn (.func 33) [] []] 0)] [] [] (.B r) []
 B9 : ∀ {p0 : List Aa} {r : Int}, R.B9 p0 = some r → ECall V P 90 [.cv (.ro .Ae p0), .cv (.fn (.func 57) [] [.pcs [.fn (.func 33) [] []] 0])] [] [] (.I r) []
 Cn : ∀ {p0 : List Aa} {r : Bool}, R.Cn p0 = some r → ECall V P 56 [.cv (.ro .Ae p0), .cv (.fn (.func 57) [] [.pcs [.fn (.func 33) [] []] 0])] [] [] (.B r) []
 C7 : ∀ {p0 : List Aa} {r : Bool}, R.C7 p0 = some r → ECall V P 30 [.cv (.ro .Ae p0), .cv (.fn (.func 33) [] [])] [] [] (.B r) []
 B2 : ∀ {p0 : Aa} {r : Bool}, R.B2 p0 = some r → ECall V P 33 [.agg (Ag p0)] [] [] (.B r) []
theorem D7.okR {R : A0} (hR : R.Ok) {p0 : Aa} {r : Bool} (h : R.D7 p0 = some r) : PCall V P 64 [.agg (Ag p0)] (.B r) := (hR.D7 h).pcall (by kernel_rfl)
theorem Db.okR {R : A0} (hR : R.Ok) {p0 : Aa} {r : Bool} (h : R.Db p0 = some r) : PCall V P 57 [.agg (Ag p0), .cv (.pcs [.fn (.func 64) [] []] 0)] (.B r) := (hR.Db h).pcall (by kernel_rfl)
theorem Ce.okR {R : A0} (hR : R.Ok) {p0 : List Aa} {r : Int} (h : R.Ce p0 = some r) : PCall V P 90 [.cv (.ro .Ae p0), .cv (.fn (.func 57) [] [.pcs [.fn (.func 64) [] []] 0])] (.I r) := (hR.Ce h).pcall (by kernel_rfl)
theorem Co.okR {R : A0} (hR : R.Ok) {p0 : List Aa} {r : Bool} (h : R.Co p0 = some r) : PCall V P 56 [.cv (.ro .Ae p0), .cv (.fn (.func 57) [] [.pcs [.fn (.func 64) [] []] 0])] (.B r) := (hR.Co h).pcall (by kernel_rfl)
theorem Dq.okR {R : A0} (hR : R.Ok) {p0 : List Aa} {r : Bool} (h : R.Dq p0 = some r) : PCall V P 30 [.cv (.ro .Ae p0), .cv (.fn (.func 64) [] [])] (.B r) := (hR.Dq h).pcall (by kernel_rfl)
theorem Dd.okR {R : A0} (hR : R.Ok) {p0 : Aa} {r : Bool} (h : R.Dd p0 = some r) : PCall V P 57 [.agg (Ag p0), .cv (.pcs [.fn (.func 33) [] []] 0)] (.B r) := (hR.Dd h).pcall (by kernel_rfl)
theorem B9.okR {R : A0} (hR : R.Ok) {p0 : List Aa} {r : Int} (h : R.B9 p0 = some r) : PCall V P 90 [.cv (.ro .Ae p0), .cv (.fn (.func 57) [] [.pcs [.fn (.func 33) [] []] 0])] (.I r) := (hR.B9 h).pcall (by kernel_rfl)
theorem Cn.okR {R : A0} (hR : R.Ok) {p0 : List Aa} {r : Bool} (h : R.Cn p0 = some r) : PCall V P 56 [.cv (.ro .Ae p0), .cv (.fn (.func 57) [] [.pcs [.fn (.func 33) [] []] 0])] (.B r) := (hR.Cn h).pcall (by kernel_rfl)
theorem C7.okR {R : A0} (hR : R.Ok) {p0 : List Aa} {r : Bool} (h : R.C7 p0 = some r) : PCall V P 30 [.cv (.ro .Ae p0), .cv (.fn (.func 33) [] [])] (.B r) := (hR.C7 h).pcall (by kernel_rfl)
theorem B2.okR {R : A0} (hR : R.Ok) {p0 : Aa} {r : Bool} (h : R.B2 p0 = some r) : PCall V P 33 [.agg (Ag p0)] (.B r) := (hR.B2 h).pcall (by kernel_rfl)
def D7.F (K : Nat) (R : A0) (p0 : Aa) : Option Bool := (if p0.Op = 9 then (Option.bind (Az K p0 false true false) (fun a1 => (if a1 = true then (if (p0.Text.length : Int) ≤ 4096 then (if (p0.Kids.length : Int) = 1 then (if (0 : Int) < (p0.Kids.length : Int) then (Option.bind (R.B2 (p0.Kids.getD (Int.toNat 0) Ay)) (fun a2 => some a2)) else none) else some false) else some false) else some false))) else some false)
theorem D7.body {Γ : Ent} {K : Nat} {R : A0} (hR : R.Ok) {p0 : Aa} {r : Bool} (h : D7.F K R p0 = some r) : AWp V P 29 100 Γ (Tryz.f64.body.getD .skip) (EndsE P V Tryz.f64 (.B r) []) ⟨args0 0 [.agg (Ag p0)], []⟩ := by
 unfold D7.F at h
 refine sg0 L 200 <| awp_seq ?_
 rcases ite_some h with ⟨c1, h⟩ | ⟨c1, h⟩
 ·obtain ⟨a1, h1, h⟩ := bind_some h
  rcases ite_some h with ⟨c2, h⟩ | ⟨c2, h⟩
  ·rcases ite_some h with ⟨c3, h⟩ | ⟨c3, h⟩
   ·rcases ite_some h with ⟨c4, h⟩ | ⟨c4, h⟩
    ·obtain ⟨g1, h⟩ := guard_some h
     obtain ⟨a2, h2, h⟩ := bind_some h
     refine rg L 203 [(3, true), (7, true), (13, true), (19, true)] [(5, .B a1), (24, .B a2)] [] (plc (decide_eq_true c1) (plc (Az.ok h1) (plc trivial (plc c2 (plc (decide_eq_true c3) (plc (decide_eq_true c4) (plc (show (0 : Int) ≤ 0 from by decide) (plc g1 (plc (B2.okR hR h2) (pl1 trivial)))))))))) ?_
     refine awp_ret ?_
     cases h
     exact er0
    refine rg L 203 [(3, true), (7, true), (13, true), (19, false)] [(5, .B a1)] [] (plc (decide_eq_true c1) (plc (Az.ok h1) (plc trivial (plc c2 (plc (decide_eq_true c3) (pl1 (decide_eq_false c4))))))) ?_
    refine awp_ret ?_
    cases h
    exact er0
   refine rg L 203 [(3, true), (7, true), (13, false)] [(5, .B a1)] [] (plc (decide_eq_true c1) (plc (Az.ok h1) (plc trivial (plc c2 (pl1 (decide_eq_false c3)))))) ?_
   refine awp_ret ?_
   cases h
   exact er0
  refine rg L 203 [(3, true), (7, false)] [(5, .B a1)] [] (plc (decide_eq_true c1) (plc (Az.ok h1) (plc trivial (pl1 (eq_false_of_ne_true c2))))) ?_
  refine awp_ret ?_
  cases h
  exact er0
 refine rg L 203 [(3, false)] [] [] (pl1 (decide_eq_false c1)) ?_
 refine awp_ret ?_
 cases h
 exact er0
def Db.F (K : Nat) (R : A0) (p0 : Aa) : Option Bool := (Option.bind (R.D7 p0) (fun a1 => some (!a1)))
theorem Db.body {Γ : Ent} {K : Nat} {R : A0} (hR : R.Ok) {p0 : Aa} {r : Bool} (h : Db.F K R p0 = some r) : AWp V P 8 100 Γ (Tryz.f57.body.getD .skip) (EndsE P V Tryz.f57 (.B r) []) ⟨args0 0 [.agg (Ag p0), .cv (.pcs [.fn (.func 64) [] []] 0)], []⟩ := by
 unfold Db.F at h
 refine sg0 L 200 <| awp_seq ?_
 obtain ⟨a1, h1, h⟩ := bind_some h
 refine rg L 203 [] [(2, .B a1)] [] (plt (D7.okR hR h1)) ?_
 refine awp_ret ?_
 cases h
 exact er0
def Ce.l7 (K : Nat) (R : A0) (p0 : List Aa) : Nat → Int → Option (Out Int Unit)
 | 0, _ => none
 | k + 1, xt8_7h => (if xt8_7h < (p0.length : Int) then (if (0 : Int) ≤ xt8_7h ∧ (xt8_7h : Int) < (p0.length : Int) then (Option.bind (R.Db (p0.getD (Int.toNat xt8_7h) Ay)) (fun a1 => (if a1 = true then some (Out.done xt8_7h) else Ce.l7 K R p0 k (IntKind.i64.wrap (xt8_7h + 1))))) else none) else some (Out.go ()))
def Ce.F (K : Nat) (R : A0) (p0 : List Aa) : Option Int := (obind (Ce.l7 K R p0 K 0 : Option (Out Int Unit)) (fun r => r) (fun _ => some (-1)))
theorem Ce.body {Γ : Ent} {K : Nat} {R : A0} (hR : R.Ok) {p0 : List Aa} {r : Int} (h : Ce.F K R p0 = some r) : AWp V P 19 100 Γ (Tryz.f90.body.getD .skip) (EndsE P V Tryz.f90 (.I r) []) ⟨args0 0 [.cv (.ro .Ae p0), .cv (.fn (.func 57) [] [.pcs [.fn (.func 64) [] []] 0])], []⟩ := by
 unfold Ce.F at h
 refine sg0 L 200 <| awp_seq <| sg0 L 202 <| awp_block <| kp (S' := ⟨[(0, .cv (.ro .Ae p0)), (1, .cv (.fn (.func 57) [] [.pcs [.fn (.func 64) [] []] 0])), (7, .I (p0.length : Int)), (8, .I 0)], []⟩) ?_
 obtain ⟨o1, hp1, h⟩ := obind_some h
 refine awp_conseq (Q' := fun e S => (e = .exit 0 ∧ S = ⟨[], []⟩ ∧ Out.go () = o1) ∨ (e = .ret ∧ ∃ a, Out.done a = o1 ∧ EndsE P V Tryz.f90 (.I a) [] .ret S)) (awp_loop (fun k S => ∃ xt8_7h : Int, S = ⟨[(0, .cv (.ro .Ae p0)), (1, .cv (.fn (.func 57) [] [.pcs [.fn (.func 64) [] []] 0])), (7, .I (p0.length : Int)), (8, .I xt8_7h)], []⟩ ∧ Ce.l7 K R p0 k xt8_7h = some o1) ?_ ⟨_, rfl, hp1⟩) ?_
 ·clear h hp1
  intro k S hS
  obtain ⟨xt8_7h, rfl, h⟩ := hS
  cases k with
  | zero => cases h
  | succ k =>
  unfold Ce.l7 at h
  refine sg0 L 206 <| awp_seq ?_
  rcases ite_some h with ⟨c1, h⟩ | ⟨c1, h⟩
  ·refine tT c1 <| awp_skip' <| awp_seq <| awp_block <| sg0 L 208 <| awp_seq ?_
   obtain ⟨g1, h⟩ := guard_some h
   obtain ⟨a1, h1, h⟩ := bind_some h
   refine rg L 211 [] [(5, .B a1)] [] (plc g1.1 (plc g1.2 (plc (Db.okR hR h1) (pl1 trivial)))) ?_
   rcases ite_some h with ⟨c2, h⟩ | ⟨c2, h⟩
   ·refine tt c2 <| sg0 L 218 <| awp_ret ?_
    cases h
    exact .inr ⟨rfl, _, rfl, er0⟩
   refine fN c2 <| awp_skip' <| ar0 L 221 [] [] [] (S' := ⟨[(0, .cv (.ro .Ae p0)), (1, .cv (.fn (.func 57) [] [.pcs [.fn (.func 64) [] []] 0])), (7, .I (p0.length : Int)), (8, .I (IntKind.i64.wrap (xt8_7h + 1)))], []⟩) ?_
   exact ⟨k, Nat.lt_succ_self k, _, rfl, h⟩
  refine fF c1 <| ex (S' := ⟨[], []⟩) ?_
  cases h
  exact .inl ⟨rfl, rfl, rfl⟩
 ·rintro e S (⟨rfl, rfl, rfl⟩ | ⟨rfl, a, rfl, hr⟩)
  ·rcases h with ⟨_, e1, h⟩ | ⟨_, e1, h⟩
   ·cases e1
   ·have e2 := Out.go.inj e1
    subst e2
    refine ⟨_, Turns.refl, ?_⟩
    refine sg0 L 224 <| awp_ret ?_
    cases h
    exact er0
  ·rcases h with ⟨_, e1, h⟩ | ⟨_, e1, h⟩
   ·have e2 := Out.done.inj e1
    subst e2
    subst h
    exact ⟨_, Turns.refl, hr⟩
   ·cases e1
def Co.F (K : Nat) (R : A0) (p0 : List Aa) : Option Bool := (Option.bind (R.Ce p0) (fun a1 => some (decide (a1 ≥ 0))))
theorem Co.body {Γ : Ent} {K : Nat} {R : A0} (hR : R.Ok) {p0 : List Aa} {r : Bool} (h : Co.F K R p0 = some r) : AWp V P 9 100 Γ (Tryz.f56.body.getD .skip) (EndsE P V Tryz.f56 (.B r) []) ⟨args0 0 [.cv (.ro .Ae p0), .cv (.fn (.func 57) [] [.pcs [.fn (.func 64) [] []] 0])], []⟩ := by
 unfold Co.F at h
 refine sg0 L 200 <| awp_seq ?_
 obtain ⟨a1, h1, h⟩ := bind_some h
 refine rg L 202 [] [(2, .I a1)] [] (plt (Ce.okR hR h1)) ?_
 refine awp_ret ?_
 cases h
 exact er0
def Dq.F (K : Nat) (R : A0) (p0 : List Aa) : Option Bool := (Option.bind (R.Co p0) (fun a1 => some (!a1)))
theorem Dq.body {Γ : Ent} {K : Nat} {R : A0} (hR : R.Ok) {p0 : List Aa} {r : Bool} (h : Dq.F K R p0 = some r) : AWp V P 9 100 Γ (Tryz.f30.body.getD .skip) (EndsE P V Tryz.f30 (.B r) []) ⟨args0 0 [.cv (.ro .Ae p0), .cv (.fn (.func 64) [] [])], []⟩ := by
 unfold Dq.F at h
 refine sg0 L 200 <| awp_seq ?_
 obtain ⟨a1, h1, h⟩ := bind_some h
 refine rg L 203 [] [(2, .B a1)] [] (plt (Co.okR hR h1)) ?_
 refine awp_ret ?_
 cases h
 exact er0
def Dd.F (K : Nat) (R : A0) (p0 : Aa) : Option Bool := (Option.bind (R.B2 p0) (fun a1 => some (!a1)))
theorem Dd.body {Γ : Ent} {K : Nat} {R : A0} (hR : R.Ok) {p0 : Aa} {r : Bool} (h : Dd.F K R p0 = some r) : AWp V P 8 100 Γ (Tryz.f57.body.getD .skip) (EndsE P V Tryz.f57 (.B r) []) ⟨args0 0 [.agg (Ag p0), .cv (.pcs [.fn (.func 33) [] []] 0)], []⟩ := by
 unfold Dd.F at h
 refine sg0 L 200 <| awp_seq ?_
 obtain ⟨a1, h1, h⟩ := bind_some h
 refine rg L 203 [] [(2, .B a1)] [] (plt (B2.okR hR h1)) ?_
 refine awp_ret ?_
 cases h
 exact er0
def B9.l7 (K : Nat) (R : A0) (p0 : List Aa) : Nat → Int → Option (Out Int Unit)
 | 0, _ => none
 | k + 1, xt8_7h => (if xt8_7h < (p0.length : Int) then (if (0 : Int) ≤ xt8_7h ∧ (xt8_7h : Int) < (p0.length : Int) then (Option.bind (R.Dd (p0.getD (Int.toNat xt8_7h) Ay)) (fun a1 => (if a1 = true then some (Out.done xt8_7h) else B9.l7 K R p0 k (IntKind.i64.wrap (xt8_7h + 1))))) else none) else some (Out.go ()))
def B9.F (K : Nat) (R : A0) (p0 : List Aa) : Option Int := (obind (B9.l7 K R p0 K 0 : Option (Out Int Unit)) (fun r => r) (fun _ => some (-1)))
theorem B9.body {Γ : Ent} {K : Nat} {R : A0} (hR : R.Ok) {p0 : List Aa} {r : Int} (h : B9.F K R p0 = some r) : AWp V P 19 100 Γ (Tryz.f90.body.getD .skip) (EndsE P V Tryz.f90 (.I r) []) ⟨args0 0 [.cv (.ro .Ae p0), .cv (.fn (.func 57) [] [.pcs [.fn (.func 33) [] []] 0])], []⟩ := by
 unfold B9.F at h
 refine sg0 L 200 <| awp_seq <| sg0 L 202 <| awp_block <| kp (S' := ⟨[(0, .cv (.ro .Ae p0)), (1, .cv (.fn (.func 57) [] [.pcs [.fn (.func 33) [] []] 0])), (7, .I (p0.length : Int)), (8, .I 0)], []⟩) ?_
 obtain ⟨o1, hp1, h⟩ := obind_some h
 refine awp_conseq (Q' := fun e S => (e = .exit 0 ∧ S = ⟨[], []⟩ ∧ Out.go () = o1) ∨ (e = .ret ∧ ∃ a, Out.done a = o1 ∧ EndsE P V Tryz.f90 (.I a) [] .ret S)) (awp_loop (fun k S => ∃ xt8_7h : Int, S = ⟨[(0, .cv (.ro .Ae p0)), (1, .cv (.fn (.func 57) [] [.pcs [.fn (.func 33) [] []] 0])), (7, .I (p0.length : Int)), (8, .I xt8_7h)], []⟩ ∧ B9.l7 K R p0 k xt8_7h = some o1) ?_ ⟨_, rfl, hp1⟩) ?_
 ·clear h hp1
  intro k S hS
  obtain ⟨xt8_7h, rfl, h⟩ := hS
  cases k with
  | zero => cases h
  | succ k =>
  unfold B9.l7 at h
  refine sg0 L 206 <| awp_seq ?_
  rcases ite_some h with ⟨c1, h⟩ | ⟨c1, h⟩
  ·refine tT c1 <| awp_skip' <| awp_seq <| awp_block <| sg0 L 208 <| awp_seq ?_
   obtain ⟨g1, h⟩ := guard_some h
   obtain ⟨a1, h1, h⟩ := bind_some h
   refine rg L 211 [] [(5, .B a1)] [] (plc g1.1 (plc g1.2 (plc (Dd.okR hR h1) (pl1 trivial)))) ?_
   rcases ite_some h with ⟨c2, h⟩ | ⟨c2, h⟩
   ·refine tt c2 <| sg0 L 218 <| awp_ret ?_
    cases h
    exact .inr ⟨rfl, _, rfl, er0⟩
   refine fN c2 <| awp_skip' <| ar0 L 221 [] [] [] (S' := ⟨[(0, .cv (.ro .Ae p0)), (1, .cv (.fn (.func 57) [] [.pcs [.fn (.func 33) [] []] 0])), (7, .I (p0.length : Int)), (8, .I (IntKind.i64.wrap (xt8_7h + 1)))], []⟩) ?_
   exact ⟨k, Nat.lt_succ_self k, _, rfl, h⟩
  refine fF c1 <| ex (S' := ⟨[], []⟩) ?_
  cases h
  exact .inl ⟨rfl, rfl, rfl⟩
 ·rintro e S (⟨rfl, rfl, rfl⟩ | ⟨rfl, a, rfl, hr⟩)
  ·rcases h with ⟨_, e1, h⟩ | ⟨_, e1, h⟩
   ·cases e1
   ·have e2 := Out.go.inj e1
    subst e2
    refine ⟨_, Turns.refl, ?_⟩
    refine sg0 L 224 <| awp_ret ?_
    cases h
    exact er0
  ·rcases h with ⟨_, e1, h⟩ | ⟨_, e1, h⟩
   ·have e2 := Out.done.inj e1
    subst e2
    subst h
    exact ⟨_, Turns.refl, hr⟩
   ·cases e1
def Cn.F (K : Nat) (R : A0) (p0 : List Aa) : Option Bool := (Option.bind (R.B9 p0) (fun a1 => some (decide (a1 ≥ 0))))
theorem Cn.body {Γ : Ent} {K : Nat} {R : A0} (hR : R.Ok) {p0 : List Aa} {r : Bool} (h : Cn.F K R p0 = some r) : AWp V P 9 100 Γ (Tryz.f56.body.getD .skip) (EndsE P V Tryz.f56 (.B r) []) ⟨args0 0 [.cv (.ro .Ae p0), .cv (.fn (.func 57) [] [.pcs [.fn (.func 33) [] []] 0])], []⟩ := by
 unfold Cn.F at h
 refine sg0 L 200 <| awp_seq ?_
 obtain ⟨a1, h1, h⟩ := bind_some h
 refine rg L 202 [] [(2, .I a1)] [] (plt (B9.okR hR h1)) ?_
 refine awp_ret ?_
 cases h
 exact er0
def C7.F (K : Nat) (R : A0) (p0 : List Aa) : Option Bool := (Option.bind (R.Cn p0) (fun a1 => some (!a1)))
theorem C7.body {Γ : Ent} {K : Nat} {R : A0} (hR : R.Ok) {p0 : List Aa} {r : Bool} (h : C7.F K R p0 = some r) : AWp V P 9 100 Γ (Tryz.f30.body.getD .skip) (EndsE P V Tryz.f30 (.B r) []) ⟨args0 0 [.cv (.ro .Ae p0), .cv (.fn (.func 33) [] [])], []⟩ := by
 unfold C7.F at h
 refine sg0 L 200 <| awp_seq ?_
 obtain ⟨a1, h1, h⟩ := bind_some h
 refine rg L 203 [] [(2, .B a1)] [] (plt (Cn.okR hR h1)) ?_
 refine awp_ret ?_
 cases h
 exact er0
def B2.F (K : Nat) (R : A0) (p0 : Aa) : Option Bool := (Option.bind ((if p0.Op = 1 then some true else (if p0.Op = 2 then some true else some (decide (p0.Op = 3)))) : Option Bool) (fun xt10_9 => (if xt10_9 = true then (if (p0.Kids.length : Int) = 0 then (Option.bind (Az K p0 false false false) (fun a1 => some a1)) else some false) else (if p0.Op = 4 then (if (p0.Kids.length : Int) = 0 then (Option.bind (Az K p0 false false true) (fun a2 => (if a2 = true then some (decide (p0.Int ≥ 0)) else some false))) else some false) else (if p0.Op = 5 then (if (p0.Kids.length : Int) = 0 then (Option.bind (Az K p0 false true false) (fun a3 => (if a3 = true then some (decide ((p0.Text.length : Int) ≤ 4096)) else some false))) else some false) else (if p0.Op = 6 then (if (p0.Kids.length : Int) = 0 then (Option.bind (Az K p0 true false false) (fun a4 => (if a4 = true then (Option.bind (Bv K p0.Name) (fun a5 => some a5)) else some false))) else some false) else (if p0.Op = 8 then (Option.bind (Az K p0 false false false) (fun a6 => (if a6 = true then (Option.bind (R.Dq p0.Kids) (fun a7 => some a7)) else some false))) else (if p0.Op = 7 then (Option.bind (Az K p0 false false false) (fun a8 => (if a8 = true then (Option.bind (R.C7 p0.Kids) (fun a9 => some a9)) else some false))) else (Option.bind ((if p0.Op = 10 then some true else some (decide (p0.Op = 11))) : Option Bool) (fun xt90_45 => (if xt90_45 = true then (Option.bind (Az K p0 true false false) (fun a10 => (if a10 = true then (Option.bind (Bv K p0.Name) (fun a11 => (if a11 = true then (Option.bind (R.C7 p0.Kids) (fun a12 => some a12)) else some false))) else some false))) else (if p0.Op = 29 then (if (p0.Kids.length : Int) = 1 then (Option.bind (Az K p0 true false false) (fun a13 => (if a13 = true then (Option.bind (Bv K p0.Name) (fun a14 => (if a14 = true then (if (0 : Int) < (p0.Kids.length : Int) then (Option.bind (R.B2 (p0.Kids.getD (Int.toNat 0) Ay)) (fun a15 => some a15)) else none) else some false))) else some false))) else some false) else (Option.bind ((if p0.Op = 12 then some true else (if p0.Op = 13 then some true else some (decide (p0.Op = 14)))) : Option Bool) (fun xt130_57 => (if xt130_57 = true then (if (p0.Kids.length : Int) = 1 then (Option.bind (Az K p0 false false false) (fun a16 => (if a16 = true then (if (0 : Int) < (p0.Kids.length : Int) then (Option.bind (R.B2 (p0.Kids.getD (Int.toNat 0) Ay)) (fun a17 => some a17)) else none) else some false))) else some false) else (Option.bind ((if p0.Op ≥ 15 then some (decide (p0.Op ≤ 28)) else some false) : Option Bool) (fun xt154_63 => (if xt154_63 = true then (if (p0.Kids.length : Int) = 2 then (Option.bind (Az K p0 false false false) (fun a18 => (if a18 = true then (Option.bind (R.C7 p0.Kids) (fun a19 => some a19)) else some false))) else some false) else some false))))))))))))))))))
theorem B2.body {Γ : Ent} {K : Nat} {R : A0} (hR : R.Ok) {p0 : Aa} {r : Bool} (h : B2.F K R p0 = some r) : AWp V P 172 100 Γ (Tryz.f33.body.getD .skip) (EndsE P V Tryz.f33 (.B r) []) ⟨args0 0 [.agg (Ag p0)], []⟩ := by
 unfold B2.F at h
 refine sg0 L 200 <| sg0 L 203 <| awp_seq <| sg0 L 208 <| awp_block ?_
 obtain ⟨o1, hp1, h⟩ := bind_some h
 refine awp_seq (awp_mono (Q' := fun e S => (e = .normal ∧ ∃ xt10_9 : Bool, S = ⟨[(1, .P 21800), (3, .I (p0.Kids.length : Int)), (4, .I p0.Op), (10, .B xt10_9)], [(21800, .raw (Ag p0))]⟩ ∧ xt10_9 = o1)) ?_ ?_)
 ·clear h
  replace h := hp1
  rcases ite_some h with ⟨c1, h⟩ | ⟨c1, h⟩
  ·refine awp_post (rg L 212 [(2, true)] [] [] (pl1 (decide_eq_true c1)) ⟨rfl, rfl⟩) (Turns.trans (Turns.kk [1, 3, 4, 10] [200]) (Turns.trans (Turns.rr [(200, 21800)]) (Turns.kp (S' := ⟨[(1, .P 21800), (3, .I (p0.Kids.length : Int)), (4, .I p0.Op), (10, .B true)], [(21800, .raw (Ag p0))]⟩)))) ?_
   cases h
   exact ⟨rfl, _, rfl, rfl⟩
  rcases ite_some h with ⟨c2, h⟩ | ⟨c2, h⟩
  ·refine awp_post (rg L 212 [(2, false), (6, true)] [] [] (pl2 (decide_eq_false c1) (decide_eq_true c2)) ⟨rfl, rfl⟩) (Turns.trans (Turns.kk [1, 3, 4, 10] [200]) (Turns.trans (Turns.rr [(200, 21800)]) (Turns.kp (S' := ⟨[(1, .P 21800), (3, .I (p0.Kids.length : Int)), (4, .I p0.Op), (10, .B true)], [(21800, .raw (Ag p0))]⟩)))) ?_
   cases h
   exact ⟨rfl, _, rfl, rfl⟩
  refine awp_post (rg L 212 [(2, false), (6, false)] [] [] (pl2 (decide_eq_false c1) (decide_eq_false c2)) ⟨rfl, rfl⟩) (Turns.trans (Turns.kk [1, 3, 4, 10] [200]) (Turns.trans (Turns.rr [(200, 21800)]) (Turns.kp (S' := ⟨[(1, .P 21800), (3, .I (p0.Kids.length : Int)), (4, .I p0.Op), (10, .B (decide (p0.Op = 3)))], [(21800, .raw (Ag p0))]⟩)))) ?_
  cases h
  exact ⟨rfl, _, rfl, rfl⟩
 ·rintro e S ⟨rfl, xt10_9, rfl, rfl⟩
  rcases ite_some h with ⟨c3, h⟩ | ⟨c3, h⟩
  ·refine tt c3 <| awp_seq ?_
   rcases ite_some h with ⟨c4, h⟩ | ⟨c4, h⟩
   ·obtain ⟨a1, h1, h⟩ := bind_some h
    refine rg L 224 [(2, true)] [(4, .B a1)] [] (plc (decide_eq_true c4) (plc (Az.ok h1) (pl1 trivial))) ?_
    refine awp_ret ?_
    cases h
    exact er0
   refine rg L 224 [(2, false)] [] [] (pl1 (decide_eq_false c4)) ?_
   refine awp_ret ?_
   cases h
   exact er0
  refine fN c3 <| sg0 L 232 ?_
  rcases ite_some h with ⟨c5, h⟩ | ⟨c5, h⟩
  ·refine tT c5 <| awp_seq ?_
   rcases ite_some h with ⟨c6, h⟩ | ⟨c6, h⟩
   ·obtain ⟨a2, h2, h⟩ := bind_some h
    rcases ite_some h with ⟨c7, h⟩ | ⟨c7, h⟩
    ·refine rg L 236 [(2, true), (6, true)] [(4, .B a2)] [] (plc (decide_eq_true c6) (plc (Az.ok h2) (plc trivial (pl1 c7)))) ?_
     refine awp_ret ?_
     cases h
     exact er0
    refine rg L 236 [(2, true), (6, false)] [(4, .B a2)] [] (plc (decide_eq_true c6) (plc (Az.ok h2) (plc trivial (pl1 (eq_false_of_ne_true c7))))) ?_
    refine awp_ret ?_
    cases h
    exact er0
   refine rg L 236 [(2, false)] [] [] (pl1 (decide_eq_false c6)) ?_
   refine awp_ret ?_
   cases h
   exact er0
  refine fF c5 <| sg0 L 249 ?_
  rcases ite_some h with ⟨c8, h⟩ | ⟨c8, h⟩
  ·refine tT c8 <| awp_seq ?_
   rcases ite_some h with ⟨c9, h⟩ | ⟨c9, h⟩
   ·obtain ⟨a3, h3, h⟩ := bind_some h
    rcases ite_some h with ⟨c10, h⟩ | ⟨c10, h⟩
    ·refine rg L 253 [(2, true), (6, true)] [(4, .B a3)] [] (plc (decide_eq_true c9) (plc (Az.ok h3) (plc trivial (pl1 c10)))) ?_
     refine awp_ret ?_
     cases h
     exact er0
    refine rg L 253 [(2, true), (6, false)] [(4, .B a3)] [] (plc (decide_eq_true c9) (plc (Az.ok h3) (plc trivial (pl1 (eq_false_of_ne_true c10))))) ?_
    refine awp_ret ?_
    cases h
    exact er0
   refine rg L 253 [(2, false)] [] [] (pl1 (decide_eq_false c9)) ?_
   refine awp_ret ?_
   cases h
   exact er0
  refine fF c8 <| sg0 L 267 ?_
  rcases ite_some h with ⟨c11, h⟩ | ⟨c11, h⟩
  ·refine tT c11 <| awp_seq ?_
   rcases ite_some h with ⟨c12, h⟩ | ⟨c12, h⟩
   ·obtain ⟨a4, h4, h⟩ := bind_some h
    rcases ite_some h with ⟨c13, h⟩ | ⟨c13, h⟩
    ·obtain ⟨a5, h5, h⟩ := bind_some h
     refine rg L 271 [(2, true), (6, true)] [(4, .B a4), (9, .B a5)] [] (plc (decide_eq_true c12) (plc (Az.ok h4) (plc trivial (plc c13 (plc (Bv.ok h5) (pl1 trivial)))))) ?_
     refine awp_ret ?_
     cases h
     exact er0
    refine rg L 271 [(2, true), (6, false)] [(4, .B a4)] [] (plc (decide_eq_true c12) (plc (Az.ok h4) (plc trivial (pl1 (eq_false_of_ne_true c13))))) ?_
    refine awp_ret ?_
    cases h
    exact er0
   refine rg L 271 [(2, false)] [] [] (pl1 (decide_eq_false c12)) ?_
   refine awp_ret ?_
   cases h
   exact er0
  refine fF c11 <| sg0 L 284 ?_
  rcases ite_some h with ⟨c14, h⟩ | ⟨c14, h⟩
  ·refine tT c14 <| awp_seq ?_
   obtain ⟨a6, h6, h⟩ := bind_some h
   rcases ite_some h with ⟨c15, h⟩ | ⟨c15, h⟩
   ·obtain ⟨a7, h7, h⟩ := bind_some h
    refine rg L 288 [(2, true)] [(1, .B a6), (5, .B a7)] [] (plc (Az.ok h6) (plc trivial (plc c15 (plc (Dq.okR hR h7) (pl1 trivial))))) ?_
    refine awp_ret ?_
    cases h
    exact er0
   refine rg L 288 [(2, false)] [(1, .B a6)] [] (plc (Az.ok h6) (plc trivial (pl1 (eq_false_of_ne_true c15)))) ?_
   refine awp_ret ?_
   cases h
   exact er0
  refine fF c14 <| sg0 L 297 ?_
  rcases ite_some h with ⟨c16, h⟩ | ⟨c16, h⟩
  ·refine tT c16 <| awp_seq ?_
   obtain ⟨a8, h8, h⟩ := bind_some h
   rcases ite_some h with ⟨c17, h⟩ | ⟨c17, h⟩
   ·obtain ⟨a9, h9, h⟩ := bind_some h
    refine rg L 301 [(2, true)] [(1, .B a8), (5, .B a9)] [] (plc (Az.ok h8) (plc trivial (plc c17 (plc (C7.okR hR h9) (pl1 trivial))))) ?_
    refine awp_ret ?_
    cases h
    exact er0
   refine rg L 301 [(2, false)] [(1, .B a8)] [] (plc (Az.ok h8) (plc trivial (pl1 (eq_false_of_ne_true c17)))) ?_
   refine awp_ret ?_
   cases h
   exact er0
  refine fF c16 ?_
  obtain ⟨o2, hp2, h⟩ := bind_some h
  refine awp_seq (awp_mono (Q' := fun e S => (e = .normal ∧ ∃ xt90_45 : Bool, S = ⟨[(1, .P 29000), (3, .I (p0.Kids.length : Int)), (4, .I p0.Op), (90, .B xt90_45)], [(29000, .raw (Ag p0))]⟩ ∧ xt90_45 = o2)) ?_ ?_)
  ·clear h
   replace h := hp2
   rcases ite_some h with ⟨c18, h⟩ | ⟨c18, h⟩
   ·refine awp_post (rg L 310 [(2, true)] [] [] (pl1 (decide_eq_true c18)) ⟨rfl, rfl⟩) (Turns.trans (Turns.kk [1, 3, 4, 90] [21800]) (Turns.trans (Turns.rr [(21800, 29000)]) (Turns.kp (S' := ⟨[(1, .P 29000), (3, .I (p0.Kids.length : Int)), (4, .I p0.Op), (90, .B true)], [(29000, .raw (Ag p0))]⟩)))) ?_
    cases h
    exact ⟨rfl, _, rfl, rfl⟩
   refine awp_post (rg L 310 [(2, false)] [] [] (pl1 (decide_eq_false c18)) ⟨rfl, rfl⟩) (Turns.trans (Turns.kk [1, 3, 4, 90] [21800]) (Turns.trans (Turns.rr [(21800, 29000)]) (Turns.kp (S' := ⟨[(1, .P 29000), (3, .I (p0.Kids.length : Int)), (4, .I p0.Op), (90, .B (decide (p0.Op = 11)))], [(29000, .raw (Ag p0))]⟩)))) ?_
   cases h
   exact ⟨rfl, _, rfl, rfl⟩
  ·rintro e S ⟨rfl, xt90_45, rfl, rfl⟩
   rcases ite_some h with ⟨c19, h⟩ | ⟨c19, h⟩
   ·refine tt c19 <| awp_seq ?_
    obtain ⟨a10, h10, h⟩ := bind_some h
    rcases ite_some h with ⟨c20, h⟩ | ⟨c20, h⟩
    ·obtain ⟨a11, h11, h⟩ := bind_some h
     rcases ite_some h with ⟨c21, h⟩ | ⟨c21, h⟩
     ·obtain ⟨a12, h12, h⟩ := bind_some h
      refine rg L 318 [(2, true), (7, true)] [(1, .B a10), (5, .B a11), (10, .B a12)] [] (plc (Az.ok h10) (plc trivial (plc c20 (plc (Bv.ok h11) (plc trivial (plc c21 (plc (C7.okR hR h12) (pl1 trivial)))))))) ?_
      refine awp_ret ?_
      cases h
      exact er0
     refine rg L 318 [(2, true), (7, false)] [(1, .B a10), (5, .B a11)] [] (plc (Az.ok h10) (plc trivial (plc c20 (plc (Bv.ok h11) (plc trivial (pl1 (eq_false_of_ne_true c21))))))) ?_
     refine awp_ret ?_
     cases h
     exact er0
    refine rg L 318 [(2, false)] [(1, .B a10)] [] (plc (Az.ok h10) (plc trivial (pl1 (eq_false_of_ne_true c20)))) ?_
    refine awp_ret ?_
    cases h
    exact er0
   refine fN c19 <| sg0 L 332 ?_
   rcases ite_some h with ⟨c22, h⟩ | ⟨c22, h⟩
   ·refine tT c22 <| awp_seq ?_
    rcases ite_some h with ⟨c23, h⟩ | ⟨c23, h⟩
    ·obtain ⟨a13, h13, h⟩ := bind_some h
     rcases ite_some h with ⟨c24, h⟩ | ⟨c24, h⟩
     ·obtain ⟨a14, h14, h⟩ := bind_some h
      rcases ite_some h with ⟨c25, h⟩ | ⟨c25, h⟩
      ·obtain ⟨g1, h⟩ := guard_some h
       obtain ⟨a15, h15, h⟩ := bind_some h
       refine rg L 336 [(2, true), (6, true), (11, true)] [(4, .B a13), (9, .B a14), (16, .B a15)] [] (plc (decide_eq_true c23) (plc (Az.ok h13) (plc trivial (plc c24 (plc (Bv.ok h14) (plc trivial (plc c25 (plc (show (0 : Int) ≤ 0 from by decide) (plc g1 (plc (B2.okR hR h15) (pl1 trivial))))))))))) ?_
       refine awp_ret ?_
       cases h
       exact er0
      refine rg L 336 [(2, true), (6, true), (11, false)] [(4, .B a13), (9, .B a14)] [] (plc (decide_eq_true c23) (plc (Az.ok h13) (plc trivial (plc c24 (plc (Bv.ok h14) (plc trivial (pl1 (eq_false_of_ne_true c25)))))))) ?_
      refine awp_ret ?_
      cases h
      exact er0
     refine rg L 336 [(2, true), (6, false)] [(4, .B a13)] [] (plc (decide_eq_true c23) (plc (Az.ok h13) (plc trivial (pl1 (eq_false_of_ne_true c24))))) ?_
     refine awp_ret ?_
     cases h
     exact er0
    refine rg L 336 [(2, false)] [] [] (pl1 (decide_eq_false c23)) ?_
    refine awp_ret ?_
    cases h
    exact er0
   refine fF c22 ?_
   obtain ⟨o3, hp3, h⟩ := bind_some h
   refine awp_seq (awp_mono (Q' := fun e S => (e = .normal ∧ ∃ xt130_57 : Bool, S = ⟨[(1, .P 31400), (3, .I (p0.Kids.length : Int)), (4, .I p0.Op), (130, .B xt130_57)], [(31400, .raw (Ag p0))]⟩ ∧ xt130_57 = o3)) ?_ ?_)
   ·clear h
    replace h := hp3
    rcases ite_some h with ⟨c26, h⟩ | ⟨c26, h⟩
    ·refine awp_post (rg L 356 [(2, true)] [] [] (pl1 (decide_eq_true c26)) ⟨rfl, rfl⟩) (Turns.trans (Turns.kk [1, 3, 4, 130] [29000]) (Turns.trans (Turns.rr [(29000, 31400)]) (Turns.kp (S' := ⟨[(1, .P 31400), (3, .I (p0.Kids.length : Int)), (4, .I p0.Op), (130, .B true)], [(31400, .raw (Ag p0))]⟩)))) ?_
     cases h
     exact ⟨rfl, _, rfl, rfl⟩
    rcases ite_some h with ⟨c27, h⟩ | ⟨c27, h⟩
    ·refine awp_post (rg L 356 [(2, false), (6, true)] [] [] (pl2 (decide_eq_false c26) (decide_eq_true c27)) ⟨rfl, rfl⟩) (Turns.trans (Turns.kk [1, 3, 4, 130] [29000]) (Turns.trans (Turns.rr [(29000, 31400)]) (Turns.kp (S' := ⟨[(1, .P 31400), (3, .I (p0.Kids.length : Int)), (4, .I p0.Op), (130, .B true)], [(31400, .raw (Ag p0))]⟩)))) ?_
     cases h
     exact ⟨rfl, _, rfl, rfl⟩
    refine awp_post (rg L 356 [(2, false), (6, false)] [] [] (pl2 (decide_eq_false c26) (decide_eq_false c27)) ⟨rfl, rfl⟩) (Turns.trans (Turns.kk [1, 3, 4, 130] [29000]) (Turns.trans (Turns.rr [(29000, 31400)]) (Turns.kp (S' := ⟨[(1, .P 31400), (3, .I (p0.Kids.length : Int)), (4, .I p0.Op), (130, .B (decide (p0.Op = 14)))], [(31400, .raw (Ag p0))]⟩)))) ?_
    cases h
    exact ⟨rfl, _, rfl, rfl⟩
   ·rintro e S ⟨rfl, xt130_57, rfl, rfl⟩
    rcases ite_some h with ⟨c28, h⟩ | ⟨c28, h⟩
    ·refine tt c28 <| awp_seq ?_
     rcases ite_some h with ⟨c29, h⟩ | ⟨c29, h⟩
     ·obtain ⟨a16, h16, h⟩ := bind_some h
      rcases ite_some h with ⟨c30, h⟩ | ⟨c30, h⟩
      ·obtain ⟨g2, h⟩ := guard_some h
       obtain ⟨a17, h17, h⟩ := bind_some h
       refine rg L 368 [(2, true), (6, true)] [(4, .B a16), (11, .B a17)] [] (plc (decide_eq_true c29) (plc (Az.ok h16) (plc trivial (plc c30 (plc (show (0 : Int) ≤ 0 from by decide) (plc g2 (plc (B2.okR hR h17) (pl1 trivial)))))))) ?_
       refine awp_ret ?_
       cases h
       exact er0
      refine rg L 368 [(2, true), (6, false)] [(4, .B a16)] [] (plc (decide_eq_true c29) (plc (Az.ok h16) (plc trivial (pl1 (eq_false_of_ne_true c30))))) ?_
      refine awp_ret ?_
      cases h
      exact er0
     refine rg L 368 [(2, false)] [] [] (pl1 (decide_eq_false c29)) ?_
     refine awp_ret ?_
     cases h
     exact er0
    refine fN c28 ?_
    obtain ⟨o4, hp4, h⟩ := bind_some h
    refine awp_seq (awp_mono (Q' := fun e S => (e = .normal ∧ ∃ xt154_63 : Bool, S = ⟨[(1, .P 32600), (3, .I (p0.Kids.length : Int)), (154, .B xt154_63)], [(32600, .raw (Ag p0))]⟩ ∧ xt154_63 = o4)) ?_ ?_)
    ·clear h
     replace h := hp4
     rcases ite_some h with ⟨c31, h⟩ | ⟨c31, h⟩
     ·refine awp_post (rg L 383 [(2, true)] [] [] (pl1 (decide_eq_true c31)) ⟨rfl, rfl⟩) (Turns.trans (Turns.kk [1, 3, 154] [31400]) (Turns.trans (Turns.rr [(31400, 32600)]) (Turns.kp (S' := ⟨[(1, .P 32600), (3, .I (p0.Kids.length : Int)), (154, .B (decide (p0.Op ≤ 28)))], [(32600, .raw (Ag p0))]⟩)))) ?_
      cases h
      exact ⟨rfl, _, rfl, rfl⟩
     refine awp_post (rg L 383 [(2, false)] [] [] (pl1 (decide_eq_false c31)) ⟨rfl, rfl⟩) (Turns.trans (Turns.kk [1, 3, 154] [31400]) (Turns.trans (Turns.rr [(31400, 32600)]) (Turns.kp (S' := ⟨[(1, .P 32600), (3, .I (p0.Kids.length : Int)), (154, .B false)], [(32600, .raw (Ag p0))]⟩)))) ?_
     cases h
     exact ⟨rfl, _, rfl, rfl⟩
    ·rintro e S ⟨rfl, xt154_63, rfl, rfl⟩
     rcases ite_some h with ⟨c32, h⟩ | ⟨c32, h⟩
     ·refine tt c32 <| awp_seq ?_
      rcases ite_some h with ⟨c33, h⟩ | ⟨c33, h⟩
      ·obtain ⟨a18, h18, h⟩ := bind_some h
       rcases ite_some h with ⟨c34, h⟩ | ⟨c34, h⟩
       ·obtain ⟨a19, h19, h⟩ := bind_some h
        refine rg L 391 [(2, true), (6, true)] [(4, .B a18), (9, .B a19)] [] (plc (decide_eq_true c33) (plc (Az.ok h18) (plc trivial (plc c34 (plc (C7.okR hR h19) (pl1 trivial)))))) ?_
        refine awp_ret ?_
        cases h
        exact er0
       refine rg L 391 [(2, true), (6, false)] [(4, .B a18)] [] (plc (decide_eq_true c33) (plc (Az.ok h18) (plc trivial (pl1 (eq_false_of_ne_true c34))))) ?_
       refine awp_ret ?_
       cases h
       exact er0
      refine rg L 391 [(2, false)] [] [] (pl1 (decide_eq_false c33)) ?_
      refine awp_ret ?_
      cases h
      exact er0
     refine fN c32 <| awp_skip' <| sg0 L 404 <| awp_ret ?_
     cases h
     exact er0
def A0.upto (K : Nat) : Nat → A0
 | 0 => ⟨fun _ => none, fun _ => none, fun _ => none, fun _ => none, fun _ => none, fun _ => none, fun _ => none, fun _ => none, fun _ => none, fun _ => none⟩
 | k + 1 => ⟨D7.F K (A0.upto K k), Db.F K (A0.upto K k), Ce.F K (A0.upto K k), Co.F K (A0.upto K k), Dq.F K (A0.upto K k), Dd.F K (A0.upto K k), B9.F K (A0.upto K k), Cn.F K (A0.upto K k), C7.F K (A0.upto K k), B2.F K (A0.upto K k)⟩
theorem A0.upto_ok (K : Nat) : ∀ k, (A0.upto K k).Ok
 | 0 => ⟨fun h => (by cases h), fun h => (by cases h), fun h => (by cases h), fun h => (by cases h), fun h => (by cases h), fun h => (by cases h), fun h => (by cases h), fun h => (by cases h), fun h => (by cases h), fun h => (by cases h)⟩
 | k + 1 => ⟨fun {p0 r} h => eo (fn := Tryz.f64) (n := 29) (m := 100) fun Γ => D7.body (K := K) (A0.upto_ok K k) h, fun {p0 r} h => eo (fn := Tryz.f57) (n := 8) (m := 100) fun Γ => Db.body (K := K) (A0.upto_ok K k) h, fun {p0 r} h => eo (fn := Tryz.f90) (n := 19) (m := 100) fun Γ => Ce.body (K := K) (A0.upto_ok K k) h, fun {p0 r} h => eo (fn := Tryz.f56) (n := 9) (m := 100) fun Γ => Co.body (K := K) (A0.upto_ok K k) h, fun {p0 r} h => eo (fn := Tryz.f30) (n := 9) (m := 100) fun Γ => Dq.body (K := K) (A0.upto_ok K k) h, fun {p0 r} h => eo (fn := Tryz.f57) (n := 8) (m := 100) fun Γ => Dd.body (K := K) (A0.upto_ok K k) h, fun {p0 r} h => eo (fn := Tryz.f90) (n := 19) (m := 100) fun Γ => B9.body (K := K) (A0.upto_ok K k) h, fun {p0 r} h => eo (fn := Tryz.f56) (n := 9) (m := 100) fun Γ => Cn.body (K := K) (A0.upto_ok K k) h, fun {p0 r} h => eo (fn := Tryz.f30) (n := 9) (m := 100) fun Γ => C7.body (K := K) (A0.upto_ok K k) h, fun {p0 r} h => eo (fn := Tryz.f33) (n := 172) (m := 100) fun Γ => B2.body (K := K) (A0.upto_ok K k) h⟩
def D7 (K : Nat) (p0 : Aa) : Option Bool := (A0.upto K K).D7 p0
theorem D7.okE {K : Nat} {p0 : Aa} {r : Bool} (h : D7 K p0 = some r) : ECall V P 64 [.agg (Ag p0)] [] [] (.B r) [] := (A0.upto_ok K K).D7 h
theorem D7.ok {K : Nat} {p0 : Aa} {r : Bool} (h : D7 K p0 = some r) : PCall V P 64 [.agg (Ag p0)] (.B r) := (D7.okE h).pcall (by kernel_rfl)
def Db (K : Nat) (p0 : Aa) : Option Bool := (A0.upto K K).Db p0
theorem Db.okE {K : Nat} {p0 : Aa} {r : Bool} (h : Db K p0 = some r) : ECall V P 57 [.agg (Ag p0), .cv (.pcs [.fn (.func 64) [] []] 0)] [] [] (.B r) [] := (A0.upto_ok K K).Db h
theorem Db.ok {K : Nat} {p0 : Aa} {r : Bool} (h : Db K p0 = some r) : PCall V P 57 [.agg (Ag p0), .cv (.pcs [.fn (.func 64) [] []] 0)] (.B r) := (Db.okE h).pcall (by kernel_rfl)
def Ce (K : Nat) (p0 : List Aa) : Option Int := (A0.upto K K).Ce p0
theorem Ce.okE {K : Nat} {p0 : List Aa} {r : Int} (h : Ce K p0 = some r) : ECall V P 90 [.cv (.ro .Ae p0), .cv (.fn (.func 57) [] [.pcs [.fn (.func 64) [] []] 0])] [] [] (.I r) [] := (A0.upto_ok K K).Ce h
theorem Ce.ok {K : Nat} {p0 : List Aa} {r : Int} (h : Ce K p0 = some r) : PCall V P 90 [.cv (.ro .Ae p0), .cv (.fn (.func 57) [] [.pcs [.fn (.func 64) [] []] 0])] (.I r) := (Ce.okE h).pcall (by kernel_rfl)
def Co (K : Nat) (p0 : List Aa) : Option Bool := (A0.upto K K).Co p0
theorem Co.okE {K : Nat} {p0 : List Aa} {r : Bool} (h : Co K p0 = some r) : ECall V P 56 [.cv (.ro .Ae p0), .cv (.fn (.func 57) [] [.pcs [.fn (.func 64) [] []] 0])] [] [] (.B r) [] := (A0.upto_ok K K).Co h
theorem Co.ok {K : Nat} {p0 : List Aa} {r : Bool} (h : Co K p0 = some r) : PCall V P 56 [.cv (.ro .Ae p0), .cv (.fn (.func 57) [] [.pcs [.fn (.func 64) [] []] 0])] (.B r) := (Co.okE h).pcall (by kernel_rfl)
def Dq (K : Nat) (p0 : List Aa) : Option Bool := (A0.upto K K).Dq p0
theorem Dq.okE {K : Nat} {p0 : List Aa} {r : Bool} (h : Dq K p0 = some r) : ECall V P 30 [.cv (.ro .Ae p0), .cv (.fn (.func 64) [] [])] [] [] (.B r) [] := (A0.upto_ok K K).Dq h
theorem Dq.ok {K : Nat} {p0 : List Aa} {r : Bool} (h : Dq K p0 = some r) : PCall V P 30 [.cv (.ro .Ae p0), .cv (.fn (.func 64) [] [])] (.B r) := (Dq.okE h).pcall (by kernel_rfl)
def Dd (K : Nat) (p0 : Aa) : Option Bool := (A0.upto K K).Dd p0
theorem Dd.okE {K : Nat} {p0 : Aa} {r : Bool} (h : Dd K p0 = some r) : ECall V P 57 [.agg (Ag p0), .cv (.pcs [.fn (.func 33) [] []] 0)] [] [] (.B r) [] := (A0.upto_ok K K).Dd h
theorem Dd.ok {K : Nat} {p0 : Aa} {r : Bool} (h : Dd K p0 = some r) : PCall V P 57 [.agg (Ag p0), .cv (.pcs [.fn (.func 33) [] []] 0)] (.B r) := (Dd.okE h).pcall (by kernel_rfl)
def B9 (K : Nat) (p0 : List Aa) : Option Int := (A0.upto K K).B9 p0
theorem B9.okE {K : Nat} {p0 : List Aa} {r : Int} (h : B9 K p0 = some r) : ECall V P 90 [.cv (.ro .Ae p0), .cv (.fn (.func 57) [] [.pcs [.fn (.func 33) [] []] 0])] [] [] (.I r) [] := (A0.upto_ok K K).B9 h
theorem B9.ok {K : Nat} {p0 : List Aa} {r : Int} (h : B9 K p0 = some r) : PCall V P 90 [.cv (.ro .Ae p0), .cv (.fn (.func 57) [] [.pcs [.fn (.func 33) [] []] 0])] (.I r) := (B9.okE h).pcall (by kernel_rfl)
def Cn (K : Nat) (p0 : List Aa) : Option Bool := (A0.upto K K).Cn p0
theorem Cn.okE {K : Nat} {p0 : List Aa} {r : Bool} (h : Cn K p0 = some r) : ECall V P 56 [.cv (.ro .Ae p0), .cv (.fn (.func 57) [] [.pcs [.fn (.func 33) [] []] 0])] [] [] (.B r) [] := (A0.upto_ok K K).Cn h
theorem Cn.ok {K : Nat} {p0 : List Aa} {r : Bool} (h : Cn K p0 = some r) : PCall V P 56 [.cv (.ro .Ae p0), .cv (.fn (.func 57) [] [.pcs [.fn (.func 33) [] []] 0])] (.B r) := (Cn.okE h).pcall (by kernel_rfl)
def C7 (K : Nat) (p0 : List Aa) : Option Bool := (A0.upto K K).C7 p0
theorem C7.okE {K : Nat} {p0 : List Aa} {r : Bool} (h : C7 K p0 = some r) : ECall V P 30 [.cv (.ro .Ae p0), .cv (.fn (.func 33) [] [])] [] [] (.B r) [] := (A0.upto_ok K K).C7 h
theorem C7.ok {K : Nat} {p0 : List Aa} {r : Bool} (h : C7 K p0 = some r) : PCall V P 30 [.cv (.ro .Ae p0), .cv (.fn (.func 33) [] [])] (.B r) := (C7.okE h).pcall (by kernel_rfl)
def B2 (K : Nat) (p0 : Aa) : Option Bool := (A0.upto K K).B2 p0
theorem B2.okE {K : Nat} {p0 : Aa} {r : Bool} (h : B2 K p0 = some r) : ECall V P 33 [.agg (Ag p0)] [] [] (.B r) [] := (A0.upto_ok K K).B2 h
theorem B2.ok {K : Nat} {p0 : Aa} {r : Bool} (h : B2 K p0 = some r) : PCall V P 33 [.agg (Ag p0)] (.B r) := (B2.okE h).pcall (by kernel_rfl)
def E4 (K : Nat) (p0 : Aa) : Option Bool := (Option.bind (((if p0.Op = 1 then some (decide (p0.Op = 1)) else (if p0.Op = 2 then some (decide (p0.Op = 2)) else (if p0.Op = 3 then some (decide (p0.Op = 3)) else (if p0.Op = 4 then some (decide (p0.Op = 4)) else some (decide (p0.Op = 5))))))) : Option Bool) (fun xt5_7 => (if xt5_7 = true then (Option.bind (B2 K p0) (fun a1 => some a1)) else (if p0.Op = 14 then (Option.bind (B2 K p0) (fun a2 => (if a2 = true then (if (0 : Int) < (p0.Kids.length : Int) then some (decide ((p0.Kids.getD (Int.toNat 0) Ay).Op = 4)) else none) else some false))) else some false))))
theorem E4.body {Γ : Ent} {K : Nat} {p0 : Aa} {r : Bool} (h : E4 K p0 = some r) : AWp V P 25 100 Γ (Tryz.f59.body.getD .skip) (EndsE P V Tryz.f59 (.B r) []) ⟨args0 0 [.agg (Ag p0)], []⟩ := by
 unfold E4 at h
 refine sg0 L 200 <| awp_seq <| sg0 L 203 <| awp_block ?_
 obtain ⟨o1, hp1, h⟩ := bind_some h
 refine awp_seq (awp_mono (Q' := fun e S => (e = .normal ∧ ∃ xt5_7 : Bool, S = ⟨[(1, .P 21400), (4, .I p0.Op), (5, .B xt5_7)], [(21400, .raw (Ag p0))]⟩ ∧ xt5_7 = o1)) ?_ ?_)
 ·clear h
  replace h := hp1
  refine sg0 L 206 ?_
  rcases ite_some h with ⟨c1, h⟩ | ⟨c1, h⟩
  ·refine tT c1 <| awp_turn (Turns.trans (Turns.kk [1, 4, 5] [200]) (Turns.rr [(200, 21400)])) ?_
   refine sk (S' := ⟨[(1, .P 21400), (4, .I p0.Op), (5, .B (decide (p0.Op = 1)))], [(21400, .raw (Ag p0))]⟩) ?_
   cases h
   exact ⟨rfl, _, rfl, rfl⟩
  refine fF c1 <| sg0 L 209 ?_
  rcases ite_some h with ⟨c2, h⟩ | ⟨c2, h⟩
  ·refine tT c2 <| awp_turn (Turns.trans (Turns.kk [1, 4, 5] [200]) (Turns.rr [(200, 21400)])) ?_
   refine sk (S' := ⟨[(1, .P 21400), (4, .I p0.Op), (5, .B (decide (p0.Op = 2)))], [(21400, .raw (Ag p0))]⟩) ?_
   cases h
   exact ⟨rfl, _, rfl, rfl⟩
  refine fF c2 <| sg0 L 212 ?_
  rcases ite_some h with ⟨c3, h⟩ | ⟨c3, h⟩
  ·refine tT c3 <| awp_turn (Turns.trans (Turns.kk [1, 4, 5] [200]) (Turns.rr [(200, 21400)])) ?_
   refine sk (S' := ⟨[(1, .P 21400), (4, .I p0.Op), (5, .B (decide (p0.Op = 3)))], [(21400, .raw (Ag p0))]⟩) ?_
   cases h
   exact ⟨rfl, _, rfl, rfl⟩
  refine fF c3 <| sg0 L 215 ?_
  rcases ite_some h with ⟨c4, h⟩ | ⟨c4, h⟩
  ·refine tT c4 <| awp_turn (Turns.trans (Turns.kk [1, 4, 5] [200]) (Turns.rr [(200, 21400)])) ?_
   refine sk (S' := ⟨[(1, .P 21400), (4, .I p0.Op), (5, .B (decide (p0.Op = 4)))], [(21400, .raw (Ag p0))]⟩) ?_
   cases h
   exact ⟨rfl, _, rfl, rfl⟩
  refine fF c4 <| awp_post (rg0 L 218 ⟨rfl, rfl⟩) (Turns.trans (Turns.kk [1, 4, 5] [200]) (Turns.trans (Turns.rr [(200, 21400)]) (Turns.kp (S' := ⟨[(1, .P 21400), (4, .I p0.Op), (5, .B (decide (p0.Op = 5)))], [(21400, .raw (Ag p0))]⟩)))) ?_
  cases h
  exact ⟨rfl, _, rfl, rfl⟩
 ·rintro e S ⟨rfl, xt5_7, rfl, rfl⟩
  rcases ite_some h with ⟨c5, h⟩ | ⟨c5, h⟩
  ·refine tt c5 <| awp_seq ?_
   obtain ⟨a1, h1, h⟩ := bind_some h
   refine rg L 221 [] [(1, .B a1)] [] (plt (B2.ok h1)) ?_
   refine awp_ret ?_
   cases h
   exact er0
  refine fN c5 <| sg0 L 225 ?_
  rcases ite_some h with ⟨c6, h⟩ | ⟨c6, h⟩
  ·refine tT c6 <| awp_seq ?_
   obtain ⟨a2, h2, h⟩ := bind_some h
   rcases ite_some h with ⟨c7, h⟩ | ⟨c7, h⟩
   ·obtain ⟨g1, h⟩ := guard_some h
    refine rg L 228 [(2, true)] [(1, .B a2)] [] (plc (B2.ok h2) (plc trivial (plc c7 (plc (show (0 : Int) ≤ 0 from by decide) (pl1 g1))))) ?_
    refine awp_ret ?_
    cases h
    exact er0
   refine rg L 228 [(2, false)] [(1, .B a2)] [] (plc (B2.ok h2) (plc trivial (pl1 (eq_false_of_ne_true c7)))) ?_
   refine awp_ret ?_
   cases h
   exact er0
  refine fF c6 <| awp_skip' <| sg0 L 240 <| awp_ret ?_
  cases h
  exact er0
theorem E4.ok {K : Nat} {p0 : Aa} {r : Bool} (h : E4 K p0 = some r) : PCall V P 59 [.agg (Ag p0)] (.B r) := ECall.pcall (eo (fn := Tryz.f59) (n := 25) (m := 100) fun Γ => E4.body h) (by kernel_rfl)
structure Ak where
 Eh : (List Aa) → Option Bool
 Da : Aa → Option Bool
 Cb : (List Aa) → Option Int
 Cl : (List Aa) → Option Bool
 Dn : (List Aa) → Option Bool
 D6 : Aa → Option Bool
 Dc : Aa → Option Bool
 Cd : (List Aa) → Option Int
 Ck : (List Aa) → Option Bool
 Dm : (List Aa) → Option Bool
 Dr : (List Aa) → Option Bool
 C8 : Aa → Option Bool
 De : Aa → Option Bool
 Ca : (List Aa) → Option Int
 Cm : (List Aa) → Option Bool
 Ds : (List Aa) → Option Bool
 Cj : Aa → Option Bool
structure Ak.Ok (R : Ak) : Prop where
 Eh : ∀ {p0 : List Aa} {r : Bool}, R.Eh p0 = some r → ECall V P 120 [.cv (.ro .Ae p0)] [] [] (.B r) []
 Da : ∀ {p0 : Aa} {r : Bool}, R.Da p0 = some r → ECall V P 57 [.agg (Ag p0), .cv (.pcs [.fn (.func 60) [] []] 0)] [] [] (.B r) []
 Cb : ∀ {p0 : List Aa} {r : Int}, R.Cb p0 = some r → ECall V P 90 [.cv (.ro .Ae p0), .cv (.fn (.func 57) [] [.pcs [.fn (.func 60) [] []] 0])] [] [] (.I r) []
 Cl : ∀ {p0 : List Aa} {r : Bool}, R.Cl p0 = some r → ECall V P 56 [.cv (.ro .Ae p0), .cv (.fn (.func 57) [] [.pcs [.fn (.func 60) [] []] 0])] [] [] (.B r) []
 Dn : ∀ {p0 : List Aa} {r : Bool}, R.Dn p0 = some r → ECall V P 30 [.cv (.ro .Ae p0), .cv (.fn (.func 60) [] [])] [] [] (.B r) []
 D6 : ∀ {p0 : Aa} {r : Bool}, R.D6 p0 = some r → ECall V P 136 [.agg (Ag p0)] [] [] (.B r) []
 Dc : ∀ {p0 : Aa} {r : Bool}, R.Dc p0 = some r → ECall V P 57 [.agg (Ag p0), .cv (.pcs [.fn (.func 136) [] []] 0)] [] [] (.B r) []
 Cd : ∀ {p0 : List Aa} {r : Int}, R.Cd p0 = some r → ECall V P 90 [.cv (.ro .Ae p0), .cv (.fn (.func 57) [] [.pcs [.fn (.func 136) [] []] 0])] [] [] (.I r) []
 Ck : ∀ {p0 : List Aa} {r : Bool}, R.Ck p0 = some r → ECall V P 56 [.cv (.ro .Ae p0), .cv (.fn (.func 57) [] [.pcs [.fn (.func 136) [] []] 0])] [] [] (.B r) []
 Dm : ∀ {p0 : List Aa} {r : Bool}, R.Dm p0 = some r → ECall V P 30 [.cv (.ro .Ae p0), .cv (.fn (.func 136) [] [])] [] [] (.B r) []
 Dr : ∀ {p0 : List Aa} {r : Bool}, R.Dr p0 = some r → ECall V P 121 [.cv (.ro .Ae p0)] [] [] (.B r) []
 C8 : ∀ {p0 : Aa} {r : Bool}, R.C8 p0 = some r → ECall V P 92 [.agg (Ag p0)] [] [] (.B r) []
 De : ∀ {p0 : Aa} {r : Bool}, R.De p0 = some r → ECall V P 57 [.agg (Ag p0), .cv (.pcs [.fn (.func 92) [] []] 0)] [] [] (.B r) []
 Ca : ∀ {p0 : List Aa} {r : Int}, R.Ca p0 = some r → ECall V P 90 [.cv (.ro .Ae p0), .cv (.fn (.func 57) [] [.pcs [.fn (.func 92) [] []] 0])] [] [] (.I r) []
 Cm : ∀ {p0 : List Aa} {r : Bool}, R.Cm p0 = some r → ECall V P 56 [.cv (.ro .Ae p0), .cv (.fn (.func 57) [] [.pcs [.fn (.func 92) [] []] 0])] [] [] (.B r) []
 Ds : ∀ {p0 : List Aa} {r : Bool}, R.Ds p0 = some r → ECall V P 30 [.cv (.ro .Ae p0), .cv (.fn (.func 92) [] [])] [] [] (.B r) []
 Cj : ∀ {p0 : Aa} {r : Bool}, R.Cj p0 = some r → ECall V P 60 [.agg (Ag p0)] [] [] (.B r) []
theorem Eh.okR {R : Ak} (hR : R.Ok) {p0 : List Aa} {r : Bool} (h : R.Eh p0 = some r) : PCall V P 120 [.cv (.ro .Ae p0)] (.B r) := (hR.Eh h).pcall (by kernel_rfl)
theorem Da.okR {R : Ak} (hR : R.Ok) {p0 : Aa} {r : Bool} (h : R.Da p0 = some r) : PCall V P 57 [.agg (Ag p0), .cv (.pcs [.fn (.func 60) [] []] 0)] (.B r) := (hR.Da h).pcall (by kernel_rfl)
theorem Cb.okR {R : Ak} (hR : R.Ok) {p0 : List Aa} {r : Int} (h : R.Cb p0 = some r) : PCall V P 90 [.cv (.ro .Ae p0), .cv (.fn (.func 57) [] [.pcs [.fn (.func 60) [] []] 0])] (.I r) := (hR.Cb h).pcall (by kernel_rfl)
theorem Cl.okR {R : Ak} (hR : R.Ok) {p0 : List Aa} {r : Bool} (h : R.Cl p0 = some r) : PCall V P 56 [.cv (.ro .Ae p0), .cv (.fn (.func 57) [] [.pcs [.fn (.func 60) [] []] 0])] (.B r) := (hR.Cl h).pcall (by kernel_rfl)
theorem Dn.okR {R : Ak} (hR : R.Ok) {p0 : List Aa} {r : Bool} (h : R.Dn p0 = some r) : PCall V P 30 [.cv (.ro .Ae p0), .cv (.fn (.func 60) [] [])] (.B r) := (hR.Dn h).pcall (by kernel_rfl)
theorem D6.okR {R : Ak} (hR : R.Ok) {p0 : Aa} {r : Bool} (h : R.D6 p0 = some r) : PCall V P 136 [.agg (Ag p0)] (.B r) := (hR.D6 h).pcall (by kernel_rfl)
theorem Dc.okR {R : Ak} (hR : R.Ok) {p0 : Aa} {r : Bool} (h : R.Dc p0 = some r) : PCall V P 57 [.agg (Ag p0), .cv (.pcs [.fn (.func 136) [] []] 0)] (.B r) := (hR.Dc h).pcall (by kernel_rfl)
theorem Cd.okR {R : Ak} (hR : R.Ok) {p0 : List Aa} {r : Int} (h : R.Cd p0 = some r) : PCall V P 90 [.cv (.ro .Ae p0), .cv (.fn (.func 57) [] [.pcs [.fn (.func 136) [] []] 0])] (.I r) := (hR.Cd h).pcall (by kernel_rfl)
theorem Ck.okR {R : Ak} (hR : R.Ok) {p0 : List Aa} {r : Bool} (h : R.Ck p0 = some r) : PCall V P 56 [.cv (.ro .Ae p0), .cv (.fn (.func 57) [] [.pcs [.fn (.func 136) [] []] 0])] (.B r) := (hR.Ck h).pcall (by kernel_rfl)
theorem Dm.okR {R : Ak} (hR : R.Ok) {p0 : List Aa} {r : Bool} (h : R.Dm p0 = some r) : PCall V P 30 [.cv (.ro .Ae p0), .cv (.fn (.func 136) [] [])] (.B r) := (hR.Dm h).pcall (by kernel_rfl)
theorem Dr.okR {R : Ak} (hR : R.Ok) {p0 : List Aa} {r : Bool} (h : R.Dr p0 = some r) : PCall V P 121 [.cv (.ro .Ae p0)] (.B r) := (hR.Dr h).pcall (by kernel_rfl)
theorem C8.okR {R : Ak} (hR : R.Ok) {p0 : Aa} {r : Bool} (h : R.C8 p0 = some r) : PCall V P 92 [.agg (Ag p0)] (.B r) := (hR.C8 h).pcall (by kernel_rfl)
theorem De.okR {R : Ak} (hR : R.Ok) {p0 : Aa} {r : Bool} (h : R.De p0 = some r) : PCall V P 57 [.agg (Ag p0), .cv (.pcs [.fn (.func 92) [] []] 0)] (.B r) := (hR.De h).pcall (by kernel_rfl)
theorem Ca.okR {R : Ak} (hR : R.Ok) {p0 : List Aa} {r : Int} (h : R.Ca p0 = some r) : PCall V P 90 [.cv (.ro .Ae p0), .cv (.fn (.func 57) [] [.pcs [.fn (.func 92) [] []] 0])] (.I r) := (hR.Ca h).pcall (by kernel_rfl)
theorem Cm.okR {R : Ak} (hR : R.Ok) {p0 : List Aa} {r : Bool} (h : R.Cm p0 = some r) : PCall V P 56 [.cv (.ro .Ae p0), .cv (.fn (.func 57) [] [.pcs [.fn (.func 92) [] []] 0])] (.B r) := (hR.Cm h).pcall (by kernel_rfl)
theorem Ds.okR {R : Ak} (hR : R.Ok) {p0 : List Aa} {r : Bool} (h : R.Ds p0 = some r) : PCall V P 30 [.cv (.ro .Ae p0), .cv (.fn (.func 92) [] [])] (.B r) := (hR.Ds h).pcall (by kernel_rfl)
theorem Cj.okR {R : Ak} (hR : R.Ok) {p0 : Aa} {r : Bool} (h : R.Cj p0 = some r) : PCall V P 60 [.agg (Ag p0)] (.B r) := (hR.Cj h).pcall (by kernel_rfl)
def Eh.F (K : Nat) (R : Ak) (p0 : List Aa) : Option Bool := (if (p0.length : Int) < 2 then some false else (if (p0.length : Int) > 3 then some false else (if (0 : Int) < (p0.length : Int) then (Option.bind (B2 K (p0.getD (Int.toNat 0) Ay)) (fun a1 => (if a1 = true then (if (1 : Int) < (p0.length : Int) then (Option.bind (R.Cj (p0.getD (Int.toNat 1) Ay)) (fun a2 => (if a2 = true then (if (p0.length : Int) = 2 then some true else (if (2 : Int) < (p0.length : Int) then (Option.bind (R.Cj (p0.getD (Int.toNat 2) Ay)) (fun a3 => (if a3 = true then some true else (if (p0.getD (Int.toNat 2) Ay).Op = 42 then (Option.bind (R.C8 (p0.getD (Int.toNat 2) Ay)) (fun a4 => some a4)) else some false)))) else none)) else some false))) else none) else some false))) else none)))
theorem Eh.body {Γ : Ent} {K : Nat} {R : Ak} (hR : R.Ok) {p0 : List Aa} {r : Bool} (h : Eh.F K R p0 = some r) : AWp V P 47 100 Γ (Tryz.f120.body.getD .skip) (EndsE P V Tryz.f120 (.B r) []) ⟨args0 0 [.cv (.ro .Ae p0)], []⟩ := by
 unfold Eh.F at h
 refine sg0 L 200 <| awp_seq <| awp_seq ?_
 rcases ite_some h with ⟨c1, h⟩ | ⟨c1, h⟩
 ·refine rg L 202 [(3, true)] [] [] (pl1 (decide_eq_true c1)) ?_
  refine tt (b := true) (rfl) ?_
  refine sg0 L 225 <| awp_ret ?_
  cases h
  exact er0
 rcases ite_some h with ⟨c2, h⟩ | ⟨c2, h⟩
 ·refine rg L 202 [(3, false), (8, true)] [] [] (pl2 (decide_eq_false c1) (decide_eq_true c2)) ?_
  refine tt (b := true) (rfl) ?_
  refine sg0 L 225 <| awp_ret ?_
  cases h
  exact er0
 obtain ⟨g1, h⟩ := guard_some h
 obtain ⟨a1, h1, h⟩ := bind_some h
 rcases ite_some h with ⟨c3, h⟩ | ⟨c3, h⟩
 ·obtain ⟨g2, h⟩ := guard_some h
  obtain ⟨a2, h2, h⟩ := bind_some h
  refine rg L 202 [(3, false), (8, false), (15, false)] [(12, .B a1), (19, .B a2)] [] (plc (decide_eq_false c1) (plc (decide_eq_false c2) (plc (show (0 : Int) ≤ 0 from by decide) (plc g1 (plc (B2.ok h1) (plc trivial (plc (show (!a1) = false from congrArg Bool.not (c3)) (plc (show (0 : Int) ≤ 1 from by decide) (plc g2 (plc (Cj.okR hR h2) (pl1 trivial))))))))))) ?_
  rcases ite_some h with ⟨c4, h⟩ | ⟨c4, h⟩
  ·refine ff (b := (!a2)) (congrArg Bool.not (c4)) ?_
   refine awp_skip' <| awp_seq ?_
   rcases ite_some h with ⟨c5, h⟩ | ⟨c5, h⟩
   ·refine rg L 227 [(3, true)] [] [] (pl1 (decide_eq_true c5)) ?_
    refine awp_ret ?_
    cases h
    exact er0
   obtain ⟨g3, h⟩ := guard_some h
   obtain ⟨a3, h3, h⟩ := bind_some h
   rcases ite_some h with ⟨c6, h⟩ | ⟨c6, h⟩
   ·refine rg L 227 [(3, false), (9, true)] [(7, .B a3)] [] (plc (decide_eq_false c5) (plc (show (0 : Int) ≤ 2 from by decide) (plc g3 (plc (Cj.okR hR h3) (plc trivial (pl1 c6)))))) ?_
    refine awp_ret ?_
    cases h
    exact er0
   rcases ite_some h with ⟨c7, h⟩ | ⟨c7, h⟩
   ·obtain ⟨a4, h4, h⟩ := bind_some h
    refine rg L 227 [(3, false), (9, false), (15, true)] [(7, .B a3), (19, .B a4)] [] (plc (decide_eq_false c5) (plc (show (0 : Int) ≤ 2 from by decide) (plc g3 (plc (Cj.okR hR h3) (plc trivial (plc (eq_false_of_ne_true c6) (plc (show (0 : Int) ≤ 2 from by decide) (plc g3 (plc (decide_eq_true c7) (plc (show (0 : Int) ≤ 2 from by decide) (plc g3 (plc (C8.okR hR h4) (pl1 trivial))))))))))))) ?_
    refine awp_ret ?_
    cases h
    exact er0
   refine rg L 227 [(3, false), (9, false), (15, false)] [(7, .B a3)] [] (plc (decide_eq_false c5) (plc (show (0 : Int) ≤ 2 from by decide) (plc g3 (plc (Cj.okR hR h3) (plc trivial (plc (eq_false_of_ne_true c6) (plc (show (0 : Int) ≤ 2 from by decide) (plc g3 (pl1 (decide_eq_false c7)))))))))) ?_
   refine awp_ret ?_
   cases h
   exact er0
  refine tt (b := (!a2)) (congrArg Bool.not (eq_false_of_ne_true c4)) ?_
  refine sg0 L 225 <| awp_ret ?_
  cases h
  exact er0
 refine rg L 202 [(3, false), (8, false), (15, true)] [(12, .B a1)] [] (plc (decide_eq_false c1) (plc (decide_eq_false c2) (plc (show (0 : Int) ≤ 0 from by decide) (plc g1 (plc (B2.ok h1) (plc trivial (pl1 (show (!a1) = true from congrArg Bool.not (eq_false_of_ne_true c3))))))))) ?_
 refine tt (b := true) (rfl) ?_
 refine sg0 L 225 <| awp_ret ?_
 cases h
 exact er0
def Da.F (K : Nat) (R : Ak) (p0 : Aa) : Option Bool := (Option.bind (R.Cj p0) (fun a1 => some (!a1)))
theorem Da.body {Γ : Ent} {K : Nat} {R : Ak} (hR : R.Ok) {p0 : Aa} {r : Bool} (h : Da.F K R p0 = some r) : AWp V P 8 100 Γ (Tryz.f57.body.getD .skip) (EndsE P V Tryz.f57 (.B r) []) ⟨args0 0 [.agg (Ag p0), .cv (.pcs [.fn (.func 60) [] []] 0)], []⟩ := by
 unfold Da.F at h
 refine sg0 L 200 <| awp_seq ?_
 obtain ⟨a1, h1, h⟩ := bind_some h
 refine rg L 203 [] [(2, .B a1)] [] (plt (Cj.okR hR h1)) ?_
 refine awp_ret ?_
 cases h
 exact er0
def Cb.l7 (K : Nat) (R : Ak) (p0 : List Aa) : Nat → Int → Option (Out Int Unit)
 | 0, _ => none
 | k + 1, xt8_7h => (if xt8_7h < (p0.length : Int) then (if (0 : Int) ≤ xt8_7h ∧ (xt8_7h : Int) < (p0.length : Int) then (Option.bind (R.Da (p0.getD (Int.toNat xt8_7h) Ay)) (fun a1 => (if a1 = true then some (Out.done xt8_7h) else Cb.l7 K R p0 k (IntKind.i64.wrap (xt8_7h + 1))))) else none) else some (Out.go ()))
def Cb.F (K : Nat) (R : Ak) (p0 : List Aa) : Option Int := (obind (Cb.l7 K R p0 K 0 : Option (Out Int Unit)) (fun r => r) (fun _ => some (-1)))
theorem Cb.body {Γ : Ent} {K : Nat} {R : Ak} (hR : R.Ok) {p0 : List Aa} {r : Int} (h : Cb.F K R p0 = some r) : AWp V P 19 100 Γ (Tryz.f90.body.getD .skip) (EndsE P V Tryz.f90 (.I r) []) ⟨args0 0 [.cv (.ro .Ae p0), .cv (.fn (.func 57) [] [.pcs [.fn (.func 60) [] []] 0])], []⟩ := by
 unfold Cb.F at h
 refine sg0 L 200 <| awp_seq <| sg0 L 202 <| awp_block <| kp (S' := ⟨[(0, .cv (.ro .Ae p0)), (1, .cv (.fn (.func 57) [] [.pcs [.fn (.func 60) [] []] 0])), (7, .I (p0.length : Int)), (8, .I 0)], []⟩) ?_
 obtain ⟨o1, hp1, h⟩ := obind_some h
 refine awp_conseq (Q' := fun e S => (e = .exit 0 ∧ S = ⟨[], []⟩ ∧ Out.go () = o1) ∨ (e = .ret ∧ ∃ a, Out.done a = o1 ∧ EndsE P V Tryz.f90 (.I a) [] .ret S)) (awp_loop (fun k S => ∃ xt8_7h : Int, S = ⟨[(0, .cv (.ro .Ae p0)), (1, .cv (.fn (.func 57) [] [.pcs [.fn (.func 60) [] []] 0])), (7, .I (p0.length : Int)), (8, .I xt8_7h)], []⟩ ∧ Cb.l7 K R p0 k xt8_7h = some o1) ?_ ⟨_, rfl, hp1⟩) ?_
 ·clear h hp1
  intro k S hS
  obtain ⟨xt8_7h, rfl, h⟩ := hS
  cases k with
  | zero => cases h
  | succ k =>
  unfold Cb.l7 at h
  refine sg0 L 206 <| awp_seq ?_
  rcases ite_some h with ⟨c1, h⟩ | ⟨c1, h⟩
  ·refine tT c1 <| awp_skip' <| awp_seq <| awp_block <| sg0 L 208 <| awp_seq ?_
   obtain ⟨g1, h⟩ := guard_some h
   obtain ⟨a1, h1, h⟩ := bind_some h
   refine rg L 211 [] [(5, .B a1)] [] (plc g1.1 (plc g1.2 (plc (Da.okR hR h1) (pl1 trivial)))) ?_
   rcases ite_some h with ⟨c2, h⟩ | ⟨c2, h⟩
   ·refine tt c2 <| sg0 L 218 <| awp_ret ?_
    cases h
    exact .inr ⟨rfl, _, rfl, er0⟩
   refine fN c2 <| awp_skip' <| ar0 L 221 [] [] [] (S' := ⟨[(0, .cv (.ro .Ae p0)), (1, .cv (.fn (.func 57) [] [.pcs [.fn (.func 60) [] []] 0])), (7, .I (p0.length : Int)), (8, .I (IntKind.i64.wrap (xt8_7h + 1)))], []⟩) ?_
   exact ⟨k, Nat.lt_succ_self k, _, rfl, h⟩
  refine fF c1 <| ex (S' := ⟨[], []⟩) ?_
  cases h
  exact .inl ⟨rfl, rfl, rfl⟩
 ·rintro e S (⟨rfl, rfl, rfl⟩ | ⟨rfl, a, rfl, hr⟩)
  ·rcases h with ⟨_, e1, h⟩ | ⟨_, e1, h⟩
   ·cases e1
   ·have e2 := Out.go.inj e1
    subst e2
    refine ⟨_, Turns.refl, ?_⟩
    refine sg0 L 224 <| awp_ret ?_
    cases h
    exact er0
  ·rcases h with ⟨_, e1, h⟩ | ⟨_, e1, h⟩
   ·have e2 := Out.done.inj e1
    subst e2
    subst h
    exact ⟨_, Turns.refl, hr⟩
   ·cases e1
def Cl.F (K : Nat) (R : Ak) (p0 : List Aa) : Option Bool := (Option.bind (R.Cb p0) (fun a1 => some (decide (a1 ≥ 0))))
theorem Cl.body {Γ : Ent} {K : Nat} {R : Ak} (hR : R.Ok) {p0 : List Aa} {r : Bool} (h : Cl.F K R p0 = some r) : AWp V P 9 100 Γ (Tryz.f56.body.getD .skip) (EndsE P V Tryz.f56 (.B r) []) ⟨args0 0 [.cv (.ro .Ae p0), .cv (.fn (.func 57) [] [.pcs [.fn (.func 60) [] []] 0])], []⟩ := by
 unfold Cl.F at h
 refine sg0 L 200 <| awp_seq ?_
 obtain ⟨a1, h1, h⟩ := bind_some h
 refine rg L 202 [] [(2, .I a1)] [] (plt (Cb.okR hR h1)) ?_
 refine awp_ret ?_
 cases h
 exact er0
def Dn.F (K : Nat) (R : Ak) (p0 : List Aa) : Option Bool := (Option.bind (R.Cl p0) (fun a1 => some (!a1)))
theorem Dn.body {Γ : Ent} {K : Nat} {R : Ak} (hR : R.Ok) {p0 : List Aa} {r : Bool} (h : Dn.F K R p0 = some r) : AWp V P 9 100 Γ (Tryz.f30.body.getD .skip) (EndsE P V Tryz.f30 (.B r) []) ⟨args0 0 [.cv (.ro .Ae p0), .cv (.fn (.func 60) [] [])], []⟩ := by
 unfold Dn.F at h
 refine sg0 L 200 <| awp_seq ?_
 obtain ⟨a1, h1, h⟩ := bind_some h
 refine rg L 203 [] [(2, .B a1)] [] (plt (Cl.okR hR h1)) ?_
 refine awp_ret ?_
 cases h
 exact er0
end Go.Proofs.YtifjagfmfkemmaaGreatDoor
