/- What functions of the program compute, as Lean functions, and that they compute it. -/
import Derived.Test.YtifjagfmfkemmaaGreatDoorFn3
set_option linter.unusedVariables false
set_option maxHeartbeats 0
namespace Go.Proofs.YtifjagfmfkemmaaGreatDoor
open Eng
def Ct.F (K : Nat) (R : Ai) (p0 : Ad) : Option (Aa × Ad) := (if p0.bad = true then some ((⟨0, [], 0, [], ([] : List Aa)⟩ : Aa), p0) else (if (0 : Int) ≤ p0.at_ ∧ (p0.at_ : Int) < (p0.l.length : Int) then (if (p0.l.getD (Int.toNat p0.at_) D2).Kind = 3 then some ((⟨4, [], (p0.l.getD (Int.toNat p0.at_) D2).Int, [], ([] : List Aa)⟩ : Aa), (⟨p0.l, (IntKind.i64.wrap (p0.at_ + 1)), p0.bad⟩ : Ad)) else (if (p0.l.getD (Int.toNat p0.at_) D2).Kind = 4 then some ((⟨5, [], 0, (p0.l.getD (Int.toNat p0.at_) D2).Text, ([] : List Aa)⟩ : Aa), (⟨p0.l, (IntKind.i64.wrap (p0.at_ + 1)), p0.bad⟩ : Ad)) else (if (p0.l.getD (Int.toNat p0.at_) D2).Kind = 1 then (Option.bind (Aj K ([40] : List UInt8) (⟨p0.l, (IntKind.i64.wrap (p0.at_ + 1)), p0.bad⟩ : Ad)) (fun (a1_0, a1_1) => (if a1_0 = true then (Option.bind (R.Bg ([41] : List UInt8) a1_1) (fun (a2_0, a2_1) => some ((⟨10, (p0.l.getD (Int.toNat p0.at_) D2).Text, 0, [], a2_0⟩ : Aa), a2_1))) else some ((⟨6, (p0.l.getD (Int.toNat p0.at_) D2).Text, 0, [], ([] : List Aa)⟩ : Aa), a1_1)))) else (Option.bind (Aj K ([116, 114, 117, 101] : List UInt8) p0) (fun (a3_0, a3_1) => (if a3_0 = true then some ((⟨2, [], 0, [], ([] : List Aa)⟩ : Aa), a3_1) else (Option.bind (Aj K ([102, 97, 108, 115, 101] : List UInt8) a3_1) (fun (a4_0, a4_1) => (if a4_0 = true then some ((⟨3, [], 0, [], ([] : List Aa)⟩ : Aa), a4_1) else (Option.bind (Aj K ([110, 117, 108, 108] : List UInt8) a4_1) (fun (a5_0, a5_1) => (if a5_0 = true then some ((⟨1, [], 0, [], ([] : List Aa)⟩ : Aa), a5_1) else (Option.bind (Aj K ([91] : List UInt8) a5_1) (fun (a6_0, a6_1) => (if a6_0 = true then (Option.bind (R.Bg ([93] : List UInt8) a6_1) (fun (a7_0, a7_1) => some ((⟨7, [], 0, [], a7_0⟩ : Aa), a7_1))) else (Option.bind (Aj K ([123] : List UInt8) a6_1) (fun (a8_0, a8_1) => (if a8_0 = true then (Option.bind (R.B1 a8_1) (fun (a9_0, a9_1) => some ((⟨8, [], 0, [], a9_0⟩ : Aa), a9_1))) else (Option.bind (Aj K ([40] : List UInt8) a8_1) (fun (a10_0, a10_1) => (if a10_0 = true then (Option.bind (R.Av a10_1) (fun (a11_0, a11_1) => (Option.bind (A1 K ([41] : List UInt8) a11_1) (fun a12 => some (a11_0, a12))))) else some ((⟨0, [], 0, [], ([] : List Aa)⟩ : Aa), (⟨a10_1.l, a10_1.at_, true⟩ : Ad))))))))))))))))))))))) else none))
theorem Ct.body {Γ : Ent} {K : Nat} {R : Ai} (hR : R.Ok) {p0 : Ad} {r : Aa × Ad} (h : Ct.F K R p0 = some r) : AWp V P 105 100 Γ (Tryz.f115.body.getD .skip) (EndsE P V Tryz.f115 (.agg [.I r.1.Op, .str r.1.Name, .I r.1.Int, .str r.1.Text, .ro .Ae r.1.Kids]) [(0, .raw [.ro .Am r.2.l, .I r.2.at_, .B r.2.bad])]) ⟨args0 0 [.P 0], [(0, .raw (Ac p0))]⟩ := by
 unfold Ct.F at h
 refine sg0 L 200 <| awp_seq <| sg0 L 202 ?_
 rcases ite_some h with ⟨c1, h⟩ | ⟨c1, h⟩
 ·refine tt c1 <| sg0 L 207 <| awp_turn (Turns.trans (Turns.kk [2] [0, 200]) (Turns.rr [(0, 0), (200, 100)])) ?_
  refine awp_ret ?_
  cases h
  exact er0
 refine fN c1 <| awp_skip' <| awp_seq ?_
 obtain ⟨g1, h⟩ := guard_some h
 refine rd L mixed 210 [] [] [] [220] 12 (pl2 g1.1 g1.2) ?_
 refine awp_seq <| awp_block <| sg0 L 223 ?_
 rcases ite_some h with ⟨c2, h⟩ | ⟨c2, h⟩
 ·refine tT c2 <| sg0 L 228 <| sg0 L 237 <| awp_turn (Turns.trans (Turns.kk [2] [0, 200]) (Turns.rr [(0, 0), (200, 100)])) ?_
  refine awp_ret ?_
  cases h
  exact er0
 refine fF c2 <| sg0 L 242 ?_
 rcases ite_some h with ⟨c3, h⟩ | ⟨c3, h⟩
 ·refine tT c3 <| sg0 L 247 <| sg0 L 256 <| awp_turn (Turns.trans (Turns.kk [2] [0, 200]) (Turns.rr [(0, 0), (200, 100)])) ?_
  refine awp_ret ?_
  cases h
  exact er0
 refine fF c3 <| sg0 L 261 ?_
 rcases ite_some h with ⟨c4, h⟩ | ⟨c4, h⟩
 ·refine tT c4 <| sg0 L 266 <| awp_seq <| awp_seq ?_
  obtain ⟨⟨a1_0, a1_1⟩, h1, h⟩ := bind_some h
  dsimp only at h
  refine rg L 275 [] [] [(1, (ef0 (.B a1_0) [(0, .raw (Ac a1_1))]))] (pl1 (Aj.okE h1)) ?_
  rcases ite_some h with ⟨c5, h⟩ | ⟨c5, h⟩
  ·refine tt c5 <| awp_seq ?_
   obtain ⟨⟨a2_0, a2_1⟩, h2, h⟩ := bind_some h
   dsimp only at h
   refine hB L mixed 278 [] [] [(3, (ef0 (.cv (.ro .Ae a2_0)) [(0, .raw (Ac a2_1))]))] [0, 2] 2 (pl2 (hR.Bg h2) (hR.Bg h2)) (S' := ⟨[(2, .P 200)], [(0, .raw (Ac a2_1)), (200, .raw [.I 10, .str ((p0.l.getD (Int.toNat p0.at_) D2).Text), .I 0, .str [], .ro .Ae a2_0])]⟩) ?_
   refine awp_turn (Turns.trans (Turns.kk [2] [0, 200]) (Turns.rr [(0, 0), (200, 100)])) ?_
   refine awp_ret ?_
   cases h
   exact er0
  refine fN c5 <| awp_skip' <| sg0 L 285 <| awp_turn (Turns.trans (Turns.kk [2] [0, 200]) (Turns.rr [(0, 0), (200, 100)])) ?_
  refine awp_ret ?_
  cases h
  exact er0
 refine fF c4 <| awp_seq ?_
 obtain ⟨⟨a3_0, a3_1⟩, h3, h⟩ := bind_some h
 dsimp only at h
 refine rg L 290 [] [] [(1, (ef0 (.B a3_0) [(0, .raw (Ac a3_1))]))] (pl1 (Aj.okE h3)) ?_
 rcases ite_some h with ⟨c6, h⟩ | ⟨c6, h⟩
 ·refine tt c6 <| sg0 L 294 <| awp_turn (Turns.trans (Turns.kk [2] [0, 200]) (Turns.rr [(0, 0), (200, 100)])) ?_
  refine awp_ret ?_
  cases h
  exact er0
 refine fN c6 <| awp_seq ?_
 obtain ⟨⟨a4_0, a4_1⟩, h4, h⟩ := bind_some h
 dsimp only at h
 refine rg L 297 [] [] [(1, (ef0 (.B a4_0) [(0, .raw (Ac a4_1))]))] (pl1 (Aj.okE h4)) ?_
 rcases ite_some h with ⟨c7, h⟩ | ⟨c7, h⟩
 ·refine tt c7 <| sg0 L 301 <| awp_turn (Turns.trans (Turns.kk [2] [0, 200]) (Turns.rr [(0, 0), (200, 100)])) ?_
  refine awp_ret ?_
  cases h
  exact er0
 refine fN c7 <| awp_seq ?_
 obtain ⟨⟨a5_0, a5_1⟩, h5, h⟩ := bind_some h
 dsimp only at h
 refine rg L 304 [] [] [(1, (ef0 (.B a5_0) [(0, .raw (Ac a5_1))]))] (pl1 (Aj.okE h5)) ?_
 rcases ite_some h with ⟨c8, h⟩ | ⟨c8, h⟩
 ·refine tt c8 <| sg0 L 308 <| awp_turn (Turns.trans (Turns.kk [2] [0, 200]) (Turns.rr [(0, 0), (200, 100)])) ?_
  refine awp_ret ?_
  cases h
  exact er0
 refine fN c8 <| awp_seq ?_
 obtain ⟨⟨a6_0, a6_1⟩, h6, h⟩ := bind_some h
 dsimp only at h
 refine rg L 311 [] [] [(1, (ef0 (.B a6_0) [(0, .raw (Ac a6_1))]))] (pl1 (Aj.okE h6)) ?_
 rcases ite_some h with ⟨c9, h⟩ | ⟨c9, h⟩
 ·refine tt c9 <| awp_seq ?_
  obtain ⟨⟨a7_0, a7_1⟩, h7, h⟩ := bind_some h
  dsimp only at h
  refine rg L 315 [] [] [(1, (ef0 (.cv (.ro .Ae a7_0)) [(0, .raw (Ac a7_1))]))] (pl1 (hR.Bg h7)) ?_
  refine awp_turn (Turns.trans (Turns.kk [2] [0, 200]) (Turns.rr [(0, 0), (200, 100)])) ?_
  refine awp_ret ?_
  cases h
  exact er0
 refine fN c9 <| awp_seq ?_
 obtain ⟨⟨a8_0, a8_1⟩, h8, h⟩ := bind_some h
 dsimp only at h
 refine rg L 320 [] [] [(1, (ef0 (.B a8_0) [(0, .raw (Ac a8_1))]))] (pl1 (Aj.okE h8)) ?_
 rcases ite_some h with ⟨c10, h⟩ | ⟨c10, h⟩
 ·refine tt c10 <| awp_seq ?_
  obtain ⟨⟨a9_0, a9_1⟩, h9, h⟩ := bind_some h
  dsimp only at h
  refine rg L 324 [] [] [(1, (ef0 (.cv (.ro .Ae a9_0)) [(0, .raw (Ac a9_1))]))] (pl1 (hR.B1 h9)) ?_
  refine awp_turn (Turns.trans (Turns.kk [2] [0, 200]) (Turns.rr [(0, 0), (200, 100)])) ?_
  refine awp_ret ?_
  cases h
  exact er0
 refine fN c10 <| awp_seq ?_
 obtain ⟨⟨a10_0, a10_1⟩, h10, h⟩ := bind_some h
 dsimp only at h
 refine rg L 329 [] [] [(1, (ef0 (.B a10_0) [(0, .raw (Ac a10_1))]))] (pl1 (Aj.okE h10)) ?_
 rcases ite_some h with ⟨c11, h⟩ | ⟨c11, h⟩
 ·refine tt c11 <| awp_seq ?_
  obtain ⟨⟨a11_0, a11_1⟩, h11, h⟩ := bind_some h
  dsimp only at h
  refine rg L 333 [] [] [(1, (ef0 (.agg (Ag a11_0)) [(0, .raw (Ac a11_1))]))] (pl1 (hR.Av h11)) ?_
  refine awp_seq ?_
  obtain ⟨a12, h12, h⟩ := bind_some h
  refine rg L 338 [] [] [(1, (ef0 (.tup []) [(0, .raw (Ac a12))]))] (pl1 (A1.okE h12)) ?_
  refine sg0 L 341 <| awp_turn (Turns.trans (Turns.kk [2] [0, 200]) (Turns.rr [(0, 0), (200, 100)])) ?_
  refine awp_ret ?_
  cases h
  exact er0
 refine fN c11 <| awp_skip' <| sg0 L 344 <| sg0 L 349 <| awp_turn (Turns.trans (Turns.kk [2] [0, 200]) (Turns.rr [(0, 0), (200, 100)])) ?_
 refine awp_ret ?_
 cases h
 exact er0
def Ai.upto (K : Nat) : Nat → Ai
 | 0 => ⟨fun _ => none, fun _ => none, fun _ => none, fun _ => none, fun _ => none, fun _ => none, fun _ _ => none, fun _ => none, fun _ => none⟩
 | k + 1 => ⟨A4.F K (Ai.upto K k), A8.F K (Ai.upto K k), A9.F K (Ai.upto K k), Be.F K (Ai.upto K k), Bt.F K (Ai.upto K k), Av.F K (Ai.upto K k), Bg.F K (Ai.upto K k), B1.F K (Ai.upto K k), Ct.F K (Ai.upto K k)⟩
theorem Ai.upto_ok (K : Nat) : ∀ k, (Ai.upto K k).Ok
 | 0 => ⟨fun h => (by cases h), fun h => (by cases h), fun h => (by cases h), fun h => (by cases h), fun h => (by cases h), fun h => (by cases h), fun h => (by cases h), fun h => (by cases h), fun h => (by cases h)⟩
 | k + 1 => ⟨fun {p0 r} h => eo (fn := Tryz.f153) (n := 43) (m := 100) fun Γ => A4.body (K := K) (Ai.upto_ok K k) h, fun {p0 r} h => eo (fn := Tryz.f144) (n := 25) (m := 100) fun Γ => A8.body (K := K) (Ai.upto_ok K k) h, fun {p0 r} h => eo (fn := Tryz.f132) (n := 19) (m := 100) fun Γ => A9.body (K := K) (Ai.upto_ok K k) h, fun {p0 r} h => eo (fn := Tryz.f117) (n := 37) (m := 100) fun Γ => Be.body (K := K) (Ai.upto_ok K k) h, fun {p0 r} h => eo (fn := Tryz.f88) (n := 13) (m := 100) fun Γ => Bt.body (K := K) (Ai.upto_ok K k) h, fun {p0 r} h => eo (fn := Tryz.f54) (n := 13) (m := 100) fun Γ => Av.body (K := K) (Ai.upto_ok K k) h, fun {p0 p1 r} h => eo (fn := Tryz.f129) (n := 27) (m := 100) fun Γ => Bg.body (K := K) (Ai.upto_ok K k) h, fun {p0 r} h => eo (fn := Tryz.f130) (n := 56) (m := 100) fun Γ => B1.body (K := K) (Ai.upto_ok K k) h, fun {p0 r} h => eo (fn := Tryz.f115) (n := 105) (m := 100) fun Γ => Ct.body (K := K) (Ai.upto_ok K k) h⟩
def A4 (K : Nat) (p0 : Ad) : Option (Aa × Ad) := (Ai.upto K K).A4 p0
theorem A4.okE {K : Nat} {p0 : Ad} {r : Aa × Ad} (h : A4 K p0 = some r) : ECall V P 153 [.P 0] [(0, .raw (Ac p0))] [0] (.agg [.I r.1.Op, .str r.1.Name, .I r.1.Int, .str r.1.Text, .ro .Ae r.1.Kids]) [(0, .raw [.ro .Am r.2.l, .I r.2.at_, .B r.2.bad])] := (Ai.upto_ok K K).A4 h
def A8 (K : Nat) (p0 : Ad) : Option (Aa × Ad) := (Ai.upto K K).A8 p0
theorem A8.okE {K : Nat} {p0 : Ad} {r : Aa × Ad} (h : A8 K p0 = some r) : ECall V P 144 [.P 0] [(0, .raw (Ac p0))] [0] (.agg [.I r.1.Op, .str r.1.Name, .I r.1.Int, .str r.1.Text, .ro .Ae r.1.Kids]) [(0, .raw [.ro .Am r.2.l, .I r.2.at_, .B r.2.bad])] := (Ai.upto_ok K K).A8 h
def A9 (K : Nat) (p0 : Ad) : Option (Aa × Ad) := (Ai.upto K K).A9 p0
theorem A9.okE {K : Nat} {p0 : Ad} {r : Aa × Ad} (h : A9 K p0 = some r) : ECall V P 132 [.P 0] [(0, .raw (Ac p0))] [0] (.agg [.I r.1.Op, .str r.1.Name, .I r.1.Int, .str r.1.Text, .ro .Ae r.1.Kids]) [(0, .raw [.ro .Am r.2.l, .I r.2.at_, .B r.2.bad])] := (Ai.upto_ok K K).A9 h
def Be (K : Nat) (p0 : Ad) : Option (Aa × Ad) := (Ai.upto K K).Be p0
theorem Be.okE {K : Nat} {p0 : Ad} {r : Aa × Ad} (h : Be K p0 = some r) : ECall V P 117 [.P 0] [(0, .raw (Ac p0))] [0] (.agg [.I r.1.Op, .str r.1.Name, .I r.1.Int, .str r.1.Text, .ro .Ae r.1.Kids]) [(0, .raw [.ro .Am r.2.l, .I r.2.at_, .B r.2.bad])] := (Ai.upto_ok K K).Be h
def Bt (K : Nat) (p0 : Ad) : Option (Aa × Ad) := (Ai.upto K K).Bt p0
theorem Bt.okE {K : Nat} {p0 : Ad} {r : Aa × Ad} (h : Bt K p0 = some r) : ECall V P 88 [.P 0] [(0, .raw (Ac p0))] [0] (.agg [.I r.1.Op, .str r.1.Name, .I r.1.Int, .str r.1.Text, .ro .Ae r.1.Kids]) [(0, .raw [.ro .Am r.2.l, .I r.2.at_, .B r.2.bad])] := (Ai.upto_ok K K).Bt h
def Av (K : Nat) (p0 : Ad) : Option (Aa × Ad) := (Ai.upto K K).Av p0
theorem Av.okE {K : Nat} {p0 : Ad} {r : Aa × Ad} (h : Av K p0 = some r) : ECall V P 54 [.P 0] [(0, .raw (Ac p0))] [0] (.agg [.I r.1.Op, .str r.1.Name, .I r.1.Int, .str r.1.Text, .ro .Ae r.1.Kids]) [(0, .raw [.ro .Am r.2.l, .I r.2.at_, .B r.2.bad])] := (Ai.upto_ok K K).Av h
def Bg (K : Nat) (p0 : List UInt8) (p1 : Ad) : Option ((List Aa) × Ad) := (Ai.upto K K).Bg p0 p1
theorem Bg.okE {K : Nat} {p0 : List UInt8} {p1 : Ad} {r : (List Aa) × Ad} (h : Bg K p0 p1 = some r) : ECall V P 129 [.P 0, .cv (.str p0)] [(0, .raw (Ac p1))] [0] (.cv (.ro .Ae r.1)) [(0, .raw [.ro .Am r.2.l, .I r.2.at_, .B r.2.bad])] := (Ai.upto_ok K K).Bg h
def B1 (K : Nat) (p0 : Ad) : Option ((List Aa) × Ad) := (Ai.upto K K).B1 p0
theorem B1.okE {K : Nat} {p0 : Ad} {r : (List Aa) × Ad} (h : B1 K p0 = some r) : ECall V P 130 [.P 0] [(0, .raw (Ac p0))] [0] (.cv (.ro .Ae r.1)) [(0, .raw [.ro .Am r.2.l, .I r.2.at_, .B r.2.bad])] := (Ai.upto_ok K K).B1 h
def Ct (K : Nat) (p0 : Ad) : Option (Aa × Ad) := (Ai.upto K K).Ct p0
theorem Ct.okE {K : Nat} {p0 : Ad} {r : Aa × Ad} (h : Ct K p0 = some r) : ECall V P 115 [.P 0] [(0, .raw (Ac p0))] [0] (.agg [.I r.1.Op, .str r.1.Name, .I r.1.Int, .str r.1.Text, .ro .Ae r.1.Kids]) [(0, .raw [.ro .Am r.2.l, .I r.2.at_, .B r.2.bad])] := (Ai.upto_ok K K).Ct h
def Cv (K : Nat) (p0 : Aa) (p1 : Ad) : Option (Aa × Ad) := (Option.bind (A1 K ([59] : List UInt8) p1) (fun a1 => some (p0, a1)))
theorem Cv.body {Γ : Ent} {K : Nat} {p0 : Aa} {p1 : Ad} {r : Aa × Ad} (h : Cv K p0 p1 = some r) : AWp V P 8 100 Γ (Tryz.f85.body.getD .skip) (EndsE P V Tryz.f85 (.agg [.I r.1.Op, .str r.1.Name, .I r.1.Int, .str r.1.Text, .ro .Ae r.1.Kids]) [(0, .raw [.ro .Am r.2.l, .I r.2.at_, .B r.2.bad])]) ⟨args0 0 [.P 0, .agg (Ag p0)], [(0, .raw (Ac p1))]⟩ := by
 unfold Cv at h
 refine sg0 L 200 <| awp_seq ?_
 obtain ⟨a1, h1, h⟩ := bind_some h
 refine rg L 203 [] [] [(1, (ef0 (.tup []) [(0, .raw (Ac a1))]))] (pl1 (A1.okE h1)) ?_
 refine sg0 L 206 <| awp_turn (Turns.trans (Turns.kk [4] [0, 201]) (Turns.rr [(0, 0), (201, 100)])) ?_
 refine awp_ret ?_
 cases h
 exact er0
theorem Cv.okE {K : Nat} {p0 : Aa} {p1 : Ad} {r : Aa × Ad} (h : Cv K p0 p1 = some r) : ECall V P 85 [.P 0, .agg (Ag p0)] [(0, .raw (Ac p1))] [0] (.agg [.I r.1.Op, .str r.1.Name, .I r.1.Int, .str r.1.Text, .ro .Ae r.1.Kids]) [(0, .raw [.ro .Am r.2.l, .I r.2.at_, .B r.2.bad])] :=
 eo (fn := Tryz.f85) (n := 8) (m := 100) fun Γ => Cv.body h
def D3 (K : Nat) (p0 : Ad) (p1 : List UInt8) : Option Bool := (if (IntKind.i64.wrap (p0.at_ + 1)) < (p0.l.length : Int) then (if (0 : Int) ≤ (IntKind.i64.wrap (p0.at_ + 1)) ∧ ((IntKind.i64.wrap (p0.at_ + 1)) : Int) < (p0.l.length : Int) then (if (p0.l.getD (Int.toNat (IntKind.i64.wrap (p0.at_ + 1))) D2).Kind = 5 then some ((decide ((p0.l.getD (Int.toNat (IntKind.i64.wrap (p0.at_ + 1))) D2).Text = p1))) else some false) else none) else some false)
theorem D3.body {Γ : Ent} {K : Nat} {p0 : Ad} {p1 : List UInt8} {r : Bool} (h : D3 K p0 p1 = some r) : AWp V P 47 100 Γ (Tryz.f141.body.getD .skip) (EndsE P V Tryz.f141 (.B r) []) ⟨args0 0 [.cv (.pcs (Ac p0) 0), .cv (.str p1)], []⟩ := by
 unfold D3 at h
 refine sg0 L 200 <| awp_seq ?_
 rcases ite_some h with ⟨c1, h⟩ | ⟨c1, h⟩
 ·obtain ⟨g1, h⟩ := guard_some h
  rcases ite_some h with ⟨c2, h⟩ | ⟨c2, h⟩
  ·refine rd L mixed 202 [(11, true), (26, true)] [] [] [] 43 (plc (decide_eq_true c1) (plc g1.1 (plc g1.2 (plc (decide_eq_true c2) (plc g1.1 (pl1 g1.2)))))) ?_
   refine awp_ret ?_
   cases h
   exact er0
  refine rd L mixed 202 [(11, true), (26, false)] [] [] [] 43 (plc (decide_eq_true c1) (plc g1.1 (plc g1.2 (pl1 (decide_eq_false c2))))) ?_
  refine awp_ret ?_
  cases h
  exact er0
 refine rd L mixed 202 [(11, false)] [] [] [] 43 (pl1 (decide_eq_false c1)) ?_
 refine awp_ret ?_
 cases h
 exact er0
theorem D3.ok {K : Nat} {p0 : Ad} {p1 : List UInt8} {r : Bool} (h : D3 K p0 p1 = some r) : PCall V P 141 [.cv (.pcs (Ac p0) 0), .cv (.str p1)] (.B r) := ECall.pcall (eo (fn := Tryz.f141) (n := 47) (m := 100) fun Γ => D3.body h) (by kernel_rfl)
def Dp (K : Nat) (p0 : Int) (p1 : Aa) (p2 : Aa) : Option (List Aa) := some ([(⟨p1.Op, p1.Name, p1.Int, p1.Text, p1.Kids⟩ : Aa), (⟨p2.Op, p2.Name, p2.Int, p2.Text, p2.Kids⟩ : Aa)] : List Aa)
theorem Dp.body {Γ : Ent} {K : Nat} {p0 : Int} {p1 : Aa} {p2 : Aa} {r : List Aa} (h : Dp K p0 p1 p2 = some r) : AWp V P 12 100 Γ (Tryz.f89.body.getD .skip) (EndsE P V Tryz.f89 (.agg [.I p0, .str [], .I 0, .str [], .own .Ae 100]) [(100, .lst .Ae r)]) ⟨args0 0 [.I p0, .agg (Ag p1), .agg (Ag p2)], []⟩ := by
 unfold Dp at h
 refine sg0 L 200 <| sg0 L 100204 <| awp_turn (Turns.trans (Turns.kk [6] [202, 100207]) (Turns.rr [(202, 101), (100207, 100)])) ?_
 refine awp_ret ?_
 cases h
 exact er0
theorem Dp.okE {K : Nat} {p0 : Int} {p1 : Aa} {p2 : Aa} {r : List Aa} (h : Dp K p0 p1 p2 = some r) : ECall V P 89 [.I p0, .agg (Ag p1), .agg (Ag p2)] [] [] (.agg [.I p0, .str [], .I 0, .str [], .own .Ae 100]) [(100, .lst .Ae r)] :=
 eo (fn := Tryz.f89) (n := 12) (m := 100) fun Γ => Dp.body h
structure A3 where
 Ch : Ad → Option (Aa × Ad)
 Bm : Ad → Option (Aa × Ad)
 Cx : Ad → Option (Aa × Ad)
 Ar : Ad → Option (Aa × Ad)
structure A3.Ok (R : A3) : Prop where
 Ch : ∀ {p0 : Ad} {r : Aa × Ad}, R.Ch p0 = some r → ECall V P 142 [.P 0] [(0, .raw (Ac p0))] [0] (.agg [.I r.1.Op, .str r.1.Name, .I r.1.Int, .str r.1.Text, .ro .Ae r.1.Kids]) [(0, .raw [.ro .Am r.2.l, .I r.2.at_, .B r.2.bad])]
 Bm : ∀ {p0 : Ad} {r : Aa × Ad}, R.Bm p0 = some r → ECall V P 143 [.P 0] [(0, .raw (Ac p0))] [0] (.agg [.I r.1.Op, .str r.1.Name, .I r.1.Int, .str r.1.Text, .ro .Ae r.1.Kids]) [(0, .raw [.ro .Am r.2.l, .I r.2.at_, .B r.2.bad])]
 Cx : ∀ {p0 : Ad} {r : Aa × Ad}, R.Cx p0 = some r → ECall V P 131 [.P 0] [(0, .raw (Ac p0))] [0] (.agg [.I r.1.Op, .str r.1.Name, .I r.1.Int, .str r.1.Text, .ro .Ae r.1.Kids]) [(0, .raw [.ro .Am r.2.l, .I r.2.at_, .B r.2.bad])]
 Ar : ∀ {p0 : Ad} {r : Aa × Ad}, R.Ar p0 = some r → ECall V P 116 [.P 0] [(0, .raw (Ac p0))] [0] (.agg [.I r.1.Op, .str r.1.Name, .I r.1.Int, .str r.1.Text, .ro .Ae r.1.Kids]) [(0, .raw [.ro .Am r.2.l, .I r.2.at_, .B r.2.bad])]
def Ch.F (K : Nat) (R : A3) (p0 : Ad) : Option (Aa × Ad) := (Option.bind (A1 K ([105, 102] : List UInt8) p0) (fun a1 => (Option.bind (Av K a1) (fun (a2_0, a2_1) => (Option.bind (R.Ar a2_1) (fun (a3_0, a3_1) => (Option.bind (Dp K 42 a2_0 a3_0) (fun a4 => (Option.bind (Aj K ([101, 108, 115, 101] : List UInt8) a3_1) (fun (a5_0, a5_1) => (if a5_0 = true then (Option.bind (C9 K a5_1 ([105, 102] : List UInt8)) (fun a6 => (if a6 = true then (Option.bind (R.Ch a5_1) (fun (a7_0, a7_1) => (if (a4.length + ([(⟨a7_0.Op, a7_0.Name, a7_0.Int, a7_0.Text, a7_0.Kids⟩ : Aa)] : List Aa).length) * 72 ≤ 140737488355328 then some ((⟨42, [], 0, [], (a4 ++ ([(⟨a7_0.Op, a7_0.Name, a7_0.Int, a7_0.Text, a7_0.Kids⟩ : Aa)] : List Aa))⟩ : Aa), a7_1) else none))) else (Option.bind (R.Ar a5_1) (fun (a8_0, a8_1) => (if (a4.length + ([(⟨a8_0.Op, a8_0.Name, a8_0.Int, a8_0.Text, a8_0.Kids⟩ : Aa)] : List Aa).length) * 72 ≤ 140737488355328 then some ((⟨42, [], 0, [], (a4 ++ ([(⟨a8_0.Op, a8_0.Name, a8_0.Int, a8_0.Text, a8_0.Kids⟩ : Aa)] : List Aa))⟩ : Aa), a8_1) else none)))))) else some ((⟨42, [], 0, [], a4⟩ : Aa), a5_1))))))))))))
theorem Ch.body {Γ : Ent} {K : Nat} {R : A3} (hR : R.Ok) {p0 : Ad} {r : Aa × Ad} (h : Ch.F K R p0 = some r) : AWp V P 32 100 Γ (Tryz.f142.body.getD .skip) (EndsE P V Tryz.f142 (.agg [.I r.1.Op, .str r.1.Name, .I r.1.Int, .str r.1.Text, .ro .Ae r.1.Kids]) [(0, .raw [.ro .Am r.2.l, .I r.2.at_, .B r.2.bad])]) ⟨args0 0 [.P 0], [(0, .raw (Ac p0))]⟩ := by
 unfold Ch.F at h
 refine sg0 L 200 <| awp_seq ?_
 obtain ⟨a1, h1, h⟩ := bind_some h
 refine rg L 202 [] [] [(1, (ef0 (.tup []) [(0, .raw (Ac a1))]))] (pl1 (A1.okE h1)) ?_
 refine awp_seq ?_
 obtain ⟨⟨a2_0, a2_1⟩, h2, h⟩ := bind_some h
 dsimp only at h
 refine rg L 205 [] [] [(1, (ef0 (.agg (Ag a2_0)) [(0, .raw (Ac a2_1))]))] (pl1 (Av.okE h2)) ?_
 refine awp_seq ?_
 obtain ⟨⟨a3_0, a3_1⟩, h3, h⟩ := bind_some h
 dsimp only at h
 obtain ⟨a4, h4, h⟩ := bind_some h
 refine hB L mixed 210 [] [] [(2, (ef0 (.agg (Ag a3_0)) [(0, .raw (Ac a3_1))])), (3, (ef [] [] (.agg [.I 42, .str [], .I 0, .str [], .own .Ae 100]) [(100, .lst .Ae a4)] [(100, 5104)]))] [1] 8 (plc (hR.Ar h3) (plc (Dp.okE h4) (plc (Dp.okE h4) (plc (hR.Ar h3) (plc (Dp.okE h4) (plc (hR.Ar h3) (plc (Dp.okE h4) (plc (Dp.okE h4) (plc (Dp.okE h4) (plc (hR.Ar h3) (plc (Dp.okE h4) (plc (hR.Ar h3) (pl1 (Dp.okE h4)))))))))))))) (S' := ⟨[(0, .P 0), (2, .P 200), (4, .P 214)], [(0, .raw (Ac a3_1)), (200, .raw [.I 0, .str [], .I 0, .str [], .N]), (214, .raw [.I 42, .str [], .I 0, .str [], .own .Ae 5104]), (5104, .lst .Ae a4)]⟩) ?_
 refine awp_seq <| awp_seq ?_
 obtain ⟨⟨a5_0, a5_1⟩, h5, h⟩ := bind_some h
 dsimp only at h
 refine rg L 217 [] [] [(1, (ef0 (.B a5_0) [(0, .raw (Ac a5_1))]))] (pl1 (Aj.okE h5)) ?_
 rcases ite_some h with ⟨c1, h⟩ | ⟨c1, h⟩
 ·refine tt c1 <| awp_seq ?_
  obtain ⟨a6, h6, h⟩ := bind_some h
  refine rg L 220 [] [(1, .B a6)] [] (plt (C9.ok h6)) ?_
  rcases ite_some h with ⟨c2, h⟩ | ⟨c2, h⟩
  ·refine tt c2 ?_
   obtain ⟨⟨a7_0, a7_1⟩, h7, h⟩ := bind_some h
   dsimp only at h
   obtain ⟨g1, h⟩ := guard_some h
   refine hB L mixed 223 [] [] [(3, (ef0 (.agg (Ag a7_0)) [(0, .raw (Ac a7_1))]))] [0, 2] 3 (plc (hR.Ch h7) (plc g1 (plc trivial (plc (hR.Ch h7) (plc g1 (plc trivial (plc g1 (pl1 trivial)))))))) (S' := ⟨[(2, .P 200), (4, .P 214)], [(0, .raw (Ac a7_1)), (200, .raw [.I 0, .str [], .I 0, .str [], .N]), (214, .raw [.I 42, .str [], .I 0, .str [], .own .Ae 5104]), (5104, .lst .Ae (a4 ++ ([(⟨a7_0.Op, a7_0.Name, a7_0.Int, a7_0.Text, a7_0.Kids⟩ : Aa)] : List Aa)))]⟩) ?_
   refine sg0 L 241 <| awp_turn (Turns.trans (Turns.kk [2] [0, 200, 5104]) (Turns.trans (Turns.fz 5104) (Turns.rr [(0, 0), (200, 100)]))) ?_
   refine awp_ret ?_
   cases h
   exact er0
  refine fN c2 ?_
  obtain ⟨⟨a8_0, a8_1⟩, h8, h⟩ := bind_some h
  dsimp only at h
  obtain ⟨g2, h⟩ := guard_some h
  refine hB L mixed 232 [] [] [(3, (ef0 (.agg (Ag a8_0)) [(0, .raw (Ac a8_1))]))] [0, 2] 3 (plc (hR.Ar h8) (plc g2 (plc trivial (plc (hR.Ar h8) (plc g2 (plc trivial (plc g2 (pl1 trivial)))))))) (S' := ⟨[(2, .P 200), (4, .P 214)], [(0, .raw (Ac a8_1)), (200, .raw [.I 0, .str [], .I 0, .str [], .N]), (214, .raw [.I 42, .str [], .I 0, .str [], .own .Ae 5104]), (5104, .lst .Ae (a4 ++ ([(⟨a8_0.Op, a8_0.Name, a8_0.Int, a8_0.Text, a8_0.Kids⟩ : Aa)] : List Aa)))]⟩) ?_
  refine sg0 L 241 <| awp_turn (Turns.trans (Turns.kk [2] [0, 200, 5104]) (Turns.trans (Turns.fz 5104) (Turns.rr [(0, 0), (200, 100)]))) ?_
  refine awp_ret ?_
  cases h
  exact er0
 refine fN c1 <| awp_skip' <| sg0 L 241 <| awp_turn (Turns.trans (Turns.kk [2] [0, 200, 5104]) (Turns.trans (Turns.fz 5104) (Turns.rr [(0, 0), (200, 100)]))) ?_
 refine awp_ret ?_
 cases h
 exact er0
def Bm.l9 (K : Nat) (R : A3) : Nat → (List As) → Int → Bool → (List Aa) → Option ((List As) × Int × Bool × (List Aa))
 | 0, _, _, _, _ => none
 | k + 1, xh0_0_9h, xh0_1_9h, xh0_2_9h, x21902 => (if (x21902.length : Int) < 16 then (Option.bind (Aj K ([99, 97, 115, 101] : List UInt8) (⟨xh0_0_9h, xh0_1_9h, xh0_2_9h⟩ : Ad)) (fun (a2_0, a2_1) => (if a2_0 = true then (Option.bind (((Option.bind (((Option.bind (C6 K a2_1 1) (fun a3 => (if a3 = true then (Option.bind (D3 K a2_1 ([61] : List UInt8)) (fun a4 => some a4)) else some false)))) : Option Bool) (fun xt23_20 => (if xt23_20 = true then (Option.bind (Cp K a2_1) (fun (a5_0, a5_1) => (Option.bind (A1 K ([61] : List UInt8) a5_1) (fun a6 => some (a5_0, a6.l, a6.at_, a6.bad))))) else some (([] : List UInt8), a2_1.l, a2_1.at_, a2_1.bad))))) : Option ((List UInt8) × (List As) × Int × Bool)) (fun (xt4_19, xh0_0_19, xh0_1_19, xh0_2_19) => (Option.bind (Av K (⟨xh0_0_19, xh0_1_19, xh0_2_19⟩ : Ad)) (fun (a7_0, a7_1) => (Option.bind (R.Ar a7_1) (fun (a8_0, a8_1) => (Option.bind (A2 K 50 a7_0 a8_0) (fun a9 => (if (x21902.length + ([(⟨a9.Op, xt4_19, a9.Int, a9.Text, a9.Kids⟩ : Aa)] : List Aa).length) * 72 ≤ 140737488355328 then Bm.l9 K R k a8_1.l a8_1.at_ a8_1.bad (x21902 ++ ([(⟨a9.Op, xt4_19, a9.Int, a9.Text, a9.Kids⟩ : Aa)] : List Aa)) else none))))))))) else some (a2_1.l, a2_1.at_, a2_1.bad, x21902)))) else some (xh0_0_9h, xh0_1_9h, xh0_2_9h, x21902))
def Bm.F (K : Nat) (R : A3) (p0 : Ad) : Option (Aa × Ad) := (Option.bind (A1 K ([123] : List UInt8) p0) (fun a1 => (Option.bind (Bm.l9 K R K a1.l a1.at_ a1.bad ([] : List Aa) : Option ((List As) × Int × Bool × (List Aa))) (fun (xh0_0_9, xh0_1_9, xh0_2_9, x21802) => (Option.bind (((Option.bind (Aj K ([101, 108, 115, 101] : List UInt8) (⟨xh0_0_9, xh0_1_9, xh0_2_9⟩ : Ad)) (fun (a10_0, a10_1) => (if a10_0 = true then (Option.bind (R.Ar a10_1) (fun (a11_0, a11_1) => (Option.bind (Cr K 51 a11_0) (fun a12 => (if (x21802.length + ([(⟨a12.Op, a12.Name, a12.Int, a12.Text, a12.Kids⟩ : Aa)] : List Aa).length) * 72 ≤ 140737488355328 then some (a11_1.l, a11_1.at_, a11_1.bad, (x21802 ++ ([(⟨a12.Op, a12.Name, a12.Int, a12.Text, a12.Kids⟩ : Aa)] : List Aa))) else none))))) else some (a10_1.l, a10_1.at_, a10_1.bad, x21802))))) : Option ((List As) × Int × Bool × (List Aa))) (fun (xh0_0_34, xh0_1_34, xh0_2_34, x26802) => (if (x26802.length : Int) = 0 then (Option.bind (A1 K ([125] : List UInt8) (⟨xh0_0_34, xh0_1_34, true⟩ : Ad)) (fun a13 => some ((⟨49, [], 0, [], x26802⟩ : Aa), a13))) else (Option.bind (A1 K ([125] : List UInt8) (⟨xh0_0_34, xh0_1_34, xh0_2_34⟩ : Ad)) (fun a14 => some ((⟨49, [], 0, [], x26802⟩ : Aa), a14))))))))))
theorem Bm.body {Γ : Ent} {K : Nat} {R : A3} (hR : R.Ok) {p0 : Ad} {r : Aa × Ad} (h : Bm.F K R p0 = some r) : AWp V P 62 100 Γ (Tryz.f143.body.getD .skip) (EndsE P V Tryz.f143 (.agg [.I r.1.Op, .str r.1.Name, .I r.1.Int, .str r.1.Text, .ro .Ae r.1.Kids]) [(0, .raw [.ro .Am r.2.l, .I r.2.at_, .B r.2.bad])]) ⟨args0 0 [.P 0], [(0, .raw (Ac p0))]⟩ := by
 unfold Bm.F at h
 refine sg0 L 200 <| sg0 L 202 <| awp_seq ?_
 obtain ⟨a1, h1, h⟩ := bind_some h
 refine rg L 206 [] [] [(1, (ef0 (.tup []) [(0, .raw (Ac a1))]))] (pl1 (A1.okE h1)) ?_
 refine awp_seq <| awp_block <| awp_turn (Turns.trans (Turns.kk [0, 2, 3] [0, 200, 203]) (Turns.trans (Turns.nc 203 4 9500 Tag.Ae) (Turns.trans (Turns.kk [0, 2, 3] [0, 200, 203, 9500]) (Turns.rr [(0, 0), (200, 21900), (203, 21901), (9500, 21902)])))) ?_
 refine kp (S' := ⟨[(0, .P 0), (2, .P 21900), (3, .P 21901)], [(0, .raw (Ac a1)), (21900, .raw [.I 0, .str [], .I 0, .str [], .N]), (21901, .raw [.I 49, .str [], .I 0, .str [], .own .Ae 21902]), (21902, .lst .Ae ([] : List Aa))]⟩) ?_
 obtain ⟨o3, hp3, h⟩ := bind_some h
 refine awp_conseq (Q' := fun e S => (e = .exit 0 ∧ ∃ xh0_0_9 : List As, ∃ xh0_1_9 : Int, ∃ xh0_2_9 : Bool, ∃ x21802 : List Aa, S = ⟨[(0, .P 0), (2, .P 21800), (3, .P 21801)], [(0, .raw [.ro .Am xh0_0_9, .I xh0_1_9, .B xh0_2_9]), (21800, .raw [.I 0, .str [], .I 0, .str [], .N]), (21801, .raw [.I 49, .str [], .I 0, .str [], .own .Ae 21802]), (21802, .lst .Ae x21802)]⟩ ∧ (xh0_0_9, xh0_1_9, xh0_2_9, x21802) = o3)) (awp_loop (fun k S => ∃ xh0_0_9h : List As, ∃ xh0_1_9h : Int, ∃ xh0_2_9h : Bool, ∃ x21902 : List Aa, S = ⟨[(0, .P 0), (2, .P 21900), (3, .P 21901)], [(0, .raw [.ro .Am xh0_0_9h, .I xh0_1_9h, .B xh0_2_9h]), (21900, .raw [.I 0, .str [], .I 0, .str [], .N]), (21901, .raw [.I 49, .str [], .I 0, .str [], .own .Ae 21902]), (21902, .lst .Ae x21902)]⟩ ∧ Bm.l9 K R k xh0_0_9h xh0_1_9h xh0_2_9h x21902 = some o3) ?_ ⟨_, _, _, _, rfl, hp3⟩) ?_
 ·clear h hp3
  intro k S hS
  obtain ⟨xh0_0_9h, xh0_1_9h, xh0_2_9h, x21902, rfl, h⟩ := hS
  cases k with
  | zero => cases h
  | succ k =>
  unfold Bm.l9 at h
  refine awp_seq <| awp_seq ?_
  rcases ite_some h with ⟨c1, h⟩ | ⟨c1, h⟩
  ·obtain ⟨⟨a2_0, a2_1⟩, h2, h⟩ := bind_some h
   dsimp only at h
   refine rg L 209 [(4, true)] [] [(6, (ef0 (.B a2_0) [(0, .raw (Ac a2_1))]))] (pl2 (decide_eq_true c1) (Aj.okE h2)) ?_
   rcases ite_some h with ⟨c2, h⟩ | ⟨c2, h⟩
   ·refine tt c2 <| awp_skip' <| awp_block <| sg0 L 218 ?_
    obtain ⟨o2, hp2, h⟩ := bind_some h
    refine awp_seq (awp_mono (Q' := fun e S => (e = .normal ∧ ∃ xt4_19 : List UInt8, ∃ xh0_0_19 : List As, ∃ xh0_1_19 : Int, ∃ xh0_2_19 : Bool, S = ⟨[(0, .P 0), (2, .P 23800), (3, .P 23801), (4, .cv (.str xt4_19))], [(0, .raw [.ro .Am xh0_0_19, .I xh0_1_19, .B xh0_2_19]), (23800, .raw [.I 0, .str [], .I 0, .str [], .N]), (23801, .raw [.I 49, .str [], .I 0, .str [], .own .Ae 23802]), (23802, .lst .Ae x21902)]⟩ ∧ (xt4_19, xh0_0_19, xh0_1_19, xh0_2_19) = o2)) ?_ ?_)
    ·clear h
     replace h := hp2
     obtain ⟨o1, hp1, h⟩ := bind_some h
     refine awp_seq (awp_mono (Q' := fun e S => (e = .normal ∧ ∃ xt23_20 : Bool, S = ⟨[(0, .P 0), (2, .P 24000), (3, .P 24001), (4, .cv (.str ([] : List UInt8))), (23, .B xt23_20)], [(0, .raw (Ac a2_1)), (24000, .raw [.I 0, .str [], .I 0, .str [], .N]), (24001, .raw [.I 49, .str [], .I 0, .str [], .own .Ae 24002]), (24002, .lst .Ae x21902)]⟩ ∧ xt23_20 = o1)) ?_ ?_)
     ·clear h
      replace h := hp1
      obtain ⟨a3, h3, h⟩ := bind_some h
      rcases ite_some h with ⟨c3, h⟩ | ⟨c3, h⟩
      ·obtain ⟨a4, h4, h⟩ := bind_some h
       refine awp_post (rg L 220 [(2, true)] [(1, .B a3), (4, .B a4)] [] (plc (C6.ok h3) (plc trivial (plc c3 (plc (D3.ok h4) (pl1 trivial))))) ⟨rfl, rfl⟩) (Turns.trans (Turns.kk [0, 2, 3, 4, 23] [0, 21900, 21901, 21902]) (Turns.trans (Turns.rr [(0, 0), (21900, 24000), (21901, 24001), (21902, 24002)]) (Turns.kp (S' := ⟨[(0, .P 0), (2, .P 24000), (3, .P 24001), (4, .cv (.str ([] : List UInt8))), (23, .B a4)], [(0, .raw (Ac a2_1)), (24000, .raw [.I 0, .str [], .I 0, .str [], .N]), (24001, .raw [.I 49, .str [], .I 0, .str [], .own .Ae 24002]), (24002, .lst .Ae x21902)]⟩)))) ?_
       cases h
       exact ⟨rfl, _, rfl, rfl⟩
      refine awp_post (rg L 220 [(2, false)] [(1, .B a3)] [] (plc (C6.ok h3) (plc trivial (pl1 (eq_false_of_ne_true c3)))) ⟨rfl, rfl⟩) (Turns.trans (Turns.kk [0, 2, 3, 4, 23] [0, 21900, 21901, 21902]) (Turns.trans (Turns.rr [(0, 0), (21900, 24000), (21901, 24001), (21902, 24002)]) (Turns.kp (S' := ⟨[(0, .P 0), (2, .P 24000), (3, .P 24001), (4, .cv (.str ([] : List UInt8))), (23, .B false)], [(0, .raw (Ac a2_1)), (24000, .raw [.I 0, .str [], .I 0, .str [], .N]), (24001, .raw [.I 49, .str [], .I 0, .str [], .own .Ae 24002]), (24002, .lst .Ae x21902)]⟩)))) ?_
      cases h
      exact ⟨rfl, _, rfl, rfl⟩
     ·rintro e S ⟨rfl, xt23_20, rfl, rfl⟩
      rcases ite_some h with ⟨c4, h⟩ | ⟨c4, h⟩
      ·refine tt c4 <| awp_seq ?_
       obtain ⟨⟨a5_0, a5_1⟩, h5, h⟩ := bind_some h
       dsimp only at h
       refine rg L 227 [] [] [(1, (ef0 (.cv (.str a5_0)) [(0, .raw (Ac a5_1))]))] (pl1 (Cp.okE h5)) ?_
       obtain ⟨a6, h6, h⟩ := bind_some h
       refine awp_post (rg L 231 [] [] [(1, (ef0 (.tup []) [(0, .raw (Ac a6))]))] (pl1 (A1.okE h6)) ⟨rfl, rfl⟩) (Turns.trans (Turns.kk [0, 2, 3, 4] [0, 24000, 24001, 24002]) (Turns.trans (Turns.rr [(0, 0), (24000, 23800), (24001, 23801), (24002, 23802)]) (Turns.kp (S' := ⟨[(0, .P 0), (2, .P 23800), (3, .P 23801), (4, .cv (.str a5_0))], [(0, .raw (Ac a6)), (23800, .raw [.I 0, .str [], .I 0, .str [], .N]), (23801, .raw [.I 49, .str [], .I 0, .str [], .own .Ae 23802]), (23802, .lst .Ae x21902)]⟩)))) ?_
       cases h
       exact ⟨rfl, _, _, _, _, rfl, rfl⟩
      refine fN c4 <| awp_turn (Turns.trans (Turns.kk [0, 2, 3, 4] [0, 24000, 24001, 24002]) (Turns.rr [(0, 0), (24000, 23800), (24001, 23801), (24002, 23802)])) ?_
      refine sk (S' := ⟨[(0, .P 0), (2, .P 23800), (3, .P 23801), (4, .cv (.str ([] : List UInt8)))], [(0, .raw (Ac a2_1)), (23800, .raw [.I 0, .str [], .I 0, .str [], .N]), (23801, .raw [.I 49, .str [], .I 0, .str [], .own .Ae 23802]), (23802, .lst .Ae x21902)]⟩) ?_
      cases h
      exact ⟨rfl, _, _, _, _, rfl, rfl⟩
    ·rintro e S ⟨rfl, xt4_19, xh0_0_19, xh0_1_19, xh0_2_19, rfl, rfl⟩
     dsimp only at h
     refine awp_seq ?_
     obtain ⟨⟨a7_0, a7_1⟩, h7, h⟩ := bind_some h
     dsimp only at h
     refine rg L 234 [] [] [(1, (ef0 (.agg (Ag a7_0)) [(0, .raw (Ac a7_1))]))] (pl1 (Av.okE h7)) ?_
     refine awp_seq ?_
     obtain ⟨⟨a8_0, a8_1⟩, h8, h⟩ := bind_some h
     dsimp only at h
     obtain ⟨a9, h9, h⟩ := bind_some h
     refine hB L mixed 239 [] [(3, .agg (Ag a9))] [(2, (ef0 (.agg (Ag a8_0)) [(0, .raw (Ac a8_1))]))] [1] 8 (plc (hR.Ar h8) (plc (A2.ok h9) (plc trivial (plc (A2.ok h9) (plc trivial (plc (hR.Ar h8) (plc (A2.ok h9) (plc trivial (plc (hR.Ar h8) (plc (A2.ok h9) (plc trivial (plc (A2.ok h9) (plc trivial (plc (A2.ok h9) (plc trivial (plc (hR.Ar h8) (plc (A2.ok h9) (plc trivial (plc (hR.Ar h8) (plc (A2.ok h9) (pl1 trivial))))))))))))))))))))) (S' := ⟨[(0, .P 0), (2, .P 23800), (3, .P 23801), (4, .cv (.str xt4_19)), (6, .P 243)], [(0, .raw (Ac a8_1)), (243, .raw (Ag a9)), (23800, .raw [.I 0, .str [], .I 0, .str [], .N]), (23801, .raw [.I 49, .str [], .I 0, .str [], .own .Ae 23802]), (23802, .lst .Ae x21902)]⟩) ?_
     refine sg0 L 246 ?_
     obtain ⟨g1, h⟩ := guard_some h
     refine awp_post (rg L 250 [] [] [] (plt g1) ⟨rfl, rfl⟩) (Turns.trans (Turns.kk [0, 2, 3] [0, 23800, 23801, 23802]) (Turns.trans (Turns.rr [(0, 0), (23800, 21900), (23801, 21901), (23802, 21902)]) (Turns.kp (S' := ⟨[(0, .P 0), (2, .P 21900), (3, .P 21901)], [(0, .raw (Ac a8_1)), (21900, .raw [.I 0, .str [], .I 0, .str [], .N]), (21901, .raw [.I 49, .str [], .I 0, .str [], .own .Ae 21902]), (21902, .lst .Ae (x21902 ++ ([(⟨a9.Op, xt4_19, a9.Int, a9.Text, a9.Kids⟩ : Aa)] : List Aa)))]⟩)))) ?_
     exact ⟨k, Nat.lt_succ_self k, _, _, _, _, rfl, h⟩
   refine fN c2 <| awp_turn (Turns.trans (Turns.kk [0, 2, 3] [0, 21900, 21901, 21902]) (Turns.rr [(0, 0), (21900, 21800), (21901, 21801), (21902, 21802)])) ?_
   refine ex (S' := ⟨[(0, .P 0), (2, .P 21800), (3, .P 21801)], [(0, .raw (Ac a2_1)), (21800, .raw [.I 0, .str [], .I 0, .str [], .N]), (21801, .raw [.I 49, .str [], .I 0, .str [], .own .Ae 21802]), (21802, .lst .Ae x21902)]⟩) ?_
   cases h
   exact ⟨rfl, _, _, _, _, rfl, rfl⟩
  refine rg L 209 [(4, false)] [] [] (pl1 (decide_eq_false c1)) ?_
  refine ff (b := false) (rfl) ?_
  refine awp_turn (Turns.trans (Turns.kk [0, 2, 3] [0, 21900, 21901, 21902]) (Turns.rr [(0, 0), (21900, 21800), (21901, 21801), (21902, 21802)])) ?_
  refine ex (S' := ⟨[(0, .P 0), (2, .P 21800), (3, .P 21801)], [(0, .raw [.ro .Am xh0_0_9h, .I xh0_1_9h, .B xh0_2_9h]), (21800, .raw [.I 0, .str [], .I 0, .str [], .N]), (21801, .raw [.I 49, .str [], .I 0, .str [], .own .Ae 21802]), (21802, .lst .Ae x21902)]⟩) ?_
  cases h
  exact ⟨rfl, _, _, _, _, rfl, rfl⟩
 ·rintro e S ⟨rfl, xh0_0_9, xh0_1_9, xh0_2_9, x21802, rfl, rfl⟩
  dsimp only at h
  refine ⟨_, Turns.refl, ?_⟩
  obtain ⟨o4, hp4, h⟩ := bind_some h
  refine awp_seq (awp_mono (Q' := fun e S => (e = .normal ∧ ∃ xh0_0_34 : List As, ∃ xh0_1_34 : Int, ∃ xh0_2_34 : Bool, ∃ x26802 : List Aa, S = ⟨[(0, .P 0), (2, .P 26800), (3, .P 26801)], [(0, .raw [.ro .Am xh0_0_34, .I xh0_1_34, .B xh0_2_34]), (26800, .raw [.I 0, .str [], .I 0, .str [], .N]), (26801, .raw [.I 49, .str [], .I 0, .str [], .own .Ae 26802]), (26802, .lst .Ae x26802)]⟩ ∧ (xh0_0_34, xh0_1_34, xh0_2_34, x26802) = o4)) ?_ ?_)
  ·clear h
   replace h := hp4
   refine awp_seq ?_
   obtain ⟨⟨a10_0, a10_1⟩, h10, h⟩ := bind_some h
   dsimp only at h
   refine rg L 258 [] [] [(1, (ef0 (.B a10_0) [(0, .raw (Ac a10_1))]))] (pl1 (Aj.okE h10)) ?_
   rcases ite_some h with ⟨c5, h⟩ | ⟨c5, h⟩
   ·refine tt c5 ?_
    obtain ⟨⟨a11_0, a11_1⟩, h11, h⟩ := bind_some h
    dsimp only at h
    obtain ⟨a12, h12, h⟩ := bind_some h
    obtain ⟨g2, h⟩ := guard_some h
    refine awp_post (hB L mixed 261 [] [(4, .agg (Ag a12))] [(3, (ef0 (.agg (Ag a11_0)) [(0, .raw (Ac a11_1))]))] [0, 2] 4 (plc (hR.Ar h11) (plc (Cr.ok h12) (plc trivial (plc g2 (plc trivial (plc (hR.Ar h11) (plc (Cr.ok h12) (plc trivial (plc g2 (plc trivial (plc (Cr.ok h12) (plc trivial (plc g2 (plc trivial (plc g2 (pl1 trivial)))))))))))))))) (S' := ⟨[(0, .P 0), (2, .P 21800), (3, .P 21801)], [(0, .raw (Ac a11_1)), (21800, .raw [.I 0, .str [], .I 0, .str [], .N]), (21801, .raw [.I 49, .str [], .I 0, .str [], .own .Ae 21802]), (21802, .lst .Ae (x21802 ++ ([(⟨a12.Op, a12.Name, a12.Int, a12.Text, a12.Kids⟩ : Aa)] : List Aa)))]⟩) ⟨rfl, rfl⟩) (Turns.trans (Turns.kk [0, 2, 3] [0, 21800, 21801, 21802]) (Turns.trans (Turns.rr [(0, 0), (21800, 26800), (21801, 26801), (21802, 26802)]) (Turns.kp (S' := ⟨[(0, .P 0), (2, .P 26800), (3, .P 26801)], [(0, .raw (Ac a11_1)), (26800, .raw [.I 0, .str [], .I 0, .str [], .N]), (26801, .raw [.I 49, .str [], .I 0, .str [], .own .Ae 26802]), (26802, .lst .Ae (x21802 ++ ([(⟨a12.Op, a12.Name, a12.Int, a12.Text, a12.Kids⟩ : Aa)] : List Aa)))]⟩)))) ?_
    cases h
    exact ⟨rfl, _, _, _, _, rfl, rfl⟩
   refine fN c5 <| awp_turn (Turns.trans (Turns.kk [0, 2, 3] [0, 21800, 21801, 21802]) (Turns.rr [(0, 0), (21800, 26800), (21801, 26801), (21802, 26802)])) ?_
   refine sk (S' := ⟨[(0, .P 0), (2, .P 26800), (3, .P 26801)], [(0, .raw (Ac a10_1)), (26800, .raw [.I 0, .str [], .I 0, .str [], .N]), (26801, .raw [.I 49, .str [], .I 0, .str [], .own .Ae 26802]), (26802, .lst .Ae x21802)]⟩) ?_
   cases h
   exact ⟨rfl, _, _, _, _, rfl, rfl⟩
  ·rintro e S ⟨rfl, xh0_0_34, xh0_1_34, xh0_2_34, x26802, rfl, rfl⟩
   dsimp only at h
   refine awp_seq <| sg0 L 271 ?_
   rcases ite_some h with ⟨c6, h⟩ | ⟨c6, h⟩
   ·refine tT c6 <| rg0 L 276 ?_
    refine awp_seq ?_
    obtain ⟨a13, h13, h⟩ := bind_some h
    refine rg L 281 [] [] [(1, (ef0 (.tup []) [(0, .raw (Ac a13))]))] (pl1 (A1.okE h13)) ?_
    refine sg0 L 284 <| awp_turn (Turns.trans (Turns.kk [2] [0, 26800, 26802]) (Turns.trans (Turns.fz 26802) (Turns.rr [(0, 0), (26800, 100)]))) ?_
    refine awp_ret ?_
    cases h
    exact er0
   refine fF c6 <| awp_skip' <| awp_seq ?_
   obtain ⟨a14, h14, h⟩ := bind_some h
   refine rg L 281 [] [] [(1, (ef0 (.tup []) [(0, .raw (Ac a14))]))] (pl1 (A1.okE h14)) ?_
   refine sg0 L 284 <| awp_turn (Turns.trans (Turns.kk [2] [0, 26800, 26802]) (Turns.trans (Turns.fz 26802) (Turns.rr [(0, 0), (26800, 100)]))) ?_
   refine awp_ret ?_
   cases h
   exact er0
def Cx.F (K : Nat) (R : A3) (p0 : Ad) : Option (Aa × Ad) := (Option.bind (((Option.bind (C9 K p0 ([108, 101, 116] : List UInt8)) (fun a1 => (if a1 = true then some true else (Option.bind (C6 K p0 1) (fun a2 => (if a2 = true then (Option.bind (D3 K p0 ([61] : List UInt8)) (fun a3 => some a3)) else some false))))))) : Option Bool) (fun xt11_5 => (if xt11_5 = true then (Option.bind ((Option.bind (Aj K ([108, 101, 116] : List UInt8) p0) (fun (a4_0, a4_1) => (if a4_0 = true then some (40, a4_1.l, a4_1.at_, a4_1.bad) else some (41, a4_1.l, a4_1.at_, a4_1.bad)))) : Option (Int × (List As) × Int × Bool)) (fun (xt3_10, xh0_0_10, xh0_1_10, xh0_2_10) => (Option.bind (Cp K (⟨xh0_0_10, xh0_1_10, xh0_2_10⟩ : Ad)) (fun (a5_0, a5_1) => (Option.bind (A1 K ([61] : List UInt8) a5_1) (fun a6 => (Option.bind (Av K a6) (fun (a7_0, a7_1) => (Option.bind (Cr K xt3_10 a7_0) (fun a8 => (Option.bind (Cv K (⟨a8.Op, a5_0, a8.Int, a8.Text, a8.Kids⟩ : Aa) a7_1) (fun (a9_0, a9_1) => some (a9_0, a9_1))))))))))))) else (Option.bind (C9 K p0 ([105, 102] : List UInt8)) (fun a10 => (if a10 = true then (Option.bind (R.Ch p0) (fun (a11_0, a11_1) => some (a11_0, a11_1))) else (Option.bind (Aj K ([119, 104, 105, 108, 101] : List UInt8) p0) (fun (a12_0, a12_1) => (if a12_0 = true then (Option.bind (Av K a12_1) (fun (a13_0, a13_1) => (Option.bind (R.Ar a13_1) (fun (a14_0, a14_1) => (Option.bind (A2 K 43 a13_0 a14_0) (fun a15 => some (a15, a14_1))))))) else (Option.bind (Aj K ([114, 101, 116, 117, 114, 110] : List UInt8) a12_1) (fun (a16_0, a16_1) => (if a16_0 = true then (Option.bind (Aj K ([59] : List UInt8) a16_1) (fun (a17_0, a17_1) => (if a17_0 = true then some ((⟨44, [], 0, [], ([] : List Aa)⟩ : Aa), a17_1) else (Option.bind (Av K a17_1) (fun (a18_0, a18_1) => (Option.bind (Cr K 44 a18_0) (fun a19 => (Option.bind (Cv K a19 a18_1) (fun (a20_0, a20_1) => some (a20_0, a20_1)))))))))) else (Option.bind (Aj K ([116, 104, 114, 111, 119] : List UInt8) a16_1) (fun (a21_0, a21_1) => (if a21_0 = true then (Option.bind (Av K a21_1) (fun (a22_0, a22_1) => (Option.bind (Cr K 45 a22_0) (fun a23 => (Option.bind (Cv K a23 a22_1) (fun (a24_0, a24_1) => some (a24_0, a24_1))))))) else (Option.bind (Aj K ([116, 114, 121] : List UInt8) a21_1) (fun (a25_0, a25_1) => (if a25_0 = true then (Option.bind (R.Ar a25_1) (fun (a26_0, a26_1) => (Option.bind (A1 K ([99, 97, 116, 99, 104] : List UInt8) a26_1) (fun a27 => (Option.bind (Cp K a27) (fun (a28_0, a28_1) => (Option.bind (R.Ar a28_1) (fun (a29_0, a29_1) => (Option.bind (A2 K 46 a26_0 a29_0) (fun a30 => some ((⟨a30.Op, a28_0, a30.Int, a30.Text, a30.Kids⟩ : Aa), a29_1))))))))))) else (Option.bind (Aj K ([115, 97, 103, 97] : List UInt8) a25_1) (fun (a31_0, a31_1) => (if a31_0 = true then (Option.bind (R.Ar a31_1) (fun (a32_0, a32_1) => (Option.bind (Cr K 47 a32_0) (fun a33 => some (a33, a32_1))))) else (Option.bind (Aj K ([117, 110, 100, 111] : List UInt8) a31_1) (fun (a34_0, a34_1) => (if a34_0 = true then (Option.bind (Cp K a34_1) (fun (a35_0, a35_1) => (Option.bind (A1 K ([40] : List UInt8) a35_1) (fun a36 => (Option.bind (Bg K ([41] : List UInt8) a36) (fun (a37_0, a37_1) => (Option.bind (Cv K (⟨48, a35_0, 0, [], a37_0⟩ : Aa) a37_1) (fun (a38_0, a38_1) => some (a38_0, a38_1))))))))) else (Option.bind (Aj K ([115, 101, 108, 101, 99, 116] : List UInt8) a34_1) (fun (a39_0, a39_1) => (if a39_0 = true then (Option.bind (R.Bm a39_1) (fun (a40_0, a40_1) => some (a40_0, a40_1))) else (Option.bind (Av K a39_1) (fun (a41_0, a41_1) => (Option.bind (Cr K 52 a41_0) (fun a42 => (Option.bind (Cv K a42 a41_1) (fun (a43_0, a43_1) => some (a43_0, a43_1))))))))))))))))))))))))))))))))))
theorem Cx.body {Γ : Ent} {K : Nat} {R : A3} (hR : R.Ok) {p0 : Ad} {r : Aa × Ad} (h : Cx.F K R p0 = some r) : AWp V P 115 100 Γ (Tryz.f131.body.getD .skip) (EndsE P V Tryz.f131 (.agg [.I r.1.Op, .str r.1.Name, .I r.1.Int, .str r.1.Text, .ro .Ae r.1.Kids]) [(0, .raw [.ro .Am r.2.l, .I r.2.at_, .B r.2.bad])]) ⟨args0 0 [.P 0], [(0, .raw (Ac p0))]⟩ := by
 unfold Cx.F at h
 refine sg0 L 200 <| awp_seq <| awp_block ?_
 obtain ⟨o1, hp1, h⟩ := bind_some h
 refine awp_seq (awp_mono (Q' := fun e S => (e = .normal ∧ ∃ xt11_5 : Bool, S = ⟨[(0, .P 0), (2, .P 21000), (11, .B xt11_5)], [(0, .raw (Ac p0)), (21000, .raw [.I 0, .str [], .I 0, .str [], .N])]⟩ ∧ xt11_5 = o1)) ?_ ?_)
 ·clear h
  replace h := hp1
  obtain ⟨a1, h1, h⟩ := bind_some h
  rcases ite_some h with ⟨c1, h⟩ | ⟨c1, h⟩
  ·refine awp_post (rg L 202 [(2, true)] [(1, .B a1)] [] (plc (C9.ok h1) (plc trivial (pl1 c1))) ⟨rfl, rfl⟩) (Turns.trans (Turns.kk [0, 2, 11] [0, 200]) (Turns.trans (Turns.rr [(0, 0), (200, 21000)]) (Turns.kp (S' := ⟨[(0, .P 0), (2, .P 21000), (11, .B true)], [(0, .raw (Ac p0)), (21000, .raw [.I 0, .str [], .I 0, .str [], .N])]⟩)))) ?_
   cases h
   exact ⟨rfl, _, rfl, rfl⟩
  obtain ⟨a2, h2, h⟩ := bind_some h
  rcases ite_some h with ⟨c2, h⟩ | ⟨c2, h⟩
  ·obtain ⟨a3, h3, h⟩ := bind_some h
   refine awp_post (rg L 202 [(2, false), (5, true)] [(1, .B a1), (4, .B a2), (7, .B a3)] [] (plc (C9.ok h1) (plc trivial (plc (eq_false_of_ne_true c1) (plc (C6.ok h2) (plc trivial (plc c2 (plc (D3.ok h3) (pl1 trivial)))))))) ⟨rfl, rfl⟩) (Turns.trans (Turns.kk [0, 2, 11] [0, 200]) (Turns.trans (Turns.rr [(0, 0), (200, 21000)]) (Turns.kp (S' := ⟨[(0, .P 0), (2, .P 21000), (11, .B a3)], [(0, .raw (Ac p0)), (21000, .raw [.I 0, .str [], .I 0, .str [], .N])]⟩)))) ?_
   cases h
   exact ⟨rfl, _, rfl, rfl⟩
  refine awp_post (rg L 202 [(2, false), (5, false)] [(1, .B a1), (4, .B a2)] [] (plc (C9.ok h1) (plc trivial (plc (eq_false_of_ne_true c1) (plc (C6.ok h2) (plc trivial (pl1 (eq_false_of_ne_true c2))))))) ⟨rfl, rfl⟩) (Turns.trans (Turns.kk [0, 2, 11] [0, 200]) (Turns.trans (Turns.rr [(0, 0), (200, 21000)]) (Turns.kp (S' := ⟨[(0, .P 0), (2, .P 21000), (11, .B false)], [(0, .raw (Ac p0)), (21000, .raw [.I 0, .str [], .I 0, .str [], .N])]⟩)))) ?_
  cases h
  exact ⟨rfl, _, rfl, rfl⟩
 ·rintro e S ⟨rfl, xt11_5, rfl, rfl⟩
  rcases ite_some h with ⟨c3, h⟩ | ⟨c3, h⟩
  ·refine tt c3 <| sg0 L 214 ?_
   obtain ⟨o2, hp2, h⟩ := bind_some h
   refine awp_seq (awp_mono (Q' := fun e S => (e = .normal ∧ ∃ xt3_10 : Int, ∃ xh0_0_10 : List As, ∃ xh0_1_10 : Int, ∃ xh0_2_10 : Bool, S = ⟨[(0, .P 0), (2, .P 22000), (3, .I xt3_10)], [(0, .raw [.ro .Am xh0_0_10, .I xh0_1_10, .B xh0_2_10]), (22000, .raw [.I 0, .str [], .I 0, .str [], .N])]⟩ ∧ (xt3_10, xh0_0_10, xh0_1_10, xh0_2_10) = o2)) ?_ ?_)
   ·clear h
    replace h := hp2
    refine awp_seq ?_
    obtain ⟨⟨a4_0, a4_1⟩, h4, h⟩ := bind_some h
    dsimp only at h
    refine rg L 216 [] [] [(1, (ef0 (.B a4_0) [(0, .raw (Ac a4_1))]))] (pl1 (Aj.okE h4)) ?_
    rcases ite_some h with ⟨c4, h⟩ | ⟨c4, h⟩
    ·refine tt c4 <| awp_post (rg0 L 219 ⟨rfl, rfl⟩) (Turns.trans (Turns.kk [0, 2, 3] [0, 21000]) (Turns.trans (Turns.rr [(0, 0), (21000, 22000)]) (Turns.kp (S' := ⟨[(0, .P 0), (2, .P 22000), (3, .I 40)], [(0, .raw (Ac a4_1)), (22000, .raw [.I 0, .str [], .I 0, .str [], .N])]⟩)))) ?_
     cases h
     exact ⟨rfl, _, _, _, _, rfl, rfl⟩
    refine fN c4 <| awp_turn (Turns.trans (Turns.kk [0, 2, 3] [0, 21000]) (Turns.rr [(0, 0), (21000, 22000)])) ?_
    refine sk (S' := ⟨[(0, .P 0), (2, .P 22000), (3, .I 41)], [(0, .raw (Ac a4_1)), (22000, .raw [.I 0, .str [], .I 0, .str [], .N])]⟩) ?_
    cases h
    exact ⟨rfl, _, _, _, _, rfl, rfl⟩
   ·rintro e S ⟨rfl, xt3_10, xh0_0_10, xh0_1_10, xh0_2_10, rfl, rfl⟩
    dsimp only at h
    refine awp_seq ?_
    obtain ⟨⟨a5_0, a5_1⟩, h5, h⟩ := bind_some h
    dsimp only at h
    refine rg L 221 [] [] [(1, (ef0 (.cv (.str a5_0)) [(0, .raw (Ac a5_1))]))] (pl1 (Cp.okE h5)) ?_
    refine awp_seq ?_
    obtain ⟨a6, h6, h⟩ := bind_some h
    refine rg L 225 [] [] [(1, (ef0 (.tup []) [(0, .raw (Ac a6))]))] (pl1 (A1.okE h6)) ?_
    refine awp_seq ?_
    obtain ⟨⟨a7_0, a7_1⟩, h7, h⟩ := bind_some h
    dsimp only at h
    obtain ⟨a8, h8, h⟩ := bind_some h
    refine rg L 228 [] [(3, .agg (Ag a8))] [(2, (ef0 (.agg (Ag a7_0)) [(0, .raw (Ac a7_1))]))] (plc (Av.okE h7) (plc (Cr.ok h8) (pl1 trivial))) ?_
    refine sg0 L 235 <| awp_seq ?_
    obtain ⟨⟨a9_0, a9_1⟩, h9, h⟩ := bind_some h
    dsimp only at h
    refine rg L 239 [] [] [(2, (ef0 (.agg (Ag a9_0)) [(0, .raw (Ac a9_1))]))] (pl1 (Cv.okE h9)) ?_
    refine awp_turn (Turns.trans (Turns.kk [2] [0, 22000]) (Turns.rr [(0, 0), (22000, 100)])) ?_
    refine awp_ret ?_
    cases h
    exact er0
  refine fN c3 <| awp_seq ?_
  obtain ⟨a10, h10, h⟩ := bind_some h
  refine rg L 244 [] [(1, .B a10)] [] (plt (C9.ok h10)) ?_
  rcases ite_some h with ⟨c5, h⟩ | ⟨c5, h⟩
  ·refine tt c5 <| awp_seq ?_
   obtain ⟨⟨a11_0, a11_1⟩, h11, h⟩ := bind_some h
   dsimp only at h
   refine rg L 248 [] [] [(1, (ef0 (.agg (Ag a11_0)) [(0, .raw (Ac a11_1))]))] (pl1 (hR.Ch h11)) ?_
   refine awp_turn (Turns.trans (Turns.kk [2] [0, 21000]) (Turns.rr [(0, 0), (21000, 100)])) ?_
   refine awp_ret ?_
   cases h
   exact er0
  refine fN c5 <| awp_seq ?_
  obtain ⟨⟨a12_0, a12_1⟩, h12, h⟩ := bind_some h
  dsimp only at h
  refine rg L 252 [] [] [(1, (ef0 (.B a12_0) [(0, .raw (Ac a12_1))]))] (pl1 (Aj.okE h12)) ?_
  rcases ite_some h with ⟨c6, h⟩ | ⟨c6, h⟩
  ·refine tt c6 <| awp_seq ?_
   obtain ⟨⟨a13_0, a13_1⟩, h13, h⟩ := bind_some h
   dsimp only at h
   refine rg L 256 [] [] [(1, (ef0 (.agg (Ag a13_0)) [(0, .raw (Ac a13_1))]))] (pl1 (Av.okE h13)) ?_
   refine awp_seq ?_
   obtain ⟨⟨a14_0, a14_1⟩, h14, h⟩ := bind_some h
   dsimp only at h
   obtain ⟨a15, h15, h⟩ := bind_some h
   refine hB L mixed 261 [] [(3, .agg (Ag a15))] [(2, (ef0 (.agg (Ag a14_0)) [(0, .raw (Ac a14_1))]))] [1] 2 (plc (hR.Ar h14) (plc (A2.ok h15) (plc trivial (plc (hR.Ar h14) (plc (A2.ok h15) (pl1 trivial)))))) (S' := ⟨[(2, .P 21000)], [(0, .raw (Ac a14_1)), (21000, .raw (Ag a15))]⟩) ?_
   refine awp_turn (Turns.trans (Turns.kk [2] [0, 21000]) (Turns.rr [(0, 0), (21000, 100)])) ?_
   refine awp_ret ?_
   cases h
   exact er0
  refine fN c6 <| awp_seq ?_
  obtain ⟨⟨a16_0, a16_1⟩, h16, h⟩ := bind_some h
  dsimp only at h
  refine rg L 267 [] [] [(1, (ef0 (.B a16_0) [(0, .raw (Ac a16_1))]))] (pl1 (Aj.okE h16)) ?_
  rcases ite_some h with ⟨c7, h⟩ | ⟨c7, h⟩
  ·refine tt c7 <| awp_seq <| awp_seq ?_
   obtain ⟨⟨a17_0, a17_1⟩, h17, h⟩ := bind_some h
   dsimp only at h
   refine rg L 271 [] [] [(1, (ef0 (.B a17_0) [(0, .raw (Ac a17_1))]))] (pl1 (Aj.okE h17)) ?_
   rcases ite_some h with ⟨c8, h⟩ | ⟨c8, h⟩
   ·refine tt c8 <| sg0 L 274 <| awp_turn (Turns.trans (Turns.kk [2] [0, 21000]) (Turns.rr [(0, 0), (21000, 100)])) ?_
    refine awp_ret ?_
    cases h
    exact er0
   refine fN c8 <| awp_skip' <| awp_seq ?_
   obtain ⟨⟨a18_0, a18_1⟩, h18, h⟩ := bind_some h
   dsimp only at h
   obtain ⟨a19, h19, h⟩ := bind_some h
   obtain ⟨⟨a20_0, a20_1⟩, h20, h⟩ := bind_some h
   dsimp only at h
   refine rg L 277 [] [(3, .agg (Ag a19))] [(2, (ef0 (.agg (Ag a18_0)) [(0, .raw (Ac a18_1))])), (4, (ef0 (.agg (Ag a20_0)) [(0, .raw (Ac a20_1))]))] (plc (Av.okE h18) (plc (Cr.ok h19) (plc trivial (pl1 (Cv.okE h20))))) ?_
   refine awp_turn (Turns.trans (Turns.kk [2] [0, 21000]) (Turns.rr [(0, 0), (21000, 100)])) ?_
   refine awp_ret ?_
   cases h
   exact er0
  refine fN c7 <| awp_seq ?_
  obtain ⟨⟨a21_0, a21_1⟩, h21, h⟩ := bind_some h
  dsimp only at h
  refine rg L 284 [] [] [(1, (ef0 (.B a21_0) [(0, .raw (Ac a21_1))]))] (pl1 (Aj.okE h21)) ?_
  rcases ite_some h with ⟨c9, h⟩ | ⟨c9, h⟩
  ·refine tt c9 <| awp_seq ?_
   obtain ⟨⟨a22_0, a22_1⟩, h22, h⟩ := bind_some h
   dsimp only at h
   obtain ⟨a23, h23, h⟩ := bind_some h
   obtain ⟨⟨a24_0, a24_1⟩, h24, h⟩ := bind_some h
   dsimp only at h
   refine rg L 288 [] [(3, .agg (Ag a23))] [(2, (ef0 (.agg (Ag a22_0)) [(0, .raw (Ac a22_1))])), (4, (ef0 (.agg (Ag a24_0)) [(0, .raw (Ac a24_1))]))] (plc (Av.okE h22) (plc (Cr.ok h23) (plc trivial (pl1 (Cv.okE h24))))) ?_
   refine awp_turn (Turns.trans (Turns.kk [2] [0, 21000]) (Turns.rr [(0, 0), (21000, 100)])) ?_
   refine awp_ret ?_
   cases h
   exact er0
  refine fN c9 <| awp_seq ?_
  obtain ⟨⟨a25_0, a25_1⟩, h25, h⟩ := bind_some h
  dsimp only at h
  refine rg L 295 [] [] [(1, (ef0 (.B a25_0) [(0, .raw (Ac a25_1))]))] (pl1 (Aj.okE h25)) ?_
  rcases ite_some h with ⟨c10, h⟩ | ⟨c10, h⟩
  ·refine tt c10 <| awp_seq ?_
   obtain ⟨⟨a26_0, a26_1⟩, h26, h⟩ := bind_some h
   dsimp only at h
   refine rg L 299 [] [] [(1, (ef0 (.agg (Ag a26_0)) [(0, .raw (Ac a26_1))]))] (pl1 (hR.Ar h26)) ?_
   refine awp_seq ?_
   obtain ⟨a27, h27, h⟩ := bind_some h
   refine rg L 304 [] [] [(1, (ef0 (.tup []) [(0, .raw (Ac a27))]))] (pl1 (A1.okE h27)) ?_
   refine awp_seq ?_
   obtain ⟨⟨a28_0, a28_1⟩, h28, h⟩ := bind_some h
   dsimp only at h
   refine rg L 307 [] [] [(1, (ef0 (.cv (.str a28_0)) [(0, .raw (Ac a28_1))]))] (pl1 (Cp.okE h28)) ?_
   refine awp_seq ?_
   obtain ⟨⟨a29_0, a29_1⟩, h29, h⟩ := bind_some h
   dsimp only at h
   obtain ⟨a30, h30, h⟩ := bind_some h
   refine hB L mixed 311 [] [(3, .agg (Ag a30))] [(2, (ef0 (.agg (Ag a29_0)) [(0, .raw (Ac a29_1))]))] [1] 8 (plc (hR.Ar h29) (plc (A2.ok h30) (plc trivial (plc (A2.ok h30) (plc trivial (plc (hR.Ar h29) (plc (A2.ok h30) (plc trivial (plc (hR.Ar h29) (plc (A2.ok h30) (plc trivial (plc (A2.ok h30) (plc trivial (plc (A2.ok h30) (plc trivial (plc (hR.Ar h29) (plc (A2.ok h30) (plc trivial (plc (hR.Ar h29) (plc (A2.ok h30) (pl1 trivial))))))))))))))))))))) (S' := ⟨[(2, .P 21000), (8, .cv (.str a28_0)), (9, .P 315)], [(0, .raw (Ac a29_1)), (315, .raw (Ag a30)), (21000, .raw [.I 0, .str [], .I 0, .str [], .N])]⟩) ?_
   refine sg0 L 318 <| sg0 L 322 <| awp_turn (Turns.trans (Turns.kk [2] [0, 21000]) (Turns.rr [(0, 0), (21000, 100)])) ?_
   refine awp_ret ?_
   cases h
   exact er0
  refine fN c10 <| awp_seq ?_
  obtain ⟨⟨a31_0, a31_1⟩, h31, h⟩ := bind_some h
  dsimp only at h
  refine rg L 325 [] [] [(1, (ef0 (.B a31_0) [(0, .raw (Ac a31_1))]))] (pl1 (Aj.okE h31)) ?_
  rcases ite_some h with ⟨c11, h⟩ | ⟨c11, h⟩
  ·refine tt c11 <| awp_seq ?_
   obtain ⟨⟨a32_0, a32_1⟩, h32, h⟩ := bind_some h
   dsimp only at h
   obtain ⟨a33, h33, h⟩ := bind_some h
   refine rg L 329 [] [(2, .agg (Ag a33))] [(1, (ef0 (.agg (Ag a32_0)) [(0, .raw (Ac a32_1))]))] (plc (hR.Ar h32) (plc (Cr.ok h33) (pl1 trivial))) ?_
   refine awp_turn (Turns.trans (Turns.kk [2] [0, 21000]) (Turns.rr [(0, 0), (21000, 100)])) ?_
   refine awp_ret ?_
   cases h
   exact er0
  refine fN c11 <| awp_seq ?_
  obtain ⟨⟨a34_0, a34_1⟩, h34, h⟩ := bind_some h
  dsimp only at h
  refine rg L 334 [] [] [(1, (ef0 (.B a34_0) [(0, .raw (Ac a34_1))]))] (pl1 (Aj.okE h34)) ?_
  rcases ite_some h with ⟨c12, h⟩ | ⟨c12, h⟩
  ·refine tt c12 <| awp_seq ?_
   obtain ⟨⟨a35_0, a35_1⟩, h35, h⟩ := bind_some h
   dsimp only at h
   refine rg L 338 [] [] [(1, (ef0 (.cv (.str a35_0)) [(0, .raw (Ac a35_1))]))] (pl1 (Cp.okE h35)) ?_
   refine awp_seq ?_
   obtain ⟨a36, h36, h⟩ := bind_some h
   refine rg L 342 [] [] [(1, (ef0 (.tup []) [(0, .raw (Ac a36))]))] (pl1 (A1.okE h36)) ?_
   refine awp_seq ?_
   obtain ⟨⟨a37_0, a37_1⟩, h37, h⟩ := bind_some h
   dsimp only at h
   obtain ⟨⟨a38_0, a38_1⟩, h38, h⟩ := bind_some h
   dsimp only at h
   refine rg L 345 [] [] [(3, (ef0 (.cv (.ro .Ae a37_0)) [(0, .raw (Ac a37_1))])), (5, (ef0 (.agg (Ag a38_0)) [(0, .raw (Ac a38_1))]))] (pl2 (Bg.okE h37) (Cv.okE h38)) ?_
   refine awp_turn (Turns.trans (Turns.kk [2] [0, 21000]) (Turns.rr [(0, 0), (21000, 100)])) ?_
   refine awp_ret ?_
   cases h
   exact er0
  refine fN c12 <| awp_seq ?_
  obtain ⟨⟨a39_0, a39_1⟩, h39, h⟩ := bind_some h
  dsimp only at h
  refine rg L 353 [] [] [(1, (ef0 (.B a39_0) [(0, .raw (Ac a39_1))]))] (pl1 (Aj.okE h39)) ?_
  rcases ite_some h with ⟨c13, h⟩ | ⟨c13, h⟩
  ·refine tt c13 <| awp_seq ?_
   obtain ⟨⟨a40_0, a40_1⟩, h40, h⟩ := bind_some h
   dsimp only at h
   refine rg L 357 [] [] [(1, (ef0 (.agg (Ag a40_0)) [(0, .raw (Ac a40_1))]))] (pl1 (hR.Bm h40)) ?_
   refine awp_turn (Turns.trans (Turns.kk [2] [0, 21000]) (Turns.rr [(0, 0), (21000, 100)])) ?_
   refine awp_ret ?_
   cases h
   exact er0
  refine fN c13 <| awp_skip' <| awp_seq ?_
  obtain ⟨⟨a41_0, a41_1⟩, h41, h⟩ := bind_some h
  dsimp only at h
  obtain ⟨a42, h42, h⟩ := bind_some h
  obtain ⟨⟨a43_0, a43_1⟩, h43, h⟩ := bind_some h
  dsimp only at h
  refine rg L 361 [] [(3, .agg (Ag a42))] [(2, (ef0 (.agg (Ag a41_0)) [(0, .raw (Ac a41_1))])), (4, (ef0 (.agg (Ag a43_0)) [(0, .raw (Ac a43_1))]))] (plc (Av.okE h41) (plc (Cr.ok h42) (plc trivial (pl1 (Cv.okE h43))))) ?_
  refine awp_turn (Turns.trans (Turns.kk [2] [0, 21000]) (Turns.rr [(0, 0), (21000, 100)])) ?_
  refine awp_ret ?_
  cases h
  exact er0
def Ar.l9 (K : Nat) (R : A3) : Nat → (List As) → Int → Bool → (List Aa) → Option ((List As) × Int × Bool × (List Aa))
 | 0, _, _, _, _ => none
 | k + 1, xh0_0_9h, xh0_1_9h, xh0_2_9h, x21902 => (if xh0_2_9h = true then some (xh0_0_9h, xh0_1_9h, xh0_2_9h, x21902) else (Option.bind (Aj K ([125] : List UInt8) (⟨xh0_0_9h, xh0_1_9h, xh0_2_9h⟩ : Ad)) (fun (a2_0, a2_1) => (if a2_0 = true then some (a2_1.l, a2_1.at_, a2_1.bad, x21902) else (Option.bind (R.Cx a2_1) (fun (a3_0, a3_1) => (if (x21902.length + ([(⟨a3_0.Op, a3_0.Name, a3_0.Int, a3_0.Text, a3_0.Kids⟩ : Aa)] : List Aa).length) * 72 ≤ 140737488355328 then Ar.l9 K R k a3_1.l a3_1.at_ a3_1.bad (x21902 ++ ([(⟨a3_0.Op, a3_0.Name, a3_0.Int, a3_0.Text, a3_0.Kids⟩ : Aa)] : List Aa)) else none)))))))
def Ar.F (K : Nat) (R : A3) (p0 : Ad) : Option (Aa × Ad) := (Option.bind (A1 K ([123] : List UInt8) p0) (fun a1 => (Option.bind (Ar.l9 K R K a1.l a1.at_ a1.bad ([] : List Aa) : Option ((List As) × Int × Bool × (List Aa))) (fun (xh0_0_9, xh0_1_9, xh0_2_9, x21802) => some ((⟨53, [], 0, [], x21802⟩ : Aa), (⟨xh0_0_9, xh0_1_9, xh0_2_9⟩ : Ad))))))
theorem Ar.body {Γ : Ent} {K : Nat} {R : A3} (hR : R.Ok) {p0 : Ad} {r : Aa × Ad} (h : Ar.F K R p0 = some r) : AWp V P 25 100 Γ (Tryz.f116.body.getD .skip) (EndsE P V Tryz.f116 (.agg [.I r.1.Op, .str r.1.Name, .I r.1.Int, .str r.1.Text, .ro .Ae r.1.Kids]) [(0, .raw [.ro .Am r.2.l, .I r.2.at_, .B r.2.bad])]) ⟨args0 0 [.P 0], [(0, .raw (Ac p0))]⟩ := by
 unfold Ar.F at h
 refine sg0 L 200 <| sg0 L 202 <| awp_seq ?_
 obtain ⟨a1, h1, h⟩ := bind_some h
 refine rg L 206 [] [] [(1, (ef0 (.tup []) [(0, .raw (Ac a1))]))] (pl1 (A1.okE h1)) ?_
 refine awp_seq <| awp_block <| awp_turn (Turns.trans (Turns.kk [0, 2, 3] [0, 200, 203]) (Turns.trans (Turns.nc 203 4 9500 Tag.Ae) (Turns.trans (Turns.kk [0, 2, 3] [0, 200, 203, 9500]) (Turns.rr [(0, 0), (200, 21900), (203, 21901), (9500, 21902)])))) ?_
 refine kp (S' := ⟨[(0, .P 0), (2, .P 21900), (3, .P 21901)], [(0, .raw (Ac a1)), (21900, .raw [.I 0, .str [], .I 0, .str [], .N]), (21901, .raw [.I 53, .str [], .I 0, .str [], .own .Ae 21902]), (21902, .lst .Ae ([] : List Aa))]⟩) ?_
 obtain ⟨o1, hp1, h⟩ := bind_some h
 refine awp_conseq (Q' := fun e S => (e = .exit 0 ∧ ∃ xh0_0_9 : List As, ∃ xh0_1_9 : Int, ∃ xh0_2_9 : Bool, ∃ x21802 : List Aa, S = ⟨[(2, .P 21800), (3, .P 21801)], [(0, .raw [.ro .Am xh0_0_9, .I xh0_1_9, .B xh0_2_9]), (21800, .raw [.I 0, .str [], .I 0, .str [], .N]), (21801, .raw [.I 53, .str [], .I 0, .str [], .own .Ae 21802]), (21802, .lst .Ae x21802)]⟩ ∧ (xh0_0_9, xh0_1_9, xh0_2_9, x21802) = o1)) (awp_loop (fun k S => ∃ xh0_0_9h : List As, ∃ xh0_1_9h : Int, ∃ xh0_2_9h : Bool, ∃ x21902 : List Aa, S = ⟨[(0, .P 0), (2, .P 21900), (3, .P 21901)], [(0, .raw [.ro .Am xh0_0_9h, .I xh0_1_9h, .B xh0_2_9h]), (21900, .raw [.I 0, .str [], .I 0, .str [], .N]), (21901, .raw [.I 53, .str [], .I 0, .str [], .own .Ae 21902]), (21902, .lst .Ae x21902)]⟩ ∧ Ar.l9 K R k xh0_0_9h xh0_1_9h xh0_2_9h x21902 = some o1) ?_ ⟨_, _, _, _, rfl, hp1⟩) ?_
 ·clear h hp1
  intro k S hS
  obtain ⟨xh0_0_9h, xh0_1_9h, xh0_2_9h, x21902, rfl, h⟩ := hS
  cases k with
  | zero => cases h
  | succ k =>
  unfold Ar.l9 at h
  refine awp_seq <| awp_seq ?_
  rcases ite_some h with ⟨c1, h⟩ | ⟨c1, h⟩
  ·refine rg L 209 [(5, false)] [] [] (pl1 (show (!xh0_2_9h) = false from congrArg Bool.not (c1))) ?_
   refine ff (b := false) (rfl) ?_
   refine awp_turn (Turns.trans (Turns.kk [2, 3] [0, 21900, 21901, 21902]) (Turns.rr [(0, 0), (21900, 21800), (21901, 21801), (21902, 21802)])) ?_
   refine ex (S' := ⟨[(2, .P 21800), (3, .P 21801)], [(0, .raw [.ro .Am xh0_0_9h, .I xh0_1_9h, .B xh0_2_9h]), (21800, .raw [.I 0, .str [], .I 0, .str [], .N]), (21801, .raw [.I 53, .str [], .I 0, .str [], .own .Ae 21802]), (21802, .lst .Ae x21902)]⟩) ?_
   cases h
   exact ⟨rfl, _, _, _, _, rfl, rfl⟩
  obtain ⟨⟨a2_0, a2_1⟩, h2, h⟩ := bind_some h
  dsimp only at h
  refine rg L 209 [(5, true)] [] [(7, (ef0 (.B a2_0) [(0, .raw (Ac a2_1))]))] (pl2 (show (!xh0_2_9h) = true from congrArg Bool.not (eq_false_of_ne_true c1)) (Aj.okE h2)) ?_
  rcases ite_some h with ⟨c2, h⟩ | ⟨c2, h⟩
  ·refine ff (b := (!a2_0)) (congrArg Bool.not (c2)) ?_
   refine awp_turn (Turns.trans (Turns.kk [2, 3] [0, 21900, 21901, 21902]) (Turns.rr [(0, 0), (21900, 21800), (21901, 21801), (21902, 21802)])) ?_
   refine ex (S' := ⟨[(2, .P 21800), (3, .P 21801)], [(0, .raw (Ac a2_1)), (21800, .raw [.I 0, .str [], .I 0, .str [], .N]), (21801, .raw [.I 53, .str [], .I 0, .str [], .own .Ae 21802]), (21802, .lst .Ae x21902)]⟩) ?_
   cases h
   exact ⟨rfl, _, _, _, _, rfl, rfl⟩
  refine tt (b := (!a2_0)) (congrArg Bool.not (eq_false_of_ne_true c2)) ?_
  refine awp_skip' <| awp_block ?_
  obtain ⟨⟨a3_0, a3_1⟩, h3, h⟩ := bind_some h
  dsimp only at h
  obtain ⟨g1, h⟩ := guard_some h
  refine hB L mixed 220 [] [] [(3, (ef0 (.agg (Ag a3_0)) [(0, .raw (Ac a3_1))]))] [0, 2] 3 (plc (hR.Cx h3) (plc g1 (plc trivial (plc (hR.Cx h3) (plc g1 (plc trivial (plc g1 (pl1 trivial)))))))) (S' := ⟨[(0, .P 0), (2, .P 21900), (3, .P 21901)], [(0, .raw (Ac a3_1)), (21900, .raw [.I 0, .str [], .I 0, .str [], .N]), (21901, .raw [.I 53, .str [], .I 0, .str [], .own .Ae 21902]), (21902, .lst .Ae (x21902 ++ ([(⟨a3_0.Op, a3_0.Name, a3_0.Int, a3_0.Text, a3_0.Kids⟩ : Aa)] : List Aa)))]⟩) ?_
  exact ⟨k, Nat.lt_succ_self k, _, _, _, _, rfl, h⟩
 ·rintro e S ⟨rfl, xh0_0_9, xh0_1_9, xh0_2_9, x21802, rfl, rfl⟩
  dsimp only at h
  refine ⟨_, Turns.refl, ?_⟩
  refine sg0 L 229 <| awp_turn (Turns.trans (Turns.kk [2] [0, 21800, 21802]) (Turns.trans (Turns.fz 21802) (Turns.rr [(0, 0), (21800, 100)]))) ?_
  refine awp_ret ?_
  cases h
  exact er0
def A3.upto (K : Nat) : Nat → A3
 | 0 => ⟨fun _ => none, fun _ => none, fun _ => none, fun _ => none⟩
 | k + 1 => ⟨Ch.F K (A3.upto K k), Bm.F K (A3.upto K k), Cx.F K (A3.upto K k), Ar.F K (A3.upto K k)⟩
theorem A3.upto_ok (K : Nat) : ∀ k, (A3.upto K k).Ok
 | 0 => ⟨fun h => (by cases h), fun h => (by cases h), fun h => (by cases h), fun h => (by cases h)⟩
 | k + 1 => ⟨fun {p0 r} h => eo (fn := Tryz.f142) (n := 32) (m := 100) fun Γ => Ch.body (K := K) (A3.upto_ok K k) h, fun {p0 r} h => eo (fn := Tryz.f143) (n := 62) (m := 100) fun Γ => Bm.body (K := K) (A3.upto_ok K k) h, fun {p0 r} h => eo (fn := Tryz.f131) (n := 115) (m := 100) fun Γ => Cx.body (K := K) (A3.upto_ok K k) h, fun {p0 r} h => eo (fn := Tryz.f116) (n := 25) (m := 100) fun Γ => Ar.body (K := K) (A3.upto_ok K k) h⟩
def Ch (K : Nat) (p0 : Ad) : Option (Aa × Ad) := (A3.upto K K).Ch p0
theorem Ch.okE {K : Nat} {p0 : Ad} {r : Aa × Ad} (h : Ch K p0 = some r) : ECall V P 142 [.P 0] [(0, .raw (Ac p0))] [0] (.agg [.I r.1.Op, .str r.1.Name, .I r.1.Int, .str r.1.Text, .ro .Ae r.1.Kids]) [(0, .raw [.ro .Am r.2.l, .I r.2.at_, .B r.2.bad])] := (A3.upto_ok K K).Ch h
def Bm (K : Nat) (p0 : Ad) : Option (Aa × Ad) := (A3.upto K K).Bm p0
theorem Bm.okE {K : Nat} {p0 : Ad} {r : Aa × Ad} (h : Bm K p0 = some r) : ECall V P 143 [.P 0] [(0, .raw (Ac p0))] [0] (.agg [.I r.1.Op, .str r.1.Name, .I r.1.Int, .str r.1.Text, .ro .Ae r.1.Kids]) [(0, .raw [.ro .Am r.2.l, .I r.2.at_, .B r.2.bad])] := (A3.upto_ok K K).Bm h
def Cx (K : Nat) (p0 : Ad) : Option (Aa × Ad) := (A3.upto K K).Cx p0
theorem Cx.okE {K : Nat} {p0 : Ad} {r : Aa × Ad} (h : Cx K p0 = some r) : ECall V P 131 [.P 0] [(0, .raw (Ac p0))] [0] (.agg [.I r.1.Op, .str r.1.Name, .I r.1.Int, .str r.1.Text, .ro .Ae r.1.Kids]) [(0, .raw [.ro .Am r.2.l, .I r.2.at_, .B r.2.bad])] := (A3.upto_ok K K).Cx h
def Ar (K : Nat) (p0 : Ad) : Option (Aa × Ad) := (A3.upto K K).Ar p0
theorem Ar.okE {K : Nat} {p0 : Ad} {r : Aa × Ad} (h : Ar K p0 = some r) : ECall V P 116 [.P 0] [(0, .raw (Ac p0))] [0] (.agg [.I r.1.Op, .str r.1.Name, .I r.1.Int, .str r.1.Text, .ro .Ae r.1.Kids]) [(0, .raw [.ro .Am r.2.l, .I r.2.at_, .B r.2.bad])] := (A3.upto_ok K K).Ar h
structure Dz where
 C2 : Aa → Option Int
structure Dz.Ok (R : Dz) : Prop where
 C2 : ∀ {p0 : Aa} {r : Int}, R.C2 p0 = some r → ECall V P 14 [.agg (Ag p0)] [] [] (.I r) []
theorem C2.okR {R : Dz} (hR : R.Ok) {p0 : Aa} {r : Int} (h : R.C2 p0 = some r) : PCall V P 14 [.agg (Ag p0)] (.I r) := (hR.C2 h).pcall (by kernel_rfl)
def C2.l9 (K : Nat) (R : Dz) (p0 : Aa) : Nat → Int → Int → Option Int
 | 0, _, _ => none
 | k + 1, xt3_9h, xt4_9h => (if xt4_9h < (p0.Kids.length : Int) then (if (0 : Int) ≤ xt4_9h ∧ (xt4_9h : Int) < (p0.Kids.length : Int) then (Option.bind (R.C2 (p0.Kids.getD (Int.toNat xt4_9h) Ay)) (fun a1 => C2.l9 K R p0 k (IntKind.i64.wrap (xt3_9h + a1)) (IntKind.i64.wrap (xt4_9h + 1)))) else none) else some xt3_9h)
def C2.F (K : Nat) (R : Dz) (p0 : Aa) : Option Int := (Option.bind (C2.l9 K R p0 K 1 0 : Option Int) (fun xt3_9 => some xt3_9))
theorem C2.body {Γ : Ent} {K : Nat} {R : Dz} (hR : R.Ok) {p0 : Aa} {r : Int} (h : C2.F K R p0 = some r) : AWp V P 21 100 Γ (Tryz.f14.body.getD .skip) (EndsE P V Tryz.f14 (.I r) []) ⟨args0 0 [.agg (Ag p0)], []⟩ := by
 unfold C2.F at h
 refine sg0 L 200 <| sg0 L 203 <| awp_seq <| sg0 L 205 <| awp_block <| awp_turn (Turns.trans (Turns.kk [1, 3, 4] [200]) (Turns.rr [(200, 21900)])) ?_
 refine kp (S' := ⟨[(1, .P 21900), (3, .I 1), (4, .I 0)], [(21900, .raw (Ag p0))]⟩) ?_
 obtain ⟨o1, hp1, h⟩ := bind_some h
 refine awp_conseq (Q' := fun e S => (e = .exit 0 ∧ ∃ xt3_9 : Int, S = ⟨[(3, .I xt3_9)], []⟩ ∧ xt3_9 = o1)) (awp_loop (fun k S => ∃ xt3_9h : Int, ∃ xt4_9h : Int, S = ⟨[(1, .P 21900), (3, .I xt3_9h), (4, .I xt4_9h)], [(21900, .raw (Ag p0))]⟩ ∧ C2.l9 K R p0 k xt3_9h xt4_9h = some o1) ?_ ⟨_, _, rfl, hp1⟩) ?_
 ·clear h hp1
  intro k S hS
  obtain ⟨xt3_9h, xt4_9h, rfl, h⟩ := hS
  cases k with
  | zero => cases h
  | succ k =>
  unfold C2.l9 at h
  refine awp_seq <| sg0 L 207 ?_
  rcases ite_some h with ⟨c1, h⟩ | ⟨c1, h⟩
  ·refine tT c1 <| awp_skip' <| awp_seq <| awp_block ?_
   obtain ⟨g1, h⟩ := guard_some h
   obtain ⟨a1, h1, h⟩ := bind_some h
   refine rg L 213 [] [(6, .I a1)] [] (plc g1.1 (plc g1.2 (plc (C2.okR hR h1) (pl1 trivial)))) ?_
   refine ar0 L 223 [] [] [] (S' := ⟨[(1, .P 21900), (3, .I (IntKind.i64.wrap (xt3_9h + a1))), (4, .I (IntKind.i64.wrap (xt4_9h + 1)))], [(21900, .raw (Ag p0))]⟩) ?_
   exact ⟨k, Nat.lt_succ_self k, _, _, rfl, h⟩
  refine fF c1 <| ex (S' := ⟨[(3, .I xt3_9h)], []⟩) ?_
  cases h
  exact ⟨rfl, _, rfl, rfl⟩
 ·rintro e S ⟨rfl, xt3_9, rfl, rfl⟩
  refine ⟨_, Turns.refl, ?_⟩
  refine sg0 L 227 <| awp_ret ?_
  cases h
  exact er0
def Dz.upto (K : Nat) : Nat → Dz
 | 0 => ⟨fun _ => none⟩
 | k + 1 => ⟨C2.F K (Dz.upto K k)⟩
theorem Dz.upto_ok (K : Nat) : ∀ k, (Dz.upto K k).Ok
 | 0 => ⟨fun h => (by cases h)⟩
 | k + 1 => ⟨fun {p0 r} h => eo (fn := Tryz.f14) (n := 21) (m := 100) fun Γ => C2.body (K := K) (Dz.upto_ok K k) h⟩
def C2 (K : Nat) (p0 : Aa) : Option Int := (Dz.upto K K).C2 p0
theorem C2.okE {K : Nat} {p0 : Aa} {r : Int} (h : C2 K p0 = some r) : ECall V P 14 [.agg (Ag p0)] [] [] (.I r) [] := (Dz.upto_ok K K).C2 h
theorem C2.ok {K : Nat} {p0 : Aa} {r : Int} (h : C2 K p0 = some r) : PCall V P 14 [.agg (Ag p0)] (.I r) := (C2.okE h).pcall (by kernel_rfl)
structure Dt where
 Cq : Aa → Option Int
structure Dt.Ok (R : Dt) : Prop where
 Cq : ∀ {p0 : Aa} {r : Int}, R.Cq p0 = some r → ECall V P 23 [.agg (Ag p0)] [] [] (.I r) []
theorem Cq.okR {R : Dt} (hR : R.Ok) {p0 : Aa} {r : Int} (h : R.Cq p0 = some r) : PCall V P 23 [.agg (Ag p0)] (.I r) := (hR.Cq h).pcall (by kernel_rfl)
def Cq.l9 (K : Nat) (R : Dt) (p0 : Aa) : Nat → Int → Int → Option Int
 | 0, _, _ => none
 | k + 1, xt3_9h, xt4_9h => (if xt4_9h < (p0.Kids.length : Int) then (if (0 : Int) ≤ xt4_9h ∧ (xt4_9h : Int) < (p0.Kids.length : Int) then (Option.bind (R.Cq (p0.Kids.getD (Int.toNat xt4_9h) Ay)) (fun a1 => (if a1 > xt3_9h then Cq.l9 K R p0 k a1 (IntKind.i64.wrap (xt4_9h + 1)) else Cq.l9 K R p0 k xt3_9h (IntKind.i64.wrap (xt4_9h + 1))))) else none) else some xt3_9h)
def Cq.F (K : Nat) (R : Dt) (p0 : Aa) : Option Int := (Option.bind (Cq.l9 K R p0 K 0 0 : Option Int) (fun xt3_9 => some (IntKind.i64.wrap (xt3_9 + 1))))
theorem Cq.body {Γ : Ent} {K : Nat} {R : Dt} (hR : R.Ok) {p0 : Aa} {r : Int} (h : Cq.F K R p0 = some r) : AWp V P 25 100 Γ (Tryz.f23.body.getD .skip) (EndsE P V Tryz.f23 (.I r) []) ⟨args0 0 [.agg (Ag p0)], []⟩ := by
 unfold Cq.F at h
 refine sg0 L 200 <| sg0 L 203 <| awp_seq <| sg0 L 205 <| awp_block <| awp_turn (Turns.trans (Turns.kk [1, 3, 4] [200]) (Turns.rr [(200, 21900)])) ?_
 refine kp (S' := ⟨[(1, .P 21900), (3, .I 0), (4, .I 0)], [(21900, .raw (Ag p0))]⟩) ?_
 obtain ⟨o1, hp1, h⟩ := bind_some h
 refine awp_conseq (Q' := fun e S => (e = .exit 0 ∧ ∃ xt3_9 : Int, S = ⟨[(3, .I xt3_9)], []⟩ ∧ xt3_9 = o1)) (awp_loop (fun k S => ∃ xt3_9h : Int, ∃ xt4_9h : Int, S = ⟨[(1, .P 21900), (3, .I xt3_9h), (4, .I xt4_9h)], [(21900, .raw (Ag p0))]⟩ ∧ Cq.l9 K R p0 k xt3_9h xt4_9h = some o1) ?_ ⟨_, _, rfl, hp1⟩) ?_
 ·clear h hp1
  intro k S hS
  obtain ⟨xt3_9h, xt4_9h, rfl, h⟩ := hS
  cases k with
  | zero => cases h
  | succ k =>
  unfold Cq.l9 at h
  refine awp_seq <| sg0 L 207 ?_
  rcases ite_some h with ⟨c1, h⟩ | ⟨c1, h⟩
  ·refine tT c1 <| awp_skip' <| awp_seq <| awp_block <| awp_seq ?_
   obtain ⟨g1, h⟩ := guard_some h
   obtain ⟨a1, h1, h⟩ := bind_some h
   refine rg L 213 [] [(5, .I a1)] [] (plc g1.1 (plc g1.2 (plc (Cq.okR hR h1) (pl1 trivial)))) ?_
   refine sg0 L 221 ?_
   rcases ite_some h with ⟨c2, h⟩ | ⟨c2, h⟩
   ·refine tT c2 <| rg0 L 225 ?_
    refine ar0 L 228 [] [] [] (S' := ⟨[(1, .P 21900), (3, .I a1), (4, .I (IntKind.i64.wrap (xt4_9h + 1)))], [(21900, .raw (Ag p0))]⟩) ?_
    exact ⟨k, Nat.lt_succ_self k, _, _, rfl, h⟩
   refine fF c2 <| awp_skip' <| ar0 L 228 [] [] [] (S' := ⟨[(1, .P 21900), (3, .I xt3_9h), (4, .I (IntKind.i64.wrap (xt4_9h + 1)))], [(21900, .raw (Ag p0))]⟩) ?_
   exact ⟨k, Nat.lt_succ_self k, _, _, rfl, h⟩
  refine fF c1 <| ex (S' := ⟨[(3, .I xt3_9h)], []⟩) ?_
  cases h
  exact ⟨rfl, _, rfl, rfl⟩
 ·rintro e S ⟨rfl, xt3_9, rfl, rfl⟩
  refine ⟨_, Turns.refl, ?_⟩
  refine sg0 L 232 <| awp_ret ?_
  cases h
  exact er0
def Dt.upto (K : Nat) : Nat → Dt
 | 0 => ⟨fun _ => none⟩
 | k + 1 => ⟨Cq.F K (Dt.upto K k)⟩
theorem Dt.upto_ok (K : Nat) : ∀ k, (Dt.upto K k).Ok
 | 0 => ⟨fun h => (by cases h)⟩
 | k + 1 => ⟨fun {p0 r} h => eo (fn := Tryz.f23) (n := 25) (m := 100) fun Γ => Cq.body (K := K) (Dt.upto_ok K k) h⟩
def Cq (K : Nat) (p0 : Aa) : Option Int := (Dt.upto K K).Cq p0
theorem Cq.okE {K : Nat} {p0 : Aa} {r : Int} (h : Cq K p0 = some r) : ECall V P 23 [.agg (Ag p0)] [] [] (.I r) [] := (Dt.upto_ok K K).Cq h
theorem Cq.ok {K : Nat} {p0 : Aa} {r : Int} (h : Cq K p0 = some r) : PCall V P 23 [.agg (Ag p0)] (.I r) := (Cq.okE h).pcall (by kernel_rfl)
structure Dk where
 B4 : Aa → Int → Option Int
structure Dk.Ok (R : Dk) : Prop where
 B4 : ∀ {p0 : Aa} {p1 : Int} {r : Int}, R.B4 p0 p1 = some r → ECall V P 34 [.agg (Ag p0), .I p1] [] [] (.I r) []
theorem B4.okR {R : Dk} (hR : R.Ok) {p0 : Aa} {p1 : Int} {r : Int} (h : R.B4 p0 p1 = some r) : PCall V P 34 [.agg (Ag p0), .I p1] (.I r) := (hR.B4 h).pcall (by kernel_rfl)
def B4.l9 (K : Nat) (R : Dk) (p0 : Aa) : Nat → Int → Int → Option Int
 | 0, _, _ => none
 | k + 1, xt1_9h, xt5_9h => (if xt5_9h < (p0.Kids.length : Int) then (if xt1_9h ≥ 0 then (if (0 : Int) ≤ xt5_9h ∧ (xt5_9h : Int) < (p0.Kids.length : Int) then (Option.bind (R.B4 (p0.Kids.getD (Int.toNat xt5_9h) Ay) xt1_9h) (fun a1 => B4.l9 K R p0 k a1 (IntKind.i64.wrap (xt5_9h + 1)))) else none) else some xt1_9h) else some xt1_9h)
def B4.F (K : Nat) (R : Dk) (p0 : Aa) (p1 : Int) : Option Int := (Option.bind (B4.l9 K R p0 K (IntKind.i64.wrap (p1 - 1)) 0 : Option Int) (fun xt1_9 => some xt1_9))
theorem B4.body {Γ : Ent} {K : Nat} {R : Dk} (hR : R.Ok) {p0 : Aa} {p1 : Int} {r : Int} (h : B4.F K R p0 p1 = some r) : AWp V P 27 100 Γ (Tryz.f34.body.getD .skip) (EndsE P V Tryz.f34 (.I r) []) ⟨args0 0 [.agg (Ag p0), .I p1], []⟩ := by
 unfold B4.F at h
 refine sg0 L 200 <| sg0 L 203 <| awp_seq <| sg0 L 207 <| awp_block <| awp_turn (Turns.trans (Turns.kk [1, 2, 5] [200]) (Turns.rr [(200, 21900)])) ?_
 refine kp (S' := ⟨[(1, .I (IntKind.i64.wrap (p1 - 1))), (2, .P 21900), (5, .I 0)], [(21900, .raw (Ag p0))]⟩) ?_
 obtain ⟨o1, hp1, h⟩ := bind_some h
 refine awp_conseq (Q' := fun e S => (e = .exit 0 ∧ ∃ xt1_9 : Int, S = ⟨[(1, .I xt1_9)], []⟩ ∧ xt1_9 = o1)) (awp_loop (fun k S => ∃ xt1_9h : Int, ∃ xt5_9h : Int, S = ⟨[(1, .I xt1_9h), (2, .P 21900), (5, .I xt5_9h)], [(21900, .raw (Ag p0))]⟩ ∧ B4.l9 K R p0 k xt1_9h xt5_9h = some o1) ?_ ⟨_, _, rfl, hp1⟩) ?_
 ·clear h hp1
  intro k S hS
  obtain ⟨xt1_9h, xt5_9h, rfl, h⟩ := hS
  cases k with
  | zero => cases h
  | succ k =>
  unfold B4.l9 at h
  refine awp_seq <| awp_seq ?_
  rcases ite_some h with ⟨c1, h⟩ | ⟨c1, h⟩
  ·refine rg L 209 [(5, true)] [] [] (pl1 (decide_eq_true c1)) ?_
   rcases ite_some h with ⟨c2, h⟩ | ⟨c2, h⟩
   ·refine tT c2 <| awp_skip' <| awp_seq <| awp_block ?_
    obtain ⟨g1, h⟩ := guard_some h
    obtain ⟨a1, h1, h⟩ := bind_some h
    refine rg L 219 [] [(6, .I a1)] [] (plc g1.1 (plc g1.2 (plc (B4.okR hR h1) (pl1 trivial)))) ?_
    refine ar0 L 228 [] [] [] (S' := ⟨[(1, .I a1), (2, .P 21900), (5, .I (IntKind.i64.wrap (xt5_9h + 1)))], [(21900, .raw (Ag p0))]⟩) ?_
    exact ⟨k, Nat.lt_succ_self k, _, _, rfl, h⟩
   refine fF c2 <| ex (S' := ⟨[(1, .I xt1_9h)], []⟩) ?_
   cases h
   exact ⟨rfl, _, rfl, rfl⟩
  refine rg L 209 [(5, false)] [] [] (pl1 (decide_eq_false c1)) ?_
  refine ff (b := false) (rfl) ?_
  refine ex (S' := ⟨[(1, .I xt1_9h)], []⟩) ?_
  cases h
  exact ⟨rfl, _, rfl, rfl⟩
 ·rintro e S ⟨rfl, xt1_9, rfl, rfl⟩
  refine ⟨_, Turns.refl, ?_⟩
  refine sg0 L 232 <| awp_ret ?_
  cases h
  exact er0
def Dk.upto (K : Nat) : Nat → Dk
 | 0 => ⟨fun _ _ => none⟩
 | k + 1 => ⟨B4.F K (Dk.upto K k)⟩
theorem Dk.upto_ok (K : Nat) : ∀ k, (Dk.upto K k).Ok
 | 0 => ⟨fun h => (by cases h)⟩
 | k + 1 => ⟨fun {p0 p1 r} h => eo (fn := Tryz.f34) (n := 27) (m := 100) fun Γ => B4.body (K := K) (Dk.upto_ok K k) h⟩
def B4 (K : Nat) (p0 : Aa) (p1 : Int) : Option Int := (Dk.upto K K).B4 p0 p1
theorem B4.okE {K : Nat} {p0 : Aa} {p1 : Int} {r : Int} (h : B4 K p0 p1 = some r) : ECall V P 34 [.agg (Ag p0), .I p1] [] [] (.I r) [] := (Dk.upto_ok K K).B4 h
theorem B4.ok {K : Nat} {p0 : Aa} {p1 : Int} {r : Int} (h : B4 K p0 p1 = some r) : PCall V P 34 [.agg (Ag p0), .I p1] (.I r) := (B4.okE h).pcall (by kernel_rfl)
def Ed (K : Nat) (p0 : Aa) (p1 : Int) : Option Bool := (Option.bind (B4 K p0 p1) (fun a1 => some (decide (a1 ≥ 0))))
theorem Ed.body {Γ : Ent} {K : Nat} {p0 : Aa} {p1 : Int} {r : Bool} (h : Ed K p0 p1 = some r) : AWp V P 9 100 Γ (Tryz.f18.body.getD .skip) (EndsE P V Tryz.f18 (.B r) []) ⟨args0 0 [.agg (Ag p0), .I p1], []⟩ := by
 unfold Ed at h
 refine sg0 L 200 <| awp_seq ?_
 obtain ⟨a1, h1, h⟩ := bind_some h
 refine rg L 203 [] [(2, .I a1)] [] (plt (B4.ok h1)) ?_
 refine awp_ret ?_
 cases h
 exact er0
theorem Ed.ok {K : Nat} {p0 : Aa} {p1 : Int} {r : Bool} (h : Ed K p0 p1 = some r) : PCall V P 18 [.agg (Ag p0), .I p1] (.B r) := ECall.pcall (eo (fn := Tryz.f18) (n := 9) (m := 100) fun Γ => Ed.body h) (by kernel_rfl)
def D4 (K : Nat) (p0 : Int) : Option Bool := (if p0 ≥ 97 then (if p0 ≤ 122 then some true else (if p0 ≥ 65 then (if p0 ≤ 90 then some true else some (decide (p0 = 95))) else some (decide (p0 = 95)))) else (if p0 ≥ 65 then (if p0 ≤ 90 then some true else some (decide (p0 = 95))) else some (decide (p0 = 95))))
theorem D4.body {Γ : Ent} {K : Nat} {p0 : Int} {r : Bool} (h : D4 K p0 = some r) : AWp V P 21 100 Γ (Tryz.f94.body.getD .skip) (EndsE P V Tryz.f94 (.B r) []) ⟨args0 0 [.cv (.lit (.int .u8 p0))], []⟩ := by
 unfold D4 at h
 refine sg0 L 200 <| awp_seq ?_
 rcases ite_some h with ⟨c1, h⟩ | ⟨c1, h⟩
 ·rcases ite_some h with ⟨c2, h⟩ | ⟨c2, h⟩
  ·refine rg L 202 [(2, true), (6, true)] [] [] (pl2 (decide_eq_true c1) (decide_eq_true c2)) ?_
   refine awp_ret ?_
   cases h
   exact er0
  rcases ite_some h with ⟨c3, h⟩ | ⟨c3, h⟩
  ·rcases ite_some h with ⟨c4, h⟩ | ⟨c4, h⟩
   ·refine rg L 202 [(2, true), (6, false), (9, true), (14, true)] [] [] (plc (decide_eq_true c1) (plc (decide_eq_false c2) (plc (decide_eq_true c3) (pl1 (decide_eq_true c4))))) ?_
    refine awp_ret ?_
    cases h
    exact er0
   refine rg L 202 [(2, true), (6, false), (9, true), (14, false)] [] [] (plc (decide_eq_true c1) (plc (decide_eq_false c2) (plc (decide_eq_true c3) (pl1 (decide_eq_false c4))))) ?_
   refine awp_ret ?_
   cases h
   exact er0
  refine rg L 202 [(2, true), (6, false), (9, false)] [] [] (plc (decide_eq_true c1) (plc (decide_eq_false c2) (pl1 (decide_eq_false c3)))) ?_
  refine awp_ret ?_
  cases h
  exact er0
 rcases ite_some h with ⟨c5, h⟩ | ⟨c5, h⟩
 ·rcases ite_some h with ⟨c6, h⟩ | ⟨c6, h⟩
  ·refine rg L 202 [(2, false), (9, true), (14, true)] [] [] (plc (decide_eq_false c1) (plc (decide_eq_true c5) (pl1 (decide_eq_true c6)))) ?_
   refine awp_ret ?_
   cases h
   exact er0
  refine rg L 202 [(2, false), (9, true), (14, false)] [] [] (plc (decide_eq_false c1) (plc (decide_eq_true c5) (pl1 (decide_eq_false c6)))) ?_
  refine awp_ret ?_
  cases h
  exact er0
 refine rg L 202 [(2, false), (9, false)] [] [] (pl2 (decide_eq_false c1) (decide_eq_false c5)) ?_
 refine awp_ret ?_
 cases h
 exact er0
theorem D4.ok {K : Nat} {p0 : Int} {r : Bool} (h : D4 K p0 = some r) : PCall V P 94 [.cv (.lit (.int .u8 p0))] (.B r) := ECall.pcall (eo (fn := Tryz.f94) (n := 21) (m := 100) fun Γ => D4.body h) (by kernel_rfl)
def Dj.l15 (K : Nat) (p0 : List UInt8) : Nat → Int → Option (Out Bool Unit)
 | 0, _ => none
 | k + 1, xt3_15h => (if xt3_15h < (p0.length : Int) then (if (0 : Int) ≤ xt3_15h ∧ (xt3_15h : Int) < (p0.length : Int) then (Option.bind (D4 K ((p0.getD (Int.toNat xt3_15h) 0).toNat : Int)) (fun a3 => (if a3 = true then Dj.l15 K p0 k (IntKind.i64.wrap (xt3_15h + 1)) else (if ((p0.getD (Int.toNat xt3_15h) 0).toNat : Int) < 48 then some (Out.done false) else (if ((p0.getD (Int.toNat xt3_15h) 0).toNat : Int) > 57 then some (Out.done false) else Dj.l15 K p0 k (IntKind.i64.wrap (xt3_15h + 1))))))) else none) else some (Out.go ()))
def Dj (K : Nat) (p0 : List UInt8) : Option Bool := (if p0 = ([] : List UInt8) then some false else (if (p0.length : Int) > 64 then some false else (if (0 : Int) < (p0.length : Int) then (Option.bind (D4 K ((p0.getD (Int.toNat 0) 0).toNat : Int)) (fun a1 => (if a1 = true then (Option.bind (D0 K p0) (fun a2 => (if a2 = true then some false else (obind (Dj.l15 K p0 K 0 : Option (Out Bool Unit)) (fun r => r) (fun _ => some true))))) else some false))) else none)))
theorem Dj.body {Γ : Ent} {K : Nat} {p0 : List UInt8} {r : Bool} (h : Dj K p0 = some r) : AWp V P 44 100 Γ (Tryz.f65.body.getD .skip) (EndsE P V Tryz.f65 (.B r) []) ⟨args0 0 [.cv (.str p0)], []⟩ := by
 unfold Dj at h
 refine sg0 L 200 <| awp_seq <| awp_seq ?_
 rcases ite_some h with ⟨c1, h⟩ | ⟨c1, h⟩
 ·refine rg L 202 [(2, true)] [] [] (pl1 (decide_eq_true c1)) ?_
  refine tt (b := true) (rfl) ?_
  refine sg0 L 220 <| awp_ret ?_
  cases h
  exact er0
 rcases ite_some h with ⟨c2, h⟩ | ⟨c2, h⟩
 ·refine rg L 202 [(2, false), (7, true)] [] [] (pl2 (decide_eq_false c1) (decide_eq_true c2)) ?_
  refine tt (b := true) (rfl) ?_
  refine sg0 L 220 <| awp_ret ?_
  cases h
  exact er0
 obtain ⟨g1, h⟩ := guard_some h
 obtain ⟨a1, h1, h⟩ := bind_some h
 rcases ite_some h with ⟨c3, h⟩ | ⟨c3, h⟩
 ·obtain ⟨a2, h2, h⟩ := bind_some h
  refine rg L 202 [(2, false), (7, false), (13, false)] [(10, .B a1), (15, .B a2)] [] (plc (decide_eq_false c1) (plc (decide_eq_false c2) (plc (show (0 : Int) ≤ 0 from by decide) (plc g1 (plc (D4.ok h1) (plc trivial (plc (show (!a1) = false from congrArg Bool.not (c3)) (plc (D0.ok h2) (pl1 trivial))))))))) ?_
  rcases ite_some h with ⟨c4, h⟩ | ⟨c4, h⟩
  ·refine tt c4 <| sg0 L 220 <| awp_ret ?_
   cases h
   exact er0
  refine fN c4 <| awp_skip' <| awp_seq <| sg0 L 222 <| awp_block <| kp (S' := ⟨[(0, .cv (.str p0)), (3, .I 0)], []⟩) ?_
  obtain ⟨o1, hp1, h⟩ := obind_some h
  refine awp_conseq (Q' := fun e S => (e = .exit 0 ∧ S = ⟨[], []⟩ ∧ Out.go () = o1) ∨ (e = .ret ∧ ∃ a, Out.done a = o1 ∧ EndsE P V Tryz.f65 (.B a) [] .ret S)) (awp_loop (fun k S => ∃ xt3_15h : Int, S = ⟨[(0, .cv (.str p0)), (3, .I xt3_15h)], []⟩ ∧ Dj.l15 K p0 k xt3_15h = some o1) ?_ ⟨_, rfl, hp1⟩) ?_
  ·clear h hp1
   intro k S hS
   obtain ⟨xt3_15h, rfl, h⟩ := hS
   cases k with
   | zero => cases h
   | succ k =>
   unfold Dj.l15 at h
   refine awp_seq <| sg0 L 224 ?_
   rcases ite_some h with ⟨c5, h⟩ | ⟨c5, h⟩
   ·refine tT c5 <| awp_skip' <| awp_seq <| awp_block <| awp_seq ?_
    obtain ⟨g2, h⟩ := guard_some h
    obtain ⟨a3, h3, h⟩ := bind_some h
    rcases ite_some h with ⟨c6, h⟩ | ⟨c6, h⟩
    ·refine rg L 229 [(5, false)] [(3, .B a3)] [] (plc g2.1 (plc g2.2 (plc (D4.ok h3) (plc trivial (pl1 (show (!a3) = false from congrArg Bool.not (c6))))))) ?_
     refine ff (b := false) (rfl) ?_
     refine awp_skip' <| ar0 L 249 [] [] [] (S' := ⟨[(0, .cv (.str p0)), (3, .I (IntKind.i64.wrap (xt3_15h + 1)))], []⟩) ?_
     exact ⟨k, Nat.lt_succ_self k, _, rfl, h⟩
    rcases ite_some h with ⟨c7, h⟩ | ⟨c7, h⟩
    ·refine rg L 229 [(5, true), (10, true)] [(3, .B a3)] [] (plc g2.1 (plc g2.2 (plc (D4.ok h3) (plc trivial (plc (show (!a3) = true from congrArg Bool.not (eq_false_of_ne_true c6)) (plc g2.1 (plc g2.2 (pl1 (decide_eq_true c7))))))))) ?_
     refine tt (b := true) (rfl) ?_
     refine sg0 L 247 <| awp_ret ?_
     cases h
     exact .inr ⟨rfl, _, rfl, er0⟩
    refine rg L 229 [(5, true), (10, false)] [(3, .B a3)] [] (plc g2.1 (plc g2.2 (plc (D4.ok h3) (plc trivial (plc (show (!a3) = true from congrArg Bool.not (eq_false_of_ne_true c6)) (plc g2.1 (plc g2.2 (plc (decide_eq_false c7) (plc g2.1 (pl1 g2.2)))))))))) ?_
    rcases ite_some h with ⟨c8, h⟩ | ⟨c8, h⟩
    ·refine tT c8 <| sg0 L 247 <| awp_ret ?_
     cases h
     exact .inr ⟨rfl, _, rfl, er0⟩
    refine fF c8 <| awp_skip' <| ar0 L 249 [] [] [] (S' := ⟨[(0, .cv (.str p0)), (3, .I (IntKind.i64.wrap (xt3_15h + 1)))], []⟩) ?_
    exact ⟨k, Nat.lt_succ_self k, _, rfl, h⟩
   refine fF c5 <| ex (S' := ⟨[], []⟩) ?_
   cases h
   exact .inl ⟨rfl, rfl, rfl⟩
  ·rintro e S (⟨rfl, rfl, rfl⟩ | ⟨rfl, a, rfl, hr⟩)
   ·rcases h with ⟨_, e1, h⟩ | ⟨_, e1, h⟩
    ·cases e1
    ·have e2 := Out.go.inj e1
     subst e2
     refine ⟨_, Turns.refl, ?_⟩
     refine sg0 L 253 <| awp_ret ?_
     cases h
     exact er0
   ·rcases h with ⟨_, e1, h⟩ | ⟨_, e1, h⟩
    ·have e2 := Out.done.inj e1
     subst e2
     subst h
     exact ⟨_, Turns.refl, hr⟩
    ·cases e1
 refine rg L 202 [(2, false), (7, false), (13, true)] [(10, .B a1)] [] (plc (decide_eq_false c1) (plc (decide_eq_false c2) (plc (show (0 : Int) ≤ 0 from by decide) (plc g1 (plc (D4.ok h1) (plc trivial (pl1 (show (!a1) = true from congrArg Bool.not (eq_false_of_ne_true c3))))))))) ?_
 refine tt (b := true) (rfl) ?_
 refine sg0 L 220 <| awp_ret ?_
 cases h
 exact er0
theorem Dj.ok {K : Nat} {p0 : List UInt8} {r : Bool} (h : Dj K p0 = some r) : PCall V P 65 [.cv (.str p0)] (.B r) := ECall.pcall (eo (fn := Tryz.f65) (n := 44) (m := 100) fun Γ => Dj.body h) (by kernel_rfl)
def Al (K : Nat) (p0 : Aa) (p1 : Bool) (p2 : Bool) : Option Bool := (if p1 = true then (if p0.Int = 0 then (if p2 = true then (Option.bind (Dj K p0.Name) (fun a1 => (if a1 = true then some (decide ((p0.Text.length : Int) ≤ 4096)) else some false))) else (if p0.Text = ([] : List UInt8) then (Option.bind (Dj K p0.Name) (fun a2 => (if a2 = true then some (decide ((p0.Text.length : Int) ≤ 4096)) else some false))) else some false)) else some false) else (if p0.Name = ([] : List UInt8) then (if p0.Int = 0 then (if p2 = true then some (decide ((p0.Text.length : Int) ≤ 4096)) else (if p0.Text = ([] : List UInt8) then some (decide ((p0.Text.length : Int) ≤ 4096)) else some false)) else some false) else some false))
theorem Al.body {Γ : Ent} {K : Nat} {p0 : Aa} {p1 : Bool} {p2 : Bool} {r : Bool} (h : Al K p0 p1 p2 = some r) : AWp V P 41 100 Γ (Tryz.f35.body.getD .skip) (EndsE P V Tryz.f35 (.B r) []) ⟨args0 0 [.agg (Ag p0), .B p1, .B p2], []⟩ := by
 unfold Al at h
 refine sg0 L 200 <| awp_seq ?_
 rcases ite_some h with ⟨c1, h⟩ | ⟨c1, h⟩
 ·rcases ite_some h with ⟨c2, h⟩ | ⟨c2, h⟩
  ·rcases ite_some h with ⟨c3, h⟩ | ⟨c3, h⟩
   ·obtain ⟨a1, h1, h⟩ := bind_some h
    rcases ite_some h with ⟨c4, h⟩ | ⟨c4, h⟩
    ·refine rg L 203 [(1, true), (11, true), (13, true), (22, false), (28, true)] [(25, .B a1)] [] (plc c1 (plc (decide_eq_true c2) (plc c3 (plc (show (!p1) = false from congrArg Bool.not (c1)) (plc (Dj.ok h1) (plc trivial (pl1 c4))))))) ?_
     refine awp_ret ?_
     cases h
     exact er0
    refine rg L 203 [(1, true), (11, true), (13, true), (22, false), (28, false)] [(25, .B a1)] [] (plc c1 (plc (decide_eq_true c2) (plc c3 (plc (show (!p1) = false from congrArg Bool.not (c1)) (plc (Dj.ok h1) (plc trivial (pl1 (eq_false_of_ne_true c4)))))))) ?_
    refine awp_ret ?_
    cases h
    exact er0
   rcases ite_some h with ⟨c5, h⟩ | ⟨c5, h⟩
   ·obtain ⟨a2, h2, h⟩ := bind_some h
    rcases ite_some h with ⟨c6, h⟩ | ⟨c6, h⟩
    ·refine rg L 203 [(1, true), (11, true), (13, false), (19, true), (22, false), (28, true)] [(25, .B a2)] [] (plc c1 (plc (decide_eq_true c2) (plc (eq_false_of_ne_true c3) (plc (decide_eq_true c5) (plc (show (!p1) = false from congrArg Bool.not (c1)) (plc (Dj.ok h2) (plc trivial (pl1 c6)))))))) ?_
     refine awp_ret ?_
     cases h
     exact er0
    refine rg L 203 [(1, true), (11, true), (13, false), (19, true), (22, false), (28, false)] [(25, .B a2)] [] (plc c1 (plc (decide_eq_true c2) (plc (eq_false_of_ne_true c3) (plc (decide_eq_true c5) (plc (show (!p1) = false from congrArg Bool.not (c1)) (plc (Dj.ok h2) (plc trivial (pl1 (eq_false_of_ne_true c6))))))))) ?_
    refine awp_ret ?_
    cases h
    exact er0
   refine rg L 203 [(1, true), (11, true), (13, false), (19, false)] [] [] (plc c1 (plc (decide_eq_true c2) (plc (eq_false_of_ne_true c3) (pl1 (decide_eq_false c5))))) ?_
   refine awp_ret ?_
   cases h
   exact er0
  refine rg L 203 [(1, true), (11, false)] [] [] (pl2 c1 (decide_eq_false c2)) ?_
  refine awp_ret ?_
  cases h
  exact er0
 rcases ite_some h with ⟨c7, h⟩ | ⟨c7, h⟩
 ·rcases ite_some h with ⟨c8, h⟩ | ⟨c8, h⟩
  ·rcases ite_some h with ⟨c9, h⟩ | ⟨c9, h⟩
   ·refine rg L 203 [(1, false), (6, true), (11, true), (13, true), (22, true)] [] [] (plc (eq_false_of_ne_true c1) (plc (decide_eq_true c7) (plc (decide_eq_true c8) (plc c9 (pl1 (show (!p1) = true from congrArg Bool.not (eq_false_of_ne_true c1))))))) ?_
    refine awp_ret ?_
    cases h
    exact er0
   rcases ite_some h with ⟨c10, h⟩ | ⟨c10, h⟩
   ·refine rg L 203 [(1, false), (6, true), (11, true), (13, false), (19, true), (22, true)] [] [] (plc (eq_false_of_ne_true c1) (plc (decide_eq_true c7) (plc (decide_eq_true c8) (plc (eq_false_of_ne_true c9) (plc (decide_eq_true c10) (pl1 (show (!p1) = true from congrArg Bool.not (eq_false_of_ne_true c1)))))))) ?_
    refine awp_ret ?_
    cases h
    exact er0
   refine rg L 203 [(1, false), (6, true), (11, true), (13, false), (19, false)] [] [] (plc (eq_false_of_ne_true c1) (plc (decide_eq_true c7) (plc (decide_eq_true c8) (plc (eq_false_of_ne_true c9) (pl1 (decide_eq_false c10)))))) ?_
   refine awp_ret ?_
   cases h
   exact er0
  refine rg L 203 [(1, false), (6, true), (11, false)] [] [] (plc (eq_false_of_ne_true c1) (plc (decide_eq_true c7) (pl1 (decide_eq_false c8)))) ?_
  refine awp_ret ?_
  cases h
  exact er0
 refine rg L 203 [(1, false), (6, false)] [] [] (pl2 (eq_false_of_ne_true c1) (decide_eq_false c7)) ?_
 refine awp_ret ?_
 cases h
 exact er0
theorem Al.ok {K : Nat} {p0 : Aa} {p1 : Bool} {p2 : Bool} {r : Bool} (h : Al K p0 p1 p2 = some r) : PCall V P 35 [.agg (Ag p0), .B p1, .B p2] (.B r) := ECall.pcall (eo (fn := Tryz.f35) (n := 41) (m := 100) fun Γ => Al.body h) (by kernel_rfl)
structure Cu where
 Bc : (List Aa) → Option Bool
 A7 : Aa → Option Bool
structure Cu.Ok (R : Cu) : Prop where
 Bc : ∀ {p0 : List Aa} {r : Bool}, R.Bc p0 = some r → ECall V P 69 [.cv (.ro .Ae p0)] [] [] (.B r) []
 A7 : ∀ {p0 : Aa} {r : Bool}, R.A7 p0 = some r → ECall V P 38 [.agg (Ag p0)] [] [] (.B r) []
theorem Bc.okR {R : Cu} (hR : R.Ok) {p0 : List Aa} {r : Bool} (h : R.Bc p0 = some r) : PCall V P 69 [.cv (.ro .Ae p0)] (.B r) := (hR.Bc h).pcall (by kernel_rfl)
theorem A7.okR {R : Cu} (hR : R.Ok) {p0 : Aa} {r : Bool} (h : R.A7 p0 = some r) : PCall V P 38 [.agg (Ag p0)] (.B r) := (hR.A7 h).pcall (by kernel_rfl)
def Bc.l7 (K : Nat) (R : Cu) (p0 : List Aa) : Nat → Int → Option (Out Bool Unit)
 | 0, _ => none
 | k + 1, xt3_7h => (if xt3_7h < (p0.length : Int) then (if (0 : Int) ≤ xt3_7h ∧ (xt3_7h : Int) < (p0.length : Int) then (Option.bind (R.A7 (p0.getD (Int.toNat xt3_7h) Ay)) (fun a1 => (if a1 = true then Bc.l7 K R p0 k (IntKind.i64.wrap (xt3_7h + 1)) else some (Out.done false)))) else none) else some (Out.go ()))
def Bc.F (K : Nat) (R : Cu) (p0 : List Aa) : Option Bool := (obind (Bc.l7 K R p0 K 0 : Option (Out Bool Unit)) (fun r => r) (fun _ => some true))
theorem Bc.body {Γ : Ent} {K : Nat} {R : Cu} (hR : R.Ok) {p0 : List Aa} {r : Bool} (h : Bc.F K R p0 = some r) : AWp V P 16 100 Γ (Tryz.f69.body.getD .skip) (EndsE P V Tryz.f69 (.B r) []) ⟨args0 0 [.cv (.ro .Ae p0)], []⟩ := by
 unfold Bc.F at h
 refine sg0 L 200 <| awp_seq <| sg0 L 202 <| awp_block <| kp (S' := ⟨[(0, .cv (.ro .Ae p0)), (3, .I 0)], []⟩) ?_
 obtain ⟨o1, hp1, h⟩ := obind_some h
 refine awp_conseq (Q' := fun e S => (e = .exit 0 ∧ S = ⟨[], []⟩ ∧ Out.go () = o1) ∨ (e = .ret ∧ ∃ a, Out.done a = o1 ∧ EndsE P V Tryz.f69 (.B a) [] .ret S)) (awp_loop (fun k S => ∃ xt3_7h : Int, S = ⟨[(0, .cv (.ro .Ae p0)), (3, .I xt3_7h)], []⟩ ∧ Bc.l7 K R p0 k xt3_7h = some o1) ?_ ⟨_, rfl, hp1⟩) ?_
 ·clear h hp1
  intro k S hS
  obtain ⟨xt3_7h, rfl, h⟩ := hS
  cases k with
  | zero => cases h
  | succ k =>
  unfold Bc.l7 at h
  refine awp_seq <| sg0 L 204 ?_
  rcases ite_some h with ⟨c1, h⟩ | ⟨c1, h⟩
  ·refine tT c1 <| awp_skip' <| awp_seq <| awp_block <| awp_seq ?_
   obtain ⟨g1, h⟩ := guard_some h
   obtain ⟨a1, h1, h⟩ := bind_some h
   refine rg L 209 [] [(4, .B a1)] [] (plc g1.1 (plc g1.2 (plc (A7.okR hR h1) (pl1 trivial)))) ?_
   rcases ite_some h with ⟨c2, h⟩ | ⟨c2, h⟩
   ·refine ff (b := (!a1)) (congrArg Bool.not (c2)) ?_
    refine awp_skip' <| ar0 L 218 [] [] [] (S' := ⟨[(0, .cv (.ro .Ae p0)), (3, .I (IntKind.i64.wrap (xt3_7h + 1)))], []⟩) ?_
    exact ⟨k, Nat.lt_succ_self k, _, rfl, h⟩
   refine tt (b := (!a1)) (congrArg Bool.not (eq_false_of_ne_true c2)) ?_
   refine sg0 L 216 <| awp_ret ?_
   cases h
   exact .inr ⟨rfl, _, rfl, er0⟩
  refine fF c1 <| ex (S' := ⟨[], []⟩) ?_
  cases h
  exact .inl ⟨rfl, rfl, rfl⟩
 ·rintro e S (⟨rfl, rfl, rfl⟩ | ⟨rfl, a, rfl, hr⟩)
  ·rcases h with ⟨_, e1, h⟩ | ⟨_, e1, h⟩
   ·cases e1
   ·have e2 := Out.go.inj e1
    subst e2
    refine ⟨_, Turns.refl, ?_⟩
    refine sg0 L 222 <| awp_ret ?_
    cases h
    exact er0
  ·rcases h with ⟨_, e1, h⟩ | ⟨_, e1, h⟩
   ·have e2 := Out.done.inj e1
    subst e2
    subst h
    exact ⟨_, Turns.refl, hr⟩
   ·cases e1
def A7.l54 (K : Nat) (R : Cu) (p0 : Aa) : Nat → Int → Option (Out Bool Unit)
 | 0, _ => none
 | k + 1, xt4_54h => (if xt4_54h < (p0.Kids.length : Int) then (if (0 : Int) ≤ xt4_54h ∧ (xt4_54h : Int) < (p0.Kids.length : Int) then (if (p0.Kids.getD (Int.toNat xt4_54h) Ay).Op ≠ 9 then some (Out.done false) else (Option.bind (Al K (p0.Kids.getD (Int.toNat xt4_54h) Ay) false true) (fun a6 => (if a6 = true then (if (((p0.Kids.getD (Int.toNat xt4_54h) Ay).Kids).length : Int) ≠ 1 then some (Out.done false) else (Option.bind (R.Bc ((p0.Kids.getD (Int.toNat xt4_54h) Ay).Kids)) (fun a7 => (if a7 = true then A7.l54 K R p0 k (IntKind.i64.wrap (xt4_54h + 1)) else some (Out.done false))))) else some (Out.done false))))) else none) else some (Out.go ()))
def A7.F (K : Nat) (R : Cu) (p0 : Aa) : Option Bool := (Option.bind ((if p0.Op = 1 then some (decide (p0.Op = 1)) else (if p0.Op = 2 then some (decide (p0.Op = 2)) else some (decide (p0.Op = 3)))) : Option Bool) (fun xt11_9 => (if xt11_9 = true then (Option.bind (Al K p0 false false) (fun a1 => (if a1 = true then some (decide ((p0.Kids.length : Int) = 0)) else some false))) else (if p0.Op = 4 then (if p0.Name = ([] : List UInt8) then (if p0.Text = ([] : List UInt8) then (if p0.Int ≥ 0 then some (decide ((p0.Kids.length : Int) = 0)) else some false) else some false) else some false) else (if p0.Op = 5 then (Option.bind (Al K p0 false true) (fun a2 => (if a2 = true then some (decide ((p0.Kids.length : Int) = 0)) else some false))) else (if p0.Op = 6 then (Option.bind (Al K p0 true false) (fun a3 => (if a3 = true then some (decide ((p0.Kids.length : Int) = 0)) else some false))) else (if p0.Op = 7 then (Option.bind (Al K p0 false false) (fun a4 => (if a4 = true then (Option.bind (R.Bc p0.Kids) (fun a5 => some a5)) else some false))) else (if p0.Op = 8 then (obind (A7.l54 K R p0 K 0 : Option (Out Bool Unit)) (fun r => r) (fun _ => (Option.bind (Al K p0 false false) (fun a8 => some a8)))) else (Option.bind ((if p0.Op = 10 then some (decide (p0.Op = 10)) else some (decide (p0.Op = 11))) : Option Bool) (fun xt99_76 => (if xt99_76 = true then (Option.bind (Al K p0 true false) (fun a9 => (if a9 = true then (Option.bind (R.Bc p0.Kids) (fun a10 => some a10)) else some false))) else (Option.bind ((if p0.Op = 12 then some (decide (p0.Op = 12)) else (if p0.Op = 13 then some (decide (p0.Op = 13)) else some (decide (p0.Op = 14)))) : Option Bool) (fun xt109_86 => (if xt109_86 = true then (Option.bind (Al K p0 false false) (fun a11 => (if a11 = true then (if (p0.Kids.length : Int) = 1 then (Option.bind (R.Bc p0.Kids) (fun a12 => some a12)) else some false) else some false))) else (if p0.Op = 29 then (Option.bind (Al K p0 true false) (fun a13 => (if a13 = true then (if (p0.Kids.length : Int) = 1 then (Option.bind (R.Bc p0.Kids) (fun a14 => some a14)) else some false) else some false))) else (if p0.Op ≥ 15 then (if p0.Op ≤ 28 then (Option.bind (Al K p0 false false) (fun a15 => (if a15 = true then (if (p0.Kids.length : Int) = 2 then (Option.bind (R.Bc p0.Kids) (fun a16 => some a16)) else some false) else some false))) else some false) else some false))))))))))))))))
theorem A7.body {Γ : Ent} {K : Nat} {R : Cu} (hR : R.Ok) {p0 : Aa} {r : Bool} (h : A7.F K R p0 = some r) : AWp V P 158 100 Γ (Tryz.f38.body.getD .skip) (EndsE P V Tryz.f38 (.B r) []) ⟨args0 0 [.agg (Ag p0)], []⟩ := by
 unfold A7.F at h
 refine sg0 L 200 <| sg0 L 203 <| awp_seq <| sg0 L 208 <| awp_block ?_
 obtain ⟨o1, hp1, h⟩ := bind_some h
 refine awp_seq (awp_mono (Q' := fun e S => (e = .normal ∧ ∃ xt11_9 : Bool, S = ⟨[(1, .P 21800), (3, .I (p0.Kids.length : Int)), (10, .I p0.Op), (11, .B xt11_9)], [(21800, .raw (Ag p0))]⟩ ∧ xt11_9 = o1)) ?_ ?_)
 ·clear h
  replace h := hp1
  refine sg0 L 211 ?_
  rcases ite_some h with ⟨c1, h⟩ | ⟨c1, h⟩
  ·refine tT c1 <| awp_turn (Turns.trans (Turns.kk [1, 3, 10, 11] [200]) (Turns.rr [(200, 21800)])) ?_
   refine sk (S' := ⟨[(1, .P 21800), (3, .I (p0.Kids.length : Int)), (10, .I p0.Op), (11, .B (decide (p0.Op = 1)))], [(21800, .raw (Ag p0))]⟩) ?_
   cases h
   exact ⟨rfl, _, rfl, rfl⟩
  refine fF c1 <| sg0 L 214 ?_
  rcases ite_some h with ⟨c2, h⟩ | ⟨c2, h⟩
  ·refine tT c2 <| awp_turn (Turns.trans (Turns.kk [1, 3, 10, 11] [200]) (Turns.rr [(200, 21800)])) ?_
   refine sk (S' := ⟨[(1, .P 21800), (3, .I (p0.Kids.length : Int)), (10, .I p0.Op), (11, .B (decide (p0.Op = 2)))], [(21800, .raw (Ag p0))]⟩) ?_
   cases h
   exact ⟨rfl, _, rfl, rfl⟩
  refine fF c2 <| awp_post (rg0 L 217 ⟨rfl, rfl⟩) (Turns.trans (Turns.kk [1, 3, 10, 11] [200]) (Turns.trans (Turns.rr [(200, 21800)]) (Turns.kp (S' := ⟨[(1, .P 21800), (3, .I (p0.Kids.length : Int)), (10, .I p0.Op), (11, .B (decide (p0.Op = 3)))], [(21800, .raw (Ag p0))]⟩)))) ?_
  cases h
  exact ⟨rfl, _, rfl, rfl⟩
 ·rintro e S ⟨rfl, xt11_9, rfl, rfl⟩
  rcases ite_some h with ⟨c3, h⟩ | ⟨c3, h⟩
  ·refine tt c3 <| awp_seq ?_
   obtain ⟨a1, h1, h⟩ := bind_some h
   rcases ite_some h with ⟨c4, h⟩ | ⟨c4, h⟩
   ·refine rg L 220 [(2, true)] [(1, .B a1)] [] (plc (Al.ok h1) (plc trivial (pl1 c4))) ?_
    refine awp_ret ?_
    cases h
    exact er0
   refine rg L 220 [(2, false)] [(1, .B a1)] [] (plc (Al.ok h1) (plc trivial (pl1 (eq_false_of_ne_true c4)))) ?_
   refine awp_ret ?_
   cases h
   exact er0
  refine fN c3 <| sg0 L 228 ?_
  rcases ite_some h with ⟨c5, h⟩ | ⟨c5, h⟩
  ·refine tT c5 <| awp_seq ?_
   rcases ite_some h with ⟨c6, h⟩ | ⟨c6, h⟩
   ·rcases ite_some h with ⟨c7, h⟩ | ⟨c7, h⟩
    ·rcases ite_some h with ⟨c8, h⟩ | ⟨c8, h⟩
     ·refine rg L 231 [(3, true), (8, true), (13, true)] [] [] (plc (decide_eq_true c6) (plc (decide_eq_true c7) (pl1 (decide_eq_true c8)))) ?_
      refine awp_ret ?_
      cases h
      exact er0
     refine rg L 231 [(3, true), (8, true), (13, false)] [] [] (plc (decide_eq_true c6) (plc (decide_eq_true c7) (pl1 (decide_eq_false c8)))) ?_
     refine awp_ret ?_
     cases h
     exact er0
    refine rg L 231 [(3, true), (8, false)] [] [] (pl2 (decide_eq_true c6) (decide_eq_false c7)) ?_
    refine awp_ret ?_
    cases h
    exact er0
   refine rg L 231 [(3, false)] [] [] (pl1 (decide_eq_false c6)) ?_
   refine awp_ret ?_
   cases h
   exact er0
  refine fF c5 <| sg0 L 250 ?_
  rcases ite_some h with ⟨c9, h⟩ | ⟨c9, h⟩
  ·refine tT c9 <| awp_seq ?_
   obtain ⟨a2, h2, h⟩ := bind_some h
   rcases ite_some h with ⟨c10, h⟩ | ⟨c10, h⟩
   ·refine rg L 253 [(2, true)] [(1, .B a2)] [] (plc (Al.ok h2) (plc trivial (pl1 c10))) ?_
    refine awp_ret ?_
    cases h
    exact er0
   refine rg L 253 [(2, false)] [(1, .B a2)] [] (plc (Al.ok h2) (plc trivial (pl1 (eq_false_of_ne_true c10)))) ?_
   refine awp_ret ?_
   cases h
   exact er0
  refine fF c9 <| sg0 L 261 ?_
  rcases ite_some h with ⟨c11, h⟩ | ⟨c11, h⟩
  ·refine tT c11 <| awp_seq ?_
   obtain ⟨a3, h3, h⟩ := bind_some h
   rcases ite_some h with ⟨c12, h⟩ | ⟨c12, h⟩
   ·refine rg L 264 [(2, true)] [(1, .B a3)] [] (plc (Al.ok h3) (plc trivial (pl1 c12))) ?_
    refine awp_ret ?_
    cases h
    exact er0
   refine rg L 264 [(2, false)] [(1, .B a3)] [] (plc (Al.ok h3) (plc trivial (pl1 (eq_false_of_ne_true c12)))) ?_
   refine awp_ret ?_
   cases h
   exact er0
  refine fF c11 <| sg0 L 272 ?_
  rcases ite_some h with ⟨c13, h⟩ | ⟨c13, h⟩
  ·refine tT c13 <| awp_seq ?_
   obtain ⟨a4, h4, h⟩ := bind_some h
   rcases ite_some h with ⟨c14, h⟩ | ⟨c14, h⟩
   ·obtain ⟨a5, h5, h⟩ := bind_some h
    refine rg L 275 [(2, true)] [(1, .B a4), (5, .B a5)] [] (plc (Al.ok h4) (plc trivial (plc c14 (plc (Bc.okR hR h5) (pl1 trivial))))) ?_
    refine awp_ret ?_
    cases h
    exact er0
   refine rg L 275 [(2, false)] [(1, .B a4)] [] (plc (Al.ok h4) (plc trivial (pl1 (eq_false_of_ne_true c14)))) ?_
   refine awp_ret ?_
   cases h
   exact er0
  refine fF c13 <| sg0 L 284 ?_
  rcases ite_some h with ⟨c15, h⟩ | ⟨c15, h⟩
  ·refine tT c15 <| awp_seq <| sg0 L 287 <| awp_block <| awp_turn (Turns.trans (Turns.kk [1, 3, 4] [21800]) (Turns.rr [(21800, 30900)])) ?_
   refine kp (S' := ⟨[(1, .P 30900), (3, .I (p0.Kids.length : Int)), (4, .I 0)], [(30900, .raw (Ag p0))]⟩) ?_
   obtain ⟨o2, hp2, h⟩ := obind_some h
   refine awp_conseq (Q' := fun e S => (e = .exit 1 ∧ S = ⟨[(1, .P 30800)], [(30800, .raw (Ag p0))]⟩ ∧ Out.go () = o2) ∨ (e = .ret ∧ ∃ a, Out.done a = o2 ∧ EndsE P V Tryz.f38 (.B a) [] .ret S)) (awp_loop (fun k S => ∃ xt4_54h : Int, S = ⟨[(1, .P 30900), (3, .I (p0.Kids.length : Int)), (4, .I xt4_54h)], [(30900, .raw (Ag p0))]⟩ ∧ A7.l54 K R p0 k xt4_54h = some o2) ?_ ⟨_, rfl, hp2⟩) ?_
   ·clear h hp2
    intro k S hS
    obtain ⟨xt4_54h, rfl, h⟩ := hS
    cases k with
    | zero => cases h
    | succ k =>
    unfold A7.l54 at h
    refine awp_seq <| sg0 L 289 ?_
    rcases ite_some h with ⟨c16, h⟩ | ⟨c16, h⟩
    ·refine tT c16 <| awp_skip' <| awp_seq <| awp_block <| awp_seq ?_
     obtain ⟨g1, h⟩ := guard_some h
     refine rg L 293 [] [] [] (pl2 g1.1 g1.2) ?_
     refine awp_seq ?_
     rcases ite_some h with ⟨c17, h⟩ | ⟨c17, h⟩
     ·refine rg L 301 [(3, true)] [] [] (pl1 (decide_eq_true c17)) ?_
      refine tt (b := true) (rfl) ?_
      refine sg0 L 322 <| awp_ret ?_
      cases h
      exact .inr ⟨rfl, _, rfl, er0⟩
     obtain ⟨a6, h6, h⟩ := bind_some h
     rcases ite_some h with ⟨c18, h⟩ | ⟨c18, h⟩
     ·rcases ite_some h with ⟨c19, h⟩ | ⟨c19, h⟩
      ·refine rg L 301 [(3, false), (8, false), (14, true)] [(5, .B a6)] [] (plc (decide_eq_false c17) (plc (Al.ok h6) (plc trivial (plc (show (!a6) = false from congrArg Bool.not (c18)) (pl1 (decide_eq_true c19)))))) ?_
       refine tt (b := true) (rfl) ?_
       refine sg0 L 322 <| awp_ret ?_
       cases h
       exact .inr ⟨rfl, _, rfl, er0⟩
      obtain ⟨a7, h7, h⟩ := bind_some h
      refine rg L 301 [(3, false), (8, false), (14, false)] [(5, .B a6), (17, .B a7)] [] (plc (decide_eq_false c17) (plc (Al.ok h6) (plc trivial (plc (show (!a6) = false from congrArg Bool.not (c18)) (plc (decide_eq_false c19) (plc (Bc.okR hR h7) (pl1 trivial))))))) ?_
      rcases ite_some h with ⟨c20, h⟩ | ⟨c20, h⟩
      ·refine ff (b := (!a7)) (congrArg Bool.not (c20)) ?_
       refine awp_skip' <| ar0 L 324 [] [] [] (S' := ⟨[(1, .P 30900), (3, .I (p0.Kids.length : Int)), (4, .I (IntKind.i64.wrap (xt4_54h + 1)))], [(30900, .raw (Ag p0))]⟩) ?_
       exact ⟨k, Nat.lt_succ_self k, _, rfl, h⟩
      refine tt (b := (!a7)) (congrArg Bool.not (eq_false_of_ne_true c20)) ?_
      refine sg0 L 322 <| awp_ret ?_
      cases h
      exact .inr ⟨rfl, _, rfl, er0⟩
     refine rg L 301 [(3, false), (8, true)] [(5, .B a6)] [] (plc (decide_eq_false c17) (plc (Al.ok h6) (plc trivial (pl1 (show (!a6) = true from congrArg Bool.not (eq_false_of_ne_true c18)))))) ?_
     refine tt (b := true) (rfl) ?_
     refine sg0 L 322 <| awp_ret ?_
     cases h
     exact .inr ⟨rfl, _, rfl, er0⟩
    refine fF c16 <| awp_turn (Turns.trans (Turns.kk [1] [30900]) (Turns.rr [(30900, 30800)])) ?_
    refine ex (S' := ⟨[(1, .P 30800)], [(30800, .raw (Ag p0))]⟩) ?_
    cases h
    exact .inl ⟨rfl, rfl, rfl⟩
   ·rintro e S (⟨rfl, rfl, rfl⟩ | ⟨rfl, a, rfl, hr⟩)
    ·rcases h with ⟨_, e1, h⟩ | ⟨_, e1, h⟩
     ·cases e1
     ·have e2 := Out.go.inj e1
      subst e2
      refine ⟨_, Turns.refl, ?_⟩
      refine awp_seq ?_
      obtain ⟨a8, h8, h⟩ := bind_some h
      refine rg L 328 [] [(1, .B a8)] [] (plt (Al.ok h8)) ?_
      refine awp_ret ?_
      cases h
      exact er0
    ·rcases h with ⟨_, e1, h⟩ | ⟨_, e1, h⟩
     ·have e2 := Out.done.inj e1
      subst e2
      subst h
      exact ⟨_, Turns.refl, hr⟩
     ·cases e1
  refine fF c15 ?_
  obtain ⟨o3, hp3, h⟩ := bind_some h
  refine awp_seq (awp_mono (Q' := fun e S => (e = .normal ∧ ∃ xt99_76 : Bool, S = ⟨[(1, .P 35200), (3, .I (p0.Kids.length : Int)), (10, .I p0.Op), (99, .B xt99_76)], [(35200, .raw (Ag p0))]⟩ ∧ xt99_76 = o3)) ?_ ?_)
  ·clear h
   replace h := hp3
   refine sg0 L 332 ?_
   rcases ite_some h with ⟨c21, h⟩ | ⟨c21, h⟩
   ·refine tT c21 <| awp_turn (Turns.trans (Turns.kk [1, 3, 10, 99] [21800]) (Turns.rr [(21800, 35200)])) ?_
    refine sk (S' := ⟨[(1, .P 35200), (3, .I (p0.Kids.length : Int)), (10, .I p0.Op), (99, .B (decide (p0.Op = 10)))], [(35200, .raw (Ag p0))]⟩) ?_
    cases h
    exact ⟨rfl, _, rfl, rfl⟩
   refine fF c21 <| awp_post (rg0 L 335 ⟨rfl, rfl⟩) (Turns.trans (Turns.kk [1, 3, 10, 99] [21800]) (Turns.trans (Turns.rr [(21800, 35200)]) (Turns.kp (S' := ⟨[(1, .P 35200), (3, .I (p0.Kids.length : Int)), (10, .I p0.Op), (99, .B (decide (p0.Op = 11)))], [(35200, .raw (Ag p0))]⟩)))) ?_
   cases h
   exact ⟨rfl, _, rfl, rfl⟩
  ·rintro e S ⟨rfl, xt99_76, rfl, rfl⟩
   rcases ite_some h with ⟨c22, h⟩ | ⟨c22, h⟩
   ·refine tt c22 <| awp_seq ?_
    obtain ⟨a9, h9, h⟩ := bind_some h
    rcases ite_some h with ⟨c23, h⟩ | ⟨c23, h⟩
    ·obtain ⟨a10, h10, h⟩ := bind_some h
     refine rg L 338 [(2, true)] [(1, .B a9), (5, .B a10)] [] (plc (Al.ok h9) (plc trivial (plc c23 (plc (Bc.okR hR h10) (pl1 trivial))))) ?_
     refine awp_ret ?_
     cases h
     exact er0
    refine rg L 338 [(2, false)] [(1, .B a9)] [] (plc (Al.ok h9) (plc trivial (pl1 (eq_false_of_ne_true c23)))) ?_
    refine awp_ret ?_
    cases h
    exact er0
   refine fN c22 ?_
   obtain ⟨o4, hp4, h⟩ := bind_some h
   refine awp_seq (awp_mono (Q' := fun e S => (e = .normal ∧ ∃ xt109_86 : Bool, S = ⟨[(1, .P 37200), (3, .I (p0.Kids.length : Int)), (10, .I p0.Op), (109, .B xt109_86)], [(37200, .raw (Ag p0))]⟩ ∧ xt109_86 = o4)) ?_ ?_)
   ·clear h
    replace h := hp4
    refine sg0 L 347 ?_
    rcases ite_some h with ⟨c24, h⟩ | ⟨c24, h⟩
    ·refine tT c24 <| awp_turn (Turns.trans (Turns.kk [1, 3, 10, 109] [35200]) (Turns.rr [(35200, 37200)])) ?_
     refine sk (S' := ⟨[(1, .P 37200), (3, .I (p0.Kids.length : Int)), (10, .I p0.Op), (109, .B (decide (p0.Op = 12)))], [(37200, .raw (Ag p0))]⟩) ?_
     cases h
     exact ⟨rfl, _, rfl, rfl⟩
    refine fF c24 <| sg0 L 350 ?_
    rcases ite_some h with ⟨c25, h⟩ | ⟨c25, h⟩
    ·refine tT c25 <| awp_turn (Turns.trans (Turns.kk [1, 3, 10, 109] [35200]) (Turns.rr [(35200, 37200)])) ?_
     refine sk (S' := ⟨[(1, .P 37200), (3, .I (p0.Kids.length : Int)), (10, .I p0.Op), (109, .B (decide (p0.Op = 13)))], [(37200, .raw (Ag p0))]⟩) ?_
     cases h
     exact ⟨rfl, _, rfl, rfl⟩
    refine fF c25 <| awp_post (rg0 L 353 ⟨rfl, rfl⟩) (Turns.trans (Turns.kk [1, 3, 10, 109] [35200]) (Turns.trans (Turns.rr [(35200, 37200)]) (Turns.kp (S' := ⟨[(1, .P 37200), (3, .I (p0.Kids.length : Int)), (10, .I p0.Op), (109, .B (decide (p0.Op = 14)))], [(37200, .raw (Ag p0))]⟩)))) ?_
    cases h
    exact ⟨rfl, _, rfl, rfl⟩
   ·rintro e S ⟨rfl, xt109_86, rfl, rfl⟩
    rcases ite_some h with ⟨c26, h⟩ | ⟨c26, h⟩
    ·refine tt c26 <| awp_seq ?_
     obtain ⟨a11, h11, h⟩ := bind_some h
     rcases ite_some h with ⟨c27, h⟩ | ⟨c27, h⟩
     ·rcases ite_some h with ⟨c28, h⟩ | ⟨c28, h⟩
      ·obtain ⟨a12, h12, h⟩ := bind_some h
       refine rg L 356 [(2, true), (6, true)] [(1, .B a11), (9, .B a12)] [] (plc (Al.ok h11) (plc trivial (plc c27 (plc (decide_eq_true c28) (plc (Bc.okR hR h12) (pl1 trivial)))))) ?_
       refine awp_ret ?_
       cases h
       exact er0
      refine rg L 356 [(2, true), (6, false)] [(1, .B a11)] [] (plc (Al.ok h11) (plc trivial (plc c27 (pl1 (decide_eq_false c28))))) ?_
      refine awp_ret ?_
      cases h
      exact er0
     refine rg L 356 [(2, false)] [(1, .B a11)] [] (plc (Al.ok h11) (plc trivial (pl1 (eq_false_of_ne_true c27)))) ?_
     refine awp_ret ?_
     cases h
     exact er0
    refine fN c26 <| sg0 L 369 ?_
    rcases ite_some h with ⟨c29, h⟩ | ⟨c29, h⟩
    ·refine tT c29 <| awp_seq ?_
     obtain ⟨a13, h13, h⟩ := bind_some h
     rcases ite_some h with ⟨c30, h⟩ | ⟨c30, h⟩
     ·rcases ite_some h with ⟨c31, h⟩ | ⟨c31, h⟩
      ·obtain ⟨a14, h14, h⟩ := bind_some h
       refine rg L 372 [(2, true), (6, true)] [(1, .B a13), (9, .B a14)] [] (plc (Al.ok h13) (plc trivial (plc c30 (plc (decide_eq_true c31) (plc (Bc.okR hR h14) (pl1 trivial)))))) ?_
       refine awp_ret ?_
       cases h
       exact er0
      refine rg L 372 [(2, true), (6, false)] [(1, .B a13)] [] (plc (Al.ok h13) (plc trivial (plc c30 (pl1 (decide_eq_false c31))))) ?_
      refine awp_ret ?_
      cases h
      exact er0
     refine rg L 372 [(2, false)] [(1, .B a13)] [] (plc (Al.ok h13) (plc trivial (pl1 (eq_false_of_ne_true c30)))) ?_
     refine awp_ret ?_
     cases h
     exact er0
    refine fF c29 <| awp_skip' <| awp_seq ?_
    rcases ite_some h with ⟨c32, h⟩ | ⟨c32, h⟩
    ·rcases ite_some h with ⟨c33, h⟩ | ⟨c33, h⟩
     ·obtain ⟨a15, h15, h⟩ := bind_some h
      rcases ite_some h with ⟨c34, h⟩ | ⟨c34, h⟩
      ·rcases ite_some h with ⟨c35, h⟩ | ⟨c35, h⟩
       ·obtain ⟨a16, h16, h⟩ := bind_some h
        refine rg L 385 [(3, true), (8, true), (12, true), (16, true)] [(10, .B a15), (19, .B a16)] [] (plc (decide_eq_true c32) (plc (decide_eq_true c33) (plc (Al.ok h15) (plc trivial (plc c34 (plc (decide_eq_true c35) (plc (Bc.okR hR h16) (pl1 trivial)))))))) ?_
        refine awp_ret ?_
        cases h
        exact er0
       refine rg L 385 [(3, true), (8, true), (12, true), (16, false)] [(10, .B a15)] [] (plc (decide_eq_true c32) (plc (decide_eq_true c33) (plc (Al.ok h15) (plc trivial (plc c34 (pl1 (decide_eq_false c35))))))) ?_
       refine awp_ret ?_
       cases h
       exact er0
      refine rg L 385 [(3, true), (8, true), (12, false)] [(10, .B a15)] [] (plc (decide_eq_true c32) (plc (decide_eq_true c33) (plc (Al.ok h15) (plc trivial (pl1 (eq_false_of_ne_true c34)))))) ?_
      refine awp_ret ?_
      cases h
      exact er0
     refine rg L 385 [(3, true), (8, false)] [] [] (pl2 (decide_eq_true c32) (decide_eq_false c33)) ?_
     refine awp_ret ?_
     cases h
     exact er0
    refine rg L 385 [(3, false)] [] [] (pl1 (decide_eq_false c32)) ?_
    refine awp_ret ?_
    cases h
    exact er0
def Cu.upto (K : Nat) : Nat → Cu
 | 0 => ⟨fun _ => none, fun _ => none⟩
 | k + 1 => ⟨Bc.F K (Cu.upto K k), A7.F K (Cu.upto K k)⟩
theorem Cu.upto_ok (K : Nat) : ∀ k, (Cu.upto K k).Ok
 | 0 => ⟨fun h => (by cases h), fun h => (by cases h)⟩
 | k + 1 => ⟨fun {p0 r} h => eo (fn := Tryz.f69) (n := 16) (m := 100) fun Γ => Bc.body (K := K) (Cu.upto_ok K k) h, fun {p0 r} h => eo (fn := Tryz.f38) (n := 158) (m := 100) fun Γ => A7.body (K := K) (Cu.upto_ok K k) h⟩
def Bc (K : Nat) (p0 : List Aa) : Option Bool := (Cu.upto K K).Bc p0
theorem Bc.okE {K : Nat} {p0 : List Aa} {r : Bool} (h : Bc K p0 = some r) : ECall V P 69 [.cv (.ro .Ae p0)] [] [] (.B r) [] := (Cu.upto_ok K K).Bc h
theorem Bc.ok {K : Nat} {p0 : List Aa} {r : Bool} (h : Bc K p0 = some r) : PCall V P 69 [.cv (.ro .Ae p0)] (.B r) := (Bc.okE h).pcall (by kernel_rfl)
def A7 (K : Nat) (p0 : Aa) : Option Bool := (Cu.upto K K).A7 p0
theorem A7.okE {K : Nat} {p0 : Aa} {r : Bool} (h : A7 K p0 = some r) : ECall V P 38 [.agg (Ag p0)] [] [] (.B r) [] := (Cu.upto_ok K K).A7 h
theorem A7.ok {K : Nat} {p0 : Aa} {r : Bool} (h : A7 K p0 = some r) : PCall V P 38 [.agg (Ag p0)] (.B r) := (A7.okE h).pcall (by kernel_rfl)
structure Ba where
 Ci : (List Aa) → Option Bool
 B7 : (List Aa) → Option Bool
 C1 : Aa → Option Bool
 A5 : Aa → Option Bool
structure Ba.Ok (R : Ba) : Prop where
 Ci : ∀ {p0 : List Aa} {r : Bool}, R.Ci p0 = some r → ECall V P 68 [.cv (.ro .Ae p0)] [] [] (.B r) []
 B7 : ∀ {p0 : List Aa} {r : Bool}, R.B7 p0 = some r → ECall V P 124 [.cv (.ro .Ae p0)] [] [] (.B r) []
 C1 : ∀ {p0 : Aa} {r : Bool}, R.C1 p0 = some r → ECall V P 96 [.agg (Ag p0)] [] [] (.B r) []
 A5 : ∀ {p0 : Aa} {r : Bool}, R.A5 p0 = some r → ECall V P 67 [.agg (Ag p0)] [] [] (.B r) []
theorem Ci.okR {R : Ba} (hR : R.Ok) {p0 : List Aa} {r : Bool} (h : R.Ci p0 = some r) : PCall V P 68 [.cv (.ro .Ae p0)] (.B r) := (hR.Ci h).pcall (by kernel_rfl)
theorem B7.okR {R : Ba} (hR : R.Ok) {p0 : List Aa} {r : Bool} (h : R.B7 p0 = some r) : PCall V P 124 [.cv (.ro .Ae p0)] (.B r) := (hR.B7 h).pcall (by kernel_rfl)
theorem C1.okR {R : Ba} (hR : R.Ok) {p0 : Aa} {r : Bool} (h : R.C1 p0 = some r) : PCall V P 96 [.agg (Ag p0)] (.B r) := (hR.C1 h).pcall (by kernel_rfl)
theorem A5.okR {R : Ba} (hR : R.Ok) {p0 : Aa} {r : Bool} (h : R.A5 p0 = some r) : PCall V P 67 [.agg (Ag p0)] (.B r) := (hR.A5 h).pcall (by kernel_rfl)
def Ci.l7 (K : Nat) (R : Ba) (p0 : List Aa) : Nat → Int → Option (Out Bool Unit)
 | 0, _ => none
 | k + 1, xt3_7h => (if xt3_7h < (p0.length : Int) then (if (0 : Int) ≤ xt3_7h ∧ (xt3_7h : Int) < (p0.length : Int) then (Option.bind (R.A5 (p0.getD (Int.toNat xt3_7h) Ay)) (fun a1 => (if a1 = true then Ci.l7 K R p0 k (IntKind.i64.wrap (xt3_7h + 1)) else some (Out.done false)))) else none) else some (Out.go ()))
def Ci.F (K : Nat) (R : Ba) (p0 : List Aa) : Option Bool := (obind (Ci.l7 K R p0 K 0 : Option (Out Bool Unit)) (fun r => r) (fun _ => some true))
theorem Ci.body {Γ : Ent} {K : Nat} {R : Ba} (hR : R.Ok) {p0 : List Aa} {r : Bool} (h : Ci.F K R p0 = some r) : AWp V P 16 100 Γ (Tryz.f68.body.getD .skip) (EndsE P V Tryz.f68 (.B r) []) ⟨args0 0 [.cv (.ro .Ae p0)], []⟩ := by
 unfold Ci.F at h
 refine sg0 L 200 <| awp_seq <| sg0 L 202 <| awp_block <| kp (S' := ⟨[(0, .cv (.ro .Ae p0)), (3, .I 0)], []⟩) ?_
 obtain ⟨o1, hp1, h⟩ := obind_some h
 refine awp_conseq (Q' := fun e S => (e = .exit 0 ∧ S = ⟨[], []⟩ ∧ Out.go () = o1) ∨ (e = .ret ∧ ∃ a, Out.done a = o1 ∧ EndsE P V Tryz.f68 (.B a) [] .ret S)) (awp_loop (fun k S => ∃ xt3_7h : Int, S = ⟨[(0, .cv (.ro .Ae p0)), (3, .I xt3_7h)], []⟩ ∧ Ci.l7 K R p0 k xt3_7h = some o1) ?_ ⟨_, rfl, hp1⟩) ?_
 ·clear h hp1
  intro k S hS
  obtain ⟨xt3_7h, rfl, h⟩ := hS
  cases k with
  | zero => cases h
  | succ k =>
  unfold Ci.l7 at h
  refine awp_seq <| sg0 L 204 ?_
  rcases ite_some h with ⟨c1, h⟩ | ⟨c1, h⟩
  ·refine tT c1 <| awp_skip' <| awp_seq <| awp_block <| awp_seq ?_
   obtain ⟨g1, h⟩ := guard_some h
   obtain ⟨a1, h1, h⟩ := bind_some h
   refine rg L 209 [] [(4, .B a1)] [] (plc g1.1 (plc g1.2 (plc (A5.okR hR h1) (pl1 trivial)))) ?_
   rcases ite_some h with ⟨c2, h⟩ | ⟨c2, h⟩
   ·refine ff (b := (!a1)) (congrArg Bool.not (c2)) ?_
    refine awp_skip' <| ar0 L 218 [] [] [] (S' := ⟨[(0, .cv (.ro .Ae p0)), (3, .I (IntKind.i64.wrap (xt3_7h + 1)))], []⟩) ?_
    exact ⟨k, Nat.lt_succ_self k, _, rfl, h⟩
   refine tt (b := (!a1)) (congrArg Bool.not (eq_false_of_ne_true c2)) ?_
   refine sg0 L 216 <| awp_ret ?_
   cases h
   exact .inr ⟨rfl, _, rfl, er0⟩
  refine fF c1 <| ex (S' := ⟨[], []⟩) ?_
  cases h
  exact .inl ⟨rfl, rfl, rfl⟩
 ·rintro e S (⟨rfl, rfl, rfl⟩ | ⟨rfl, a, rfl, hr⟩)
  ·rcases h with ⟨_, e1, h⟩ | ⟨_, e1, h⟩
   ·cases e1
   ·have e2 := Out.go.inj e1
    subst e2
    refine ⟨_, Turns.refl, ?_⟩
    refine sg0 L 222 <| awp_ret ?_
    cases h
    exact er0
  ·rcases h with ⟨_, e1, h⟩ | ⟨_, e1, h⟩
   ·have e2 := Out.done.inj e1
    subst e2
    subst h
    exact ⟨_, Turns.refl, hr⟩
   ·cases e1
end Go.Proofs.YtifjagfmfkemmaaGreatDoor
