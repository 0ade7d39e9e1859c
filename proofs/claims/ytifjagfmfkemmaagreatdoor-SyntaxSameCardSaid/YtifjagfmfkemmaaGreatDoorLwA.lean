/- Logs, replicas and what is said of them. -/
import Derived.Test.YtifjagfmfkemmaaGreatDoorFn5
set_option linter.unusedVariables false
set_option maxHeartbeats 0
namespace Go.Proofs.YtifjagfmfkemmaaGreatDoor
open Eng Go
theorem Aa.ext' {a b : Aa} (h0 : a.Op = b.Op) (h1 : a.Name = b.Name) (h2 : a.Int = b.Int) (h3 : a.Text = b.Text) (h4 : a.Kids = b.Kids) : a = b := by
 cases a; cases b; cases h0; cases h1; cases h2; cases h3; cases h4; rfl
mutual
def nsz : Aa → Nat
 | ⟨_, _, _, _, k⟩ => lsz k + 1
def lsz : List Aa → Nat
 | [] => 0
 | x :: l => nsz x + lsz l
end
theorem Gf (n : Aa) : nsz n = lsz n.Kids + 1 := by cases n; simp [nsz]
theorem Gd (n : Aa) : 1 ≤ nsz n := by rw [Gf]; omega
theorem F5 : ∀ {l : List Aa} {x : Aa}, x ∈ l → nsz x ≤ lsz l
 | y :: l, x, h => by
  rcases List.mem_cons.1 h with e | e
  ·subst e; simp [lsz]
  ·have := F5 e; simp [lsz]; omega
theorem Gn : ∀ (l : List Aa), l.length ≤ lsz l
 | [] => by simp
 | y :: l => by have := Gn l; have := Gd y; simp [lsz]; omega
theorem F3 {α : Type} {l : List α} {i : Nat} {d : α} (h : i < l.length) : l.getD i d = l[i] := by simp [List.getD, h]
theorem H8 {l : List Aa} {i : Nat} (h : i < l.length) : lsz (l.drop i) = nsz (l.getD i Ay) + lsz (l.drop (i + 1)) := by
 rw [List.drop_eq_getElem_cons h, lsz, F3 h]
theorem Gr {l : List Aa} {i : Nat} (h : i < l.length) : l.getD i Ay ∈ l := by
 rw [F3 h]; exact List.getElem_mem h
theorem w64 {x : Int} (h : -9223372036854775808 ≤ x) (h' : x ≤ 9223372036854775807) : IntKind.i64.wrap x = x := by
 unfold IntKind.wrap; simp only [IntKind.signed, IntKind.bits]; simp; omega
theorem Hv (K : Nat) (R : Dk) (t : Aa) (M : Nat)
  (ih : ∀ (m : Nat), m < M → ∀ x : Aa, ∃ r : Int, R.B4 x m = some r ∧ -1 ≤ r ∧ r < m ∧ (0 ≤ r ↔ (nsz x : Int) ≤ m) ∧ (0 ≤ r → (nsz x : Int) = m - r)) :
  ∀ (k : Nat) (n : Int) (i : Nat), -1 ≤ n → n < M → n + 1 < k → i ≤ t.Kids.length → i + n ≤ 9000000000 →
   ∃ r : Int, B4.l9 K R t k n i = some r ∧ -1 ≤ r ∧ r ≤ n ∧ (0 ≤ r ↔ 0 ≤ n ∧ (lsz (t.Kids.drop i) : Int) ≤ n) ∧ (0 ≤ r → (lsz (t.Kids.drop i) : Int) = n - r) := by
 intro k
 induction k with
 | zero => intro n i h1 h2 h3; omega
 | succ k ih2 =>
  intro n i h1 h2 h3 h4 h5
  unfold B4.l9
  by_cases hi : (i : Int) < (t.Kids.length : Int)
  ·rw [if_pos hi]
   by_cases hn : n ≥ 0
   ·rw [if_pos hn, if_pos ⟨by omega, hi⟩]
    obtain ⟨m, rfl⟩ := Int.eq_ofNat_of_zero_le hn
    obtain ⟨r, e, a1, a2, a3, a4⟩ := ih m (by omega) (t.Kids.getD i Ay)
    have e' : R.B4 (t.Kids.getD (Int.toNat (i : Int)) Ay) (m : Int) = some r := e
    rw [e', Option.bind_some, w64 (by omega) (by omega)]
    obtain ⟨r', b0, b1, b2, b3, b4⟩ := ih2 r (i + 1) a1 (by omega) (by omega) (by omega) (by omega)
    rw [H8 (by omega)]
    have := Gd (t.Kids.getD i Ay)
    refine ⟨r', b0, b1, by omega, ?_, ?_⟩ <;> omega
   ·rw [if_neg hn]
    refine ⟨n, rfl, h1, Int.le_refl _, ?_, ?_⟩ <;> omega
  ·rw [if_neg hi]
   have : t.Kids.drop i = [] := List.drop_eq_nil_iff.2 (by omega)
   refine ⟨n, rfl, h1, Int.le_refl _, ?_, ?_⟩ <;> rw [this] <;> simp [lsz]
theorem H1 (K : Nat) (M : Nat) (hK : M < K) (hM : M ≤ 9000000) : ∀ (m : Nat), m ≤ M → ∀ (f : Nat), m < f → ∀ x : Aa,
  ∃ r : Int, (Dk.upto K f).B4 x m = some r ∧ -1 ≤ r ∧ r < m ∧ (0 ≤ r ↔ (nsz x : Int) ≤ m) ∧ (0 ≤ r → (nsz x : Int) = m - r) := by
 intro m
 induction m using Nat.strongRecOn with
 | _ m ih =>
  intro hm f hf x
  obtain ⟨f, rfl⟩ : ∃ g, f = g + 1 := ⟨f - 1, by omega⟩
  obtain ⟨r, b0, b1, b2, b3, b4⟩ := Hv K (Dk.upto K f) x m (fun m' h y => ih m' h (by omega) f (by omega) y) K (m - 1) 0 (by omega) (by omega) (by omega) (by omega) (by omega)
  refine ⟨r, ?_, b1, by omega, ?_, ?_⟩
  ·show Option.bind (B4.l9 K _ x K (IntKind.i64.wrap ((m : Int) - 1)) 0) _ = _
   rw [w64 (by omega) (by omega)]
   have b0' : B4.l9 K (Dk.upto K f) x K (m - 1) 0 = some r := b0
   rw [b0']; rfl
  ·rw [Gf]; simp only [List.drop_zero] at b3; omega
  ·rw [Gf]; simp only [List.drop_zero] at b4; omega
theorem H6 (K : Nat) (m : Nat) (hK : m < K) (hM : m ≤ 9000000) (x : Aa) : Ed K x m = some (decide (nsz x ≤ m)) := by
 obtain ⟨r, b0, b1, b2, b3, b4⟩ := H1 K m hK hM m (Nat.le_refl _) K hK x
 unfold Ed B4
 rw [b0, Option.bind_some]
 congr 1
 have : (r ≥ 0) = (nsz x ≤ m) := by apply propext; show 0 ≤ r ↔ _; rw [b3]; omega
 simp [this]
def Fp {α : Type} (o : Option Bool) (a b : α) : Prop := ∃ r, o = some r ∧ (r = true ↔ a = b)
theorem Fp.self {α : Type} {o : Option Bool} {a : α} (h : Fp o a a) : o = some true := by
 obtain ⟨r, e, f⟩ := h; rw [e, f.2 rfl]
theorem Fp.same {α : Type} {o o' : Option Bool} {a b : α} (h : Fp o a b) (h' : Fp o' a b) : o = o' := by
 obtain ⟨r, e, f⟩ := h; obtain ⟨r', e', f'⟩ := h'
 rw [e, e']; congr 1
 cases r <;> cases r' <;> simp_all
theorem Gw {l m : List Aa} {i : Nat} (h : i < l.length) (h' : i < m.length) : (l.drop i = m.drop i) ↔ (l.getD i Ay = m.getD i Ay ∧ l.drop (i + 1) = m.drop (i + 1)) := by
 rw [List.drop_eq_getElem_cons h, List.drop_eq_getElem_cons h', F3 h, F3 h']; exact ⟨fun e => List.cons.inj e, fun e => List.cons_eq_cons.2 e⟩
theorem G8 (K : Nat) (R : Df) (a b : Aa) (hl : a.Kids.length = b.Kids.length)
  (ih : ∀ x ∈ a.Kids, ∀ y, Fp (R.Bf x y) x y) (hb : a.Kids.length ≤ 9000000000) :
  ∀ (k i : Nat), i ≤ a.Kids.length → a.Kids.length < i + k →
   ∃ r : Bool, Bf.l15 K R a b k i = some (if r then Out.go () else Out.done false) ∧ (r = true ↔ a.Kids.drop i = b.Kids.drop i) := by
 intro k
 induction k with
 | zero => intro i h1 h2; omega
 | succ k ih2 =>
  intro i h1 h2
  unfold Bf.l15
  by_cases hi : (i : Int) < (a.Kids.length : Int)
  ·rw [if_pos hi, if_pos ⟨by omega, hi⟩, if_pos (by omega)]
   obtain ⟨r, e, f⟩ := ih _ (Gr (l := a.Kids) (i := i) (by omega)) (b.Kids.getD i Ay)
   have e' : R.Bf (a.Kids.getD (Int.toNat (i : Int)) Ay) (b.Kids.getD (Int.toNat (i : Int)) Ay) = some r := e
   rw [e', Option.bind_some, w64 (by omega) (by omega), Gw (by omega) (by omega)]
   cases r with
   | true =>
    obtain ⟨r, g, j⟩ := ih2 (i + 1) (by omega) (by omega)
    refine ⟨r, g, ?_⟩
    rw [j]; exact ⟨fun h => ⟨f.1 rfl, h⟩, fun h => h.2⟩
   | false => exact ⟨false, rfl, ⟨(by simp), fun h => absurd (f.2 h.1) (by simp)⟩⟩
  ·rw [if_neg hi]
   refine ⟨true, rfl, ?_⟩
   rw [List.drop_eq_nil_iff.2 (by omega), List.drop_eq_nil_iff.2 (by omega)]; simp
theorem G9 (K : Nat) (hK : K ≤ 9000000000) : ∀ (f : Nat) (a : Aa), nsz a ≤ f → nsz a ≤ K → ∀ b, Fp ((Df.upto K f).Bf a b) a b := by
 intro f
 induction f with
 | zero => intro a h; have := Gd a; omega
 | succ f ih =>
  intro a h hk b
  show Fp (Bf.F K _ a b) a b
  unfold Bf.F
  by_cases h1 : a.Op = b.Op
  case neg => rw [if_pos h1]; exact ⟨false, rfl, by simp, fun e => absurd (e ▸ rfl) h1⟩
  rw [if_neg (by simpa using h1)]
  by_cases h2 : a.Name = b.Name
  case neg => rw [if_pos h2]; exact ⟨false, rfl, by simp, fun e => absurd (e ▸ rfl) h2⟩
  rw [if_neg (by simpa using h2)]
  by_cases h3 : a.Int = b.Int
  case neg => rw [if_pos h3]; exact ⟨false, rfl, by simp, fun e => absurd (e ▸ rfl) h3⟩
  rw [if_neg (by simpa using h3)]
  by_cases h4 : a.Text = b.Text
  case neg => rw [if_pos h4]; exact ⟨false, rfl, by simp, fun e => absurd (e ▸ rfl) h4⟩
  rw [if_neg (by simpa using h4)]
  by_cases h5 : (a.Kids.length : Int) = (b.Kids.length : Int)
  case neg => rw [if_pos h5]; exact ⟨false, rfl, by simp, fun e => absurd (e ▸ rfl) h5⟩
  rw [if_neg (by simpa using h5)]
  have := Gf a; have := Gn a.Kids
  obtain ⟨r, e, j⟩ := G8 K (Df.upto K f) a b (by omega) (fun x hx y => ih x (by have := F5 hx; omega) (by have := F5 hx; omega) y) (by omega) K 0 (by omega) (by omega)
  have e' : Bf.l15 K (Df.upto K f) a b K 0 = some (if r then Out.go () else Out.done false) := e
  rw [e']
  simp only [List.drop_zero] at j
  have : r = true ↔ a = b := by rw [j]; exact ⟨fun h => Aa.ext' h1 h2 h3 h4 h, fun h => h ▸ rfl⟩
  cases r with
  | true => exact ⟨true, rfl, this⟩
  | false => exact ⟨false, rfl, this⟩
theorem Hy (K : Nat) (hK : K ≤ 9000000000) (a b : Aa) (h : nsz a ≤ K) : Fp (Bf K a b) a b := G9 K hK K a h h b
theorem Ha (K : Nat) (R : Do) (a b : List Aa) (hl : a.length = b.length)
  (ih : ∀ x ∈ a, ∀ y, Fp (R.Dl x y) x y) (hb : a.length ≤ 9000000000) :
  ∀ (k i : Nat), i ≤ a.length → a.length < i + k →
   ∃ r : Bool, B8.l15 K R a b k i = some (if r then Out.go () else Out.done false) ∧ (r = true ↔ a.drop i = b.drop i) := by
 intro k
 induction k with
 | zero => intro i h1 h2; omega
 | succ k ih2 =>
  intro i h1 h2
  unfold B8.l15
  by_cases hi : (i : Int) < (a.length : Int)
  ·rw [if_pos hi, if_pos ⟨by omega, hi⟩, if_pos (by omega)]
   obtain ⟨r, e, f⟩ := ih _ (Gr (l := a) (i := i) (by omega)) (b.getD i Ay)
   have e' : R.Dl (a.getD (Int.toNat (i : Int)) Ay) (b.getD (Int.toNat (i : Int)) Ay) = some r := e
   rw [e', Option.bind_some, w64 (by omega) (by omega), Gw (by omega) (by omega)]
   cases r with
   | true =>
    obtain ⟨r, g, j⟩ := ih2 (i + 1) (by omega) (by omega)
    refine ⟨r, g, ?_⟩
    rw [j]; exact ⟨fun h => ⟨f.1 rfl, h⟩, fun h => h.2⟩
   | false => exact ⟨false, rfl, ⟨(by simp), fun h => absurd (f.2 h.1) (by simp)⟩⟩
  ·rw [if_neg hi]
   refine ⟨true, rfl, ?_⟩
   rw [List.drop_eq_nil_iff.2 (by omega), List.drop_eq_nil_iff.2 (by omega)]; simp
theorem G6 (K : Nat) (hK : K ≤ 9000000000) : ∀ (m f : Nat) (a : Aa), nsz a ≤ m → 2 * m ≤ f → nsz a ≤ K → ∀ b, Fp ((Do.upto K f).Dl a b) a b := by
 intro m
 induction m with
 | zero => intro f a h; have := Gd a; omega
 | succ m ih =>
  intro f a h hf hk b
  obtain ⟨f, rfl⟩ : ∃ g, f = g + 2 := ⟨f - 2, by omega⟩
  show Fp (Dl.F K _ a b) a b
  unfold Dl.F
  by_cases h1 : a.Op = b.Op
  case neg => rw [if_neg h1]; exact ⟨false, rfl, by simp, fun e => absurd (e ▸ rfl) h1⟩
  rw [if_pos (by simpa using h1)]
  by_cases h2 : a.Name = b.Name
  case neg => rw [if_neg h2]; exact ⟨false, rfl, by simp, fun e => absurd (e ▸ rfl) h2⟩
  rw [if_pos (by simpa using h2)]
  by_cases h3 : a.Int = b.Int
  case neg => rw [if_neg h3]; exact ⟨false, rfl, by simp, fun e => absurd (e ▸ rfl) h3⟩
  rw [if_pos (by simpa using h3)]
  by_cases h4 : a.Text = b.Text
  case neg => rw [if_neg h4]; exact ⟨false, rfl, by simp, fun e => absurd (e ▸ rfl) h4⟩
  rw [if_pos (by simpa using h4)]
  show Fp (Option.bind (B8.F K (Do.upto K f) a.Kids b.Kids) _) a b
  unfold B8.F
  by_cases h5 : (a.Kids.length : Int) = (b.Kids.length : Int)
  case neg => rw [if_pos h5]; exact ⟨false, rfl, by simp, fun e => absurd (e ▸ rfl) h5⟩
  rw [if_neg (by simpa using h5)]
  have := Gf a; have := Gn a.Kids
  obtain ⟨r, e, j⟩ := Ha K (Do.upto K f) a.Kids b.Kids (by omega) (fun x hx y => ih f x (by have := F5 hx; omega) (by omega) (by have := F5 hx; omega) y) (by omega) K 0 (by omega) (by omega)
  have e' : B8.l15 K (Do.upto K f) a.Kids b.Kids K 0 = some (if r then Out.go () else Out.done false) := e
  rw [e']
  simp only [List.drop_zero] at j
  have : r = true ↔ a = b := by rw [j]; exact ⟨fun h => Aa.ext' h1 h2 h3 h4 h, fun h => h ▸ rfl⟩
  cases r with
  | true => exact ⟨true, rfl, this⟩
  | false => exact ⟨false, rfl, this⟩
theorem Gt (K : Nat) (hK : K ≤ 9000000000) (a b : Aa) (h : 2 * nsz a ≤ K) : Fp (Dl K a b) a b := G6 K hK (nsz a) K a (Nat.le_refl _) h (by omega) b
theorem H4 {K : Nat} (hK : 10000 ≤ K) (hK' : K ≤ 9000000000) (hw : Eb K = some true) (a b : Aa) : D1 K a b = some true := by
 unfold D1
 have fa := H6 K 2000 (by omega) (by omega) a
 have fb := H6 K 2000 (by omega) (by omega) b
 rw [show ((2000 : Nat) : Int) = 2000 from rfl] at fa fb
 rw [hw, fa, fb]
 by_cases ha : nsz a ≤ 2000
 case neg => simp [ha]
 by_cases hb : nsz b ≤ 2000
 case neg => simp [ha, hb]
 have s1 := Gt K hK' a b (by omega)
 have s2 := Hy K hK' a b (by omega)
 have s3 := (Gt K hK' a a (by omega)).self
 have s4 := s1.same s2
 obtain ⟨r, e, _⟩ := s2
 rw [s4, e, s3]
 simp [ha, hb]
theorem H3 : Eb 10000000 = some true := by decide +kernel
theorem G4 (a b : Aa) : D1 10000000 a b = some true := H4 (by omega) (by omega) H3 a b
end Go.Proofs.YtifjagfmfkemmaaGreatDoor
