/- The law. -/
import Derived.Test.YtifjagfmfkemmaaGreatDoorLwA
set_option linter.unusedVariables false
set_option linter.unusedSimpArgs false
set_option maxHeartbeats 4000000
namespace Go.Proofs.YtifjagfmfkemmaaGreatDoor
open Eng
def isL (c : UInt8) : Bool := (decide (97 ≤ c.toNat) && decide (c.toNat ≤ 122)) || (decide (65 ≤ c.toNat) && decide (c.toNat ≤ 90)) || decide (c.toNat = 95)
def isD (c : UInt8) : Bool := decide (48 ≤ c.toNat) && decide (c.toNat ≤ 57)
def isW (c : UInt8) : Bool := isL c || isD c
def isB (c : UInt8) : Bool := decide (c.toNat = 32) || decide (c.toNat = 9) || decide (c.toNat = 10)
def hd : List UInt8 → Int
 | [] => -1
 | c :: _ => (c.toNat : Int)
def K3 (p : UInt8 → Bool) : List UInt8 → Bool
 | [] => false
 | c :: _ => p c
theorem Kj {n : Nat} (h : n < 9223372036854775807) : IntKind.i64.wrap ((n : Int) + 1) = ((n + 1 : Nat) : Int) := by rw [Eng.wrap_small (by omega) (by omega)]; omega
theorem Gm (n : Nat) : ((if (n : Int) ≥ 97 then (if (n : Int) ≤ 122 then some true else (if (n : Int) ≥ 65 then (if (n : Int) ≤ 90 then some true else some (decide ((n : Int) = 95))) else some (decide ((n : Int) = 95)))) else (if (n : Int) ≥ 65 then (if (n : Int) ≤ 90 then some true else some (decide ((n : Int) = 95))) else some (decide ((n : Int) = 95)))) : Option Bool) = some ((decide (97 ≤ n) && decide (n ≤ 122)) || (decide (65 ≤ n) && decide (n ≤ 90)) || decide (n = 95)) := by
 have e : ∀ m : Nat, ((n : Int) = (m : Int)) ↔ n = m := fun m => by omega
 have e95 := e 95
 have g1 : ((n : Int) ≥ 97) ↔ 97 ≤ n := by omega
 have g2 : ((n : Int) ≤ 122) ↔ n ≤ 122 := by omega
 have g3 : ((n : Int) ≥ 65) ↔ 65 ≤ n := by omega
 have g4 : ((n : Int) ≤ 90) ↔ n ≤ 90 := by omega
 have g5 : ((n : Int) = 95) ↔ n = 95 := by omega
 simp only [g1, g2, g3, g4, g5]
 by_cases a : 97 ≤ n <;> by_cases b : n ≤ 122 <;> by_cases c : 65 ≤ n <;> by_cases d : n ≤ 90 <;> simp [a, b, c, d] <;> omega
def kws : List (List UInt8) := [[97, 110, 100], [97, 119, 97, 105, 116], [99, 97, 115, 101], [99, 97, 116, 99, 104], [99, 104, 101, 99, 107], [101, 108, 115, 101], [102, 97, 108, 115, 101], [102, 117, 110, 99], [103, 111], [105, 102], [108, 101, 116], [110, 111, 116], [110, 117, 108, 108], [111, 110], [111, 114], [113, 117, 101, 114, 121], [114, 101, 116, 117, 114, 110], [115, 97, 103, 97], [115, 101, 108, 101, 99, 116], [115, 105, 103, 110, 97, 108], [116, 104, 114, 111, 119], [116, 114, 117, 101], [116, 114, 121], [117, 110, 100, 111], [117, 112, 100, 97, 116, 101], [118, 97, 114], [119, 104, 105, 108, 101]]
def isK (s : List UInt8) : Bool := decide (s ∈ kws)
theorem He (K : Nat) (l : List (List UInt8)) (v : List UInt8) (hl : l.length < 1000) : ∀ (k i : Nat), l.length - i < k → i ≤ l.length →
  (∃ j : Nat, Df.l7 K l v k (i : Int) = some (.done (j : Int)) ∧ v ∈ l.drop i) ∨ (Df.l7 K l v k (i : Int) = some (.go ()) ∧ v ∉ l.drop i)
 | 0, i, h, _ => by omega
 | k + 1, i, h, hi => by
  unfold Df.l7
  by_cases hlt : i < l.length
  ·rw [if_pos (by omega), if_pos ⟨by omega, by omega⟩, Int.toNat_natCast, List.drop_eq_getElem_cons hlt]
   have hg : l.getD i [] = l[i] := by simp [List.getD, hlt]
   rw [hg]
   by_cases he : v = l[i]
   ·rw [if_pos he]; exact .inl ⟨i, rfl, by rw [he]; exact .head _⟩
   ·rw [if_neg he, Kj (by omega)]
    rcases He K l v hl k (i + 1) (by omega) (by omega) with ⟨j, h1, h2⟩ | ⟨h1, h2⟩
    ·exact .inl ⟨j, h1, .tail _ h2⟩
    ·exact .inr ⟨h1, fun hm => (List.mem_cons.1 hm).elim he h2⟩
  ·rw [if_neg (by omega)]
   exact .inr ⟨rfl, by rw [List.drop_eq_nil_of_le (by omega)]; simp⟩
theorem Ha {K : Nat} {l : List (List UInt8)} {v : List UInt8} (hl : l.length < 1000) (hK : 1000 ≤ K) : D7 K l v = some (decide (v ∈ l)) := by
 unfold D7 Df
 rcases He K l v hl K 0 (by omega) (by omega) with ⟨j, h1, h2⟩ | ⟨h1, h2⟩
 ·have h1' : Df.l7 K l v K 0 = some (.done (j : Int)) := h1
  rw [h1']
  have : v ∈ l := by simpa using h2
  simp [obind, this]
 ·have h1' : Df.l7 K l v K 0 = some (.go ()) := h1
  rw [h1']
  have : v ∉ l := by simpa using h2
  simp [obind, this]
theorem Hq {K : Nat} (hK : 1000 ≤ K) (s : List UInt8) : Eh K s = some (isK s) := by
 unfold Eh
 rw [if_pos (by decide +kernel)]
 have e : Lib.fields ([97, 110, 100, 32, 97, 119, 97, 105, 116, 32, 99, 97, 115, 101, 32, 99, 97, 116, 99, 104, 32, 99, 104, 101, 99, 107, 32, 101, 108, 115, 101, 32, 102, 97, 108, 115, 101, 32, 102, 117, 110, 99, 32, 103, 111, 32, 105, 102, 32, 108, 101, 116, 32, 110, 111, 116, 32, 110, 117, 108, 108, 32, 111, 110, 32, 111, 114, 32, 113, 117, 101, 114, 121, 32, 114, 101, 116, 117, 114, 110, 32, 115, 97, 103, 97, 32, 115, 101, 108, 101, 99, 116, 32, 115, 105, 103, 110, 97, 108, 32, 116, 104, 114, 111, 119, 32, 116, 114, 117, 101, 32, 116, 114, 121, 32, 117, 110, 100, 111, 32, 117, 112, 100, 97, 116, 101, 32, 118, 97, 114, 32, 119, 104, 105, 108, 101] : List UInt8) = kws := by decide +kernel
 rw [e, Ha (by decide) hK]
 rfl
theorem Gc (K : Nat) (v : List UInt8) (l : List (List UInt8)) (hl : l.length < 1000) : ∀ (k i : Nat), l.length - i < k → i ≤ l.length →
  Cq.l7 K v l k (i : Int) = some (if v ∈ l.drop i then .done true else .go ())
 | 0, i, h, _ => by omega
 | k + 1, i, h, hi => by
  unfold Cq.l7
  by_cases hlt : i < l.length
  ·rw [if_pos (by omega), if_pos ⟨by omega, by omega⟩, Int.toNat_natCast, List.drop_eq_getElem_cons hlt]
   have hg : l.getD i [] = l[i] := by simp [List.getD, hlt]
   rw [hg]
   by_cases he : l[i] = v
   ·rw [if_pos he]; simp [he]
   ·rw [if_neg he, Kj (by omega), Gc K v l hl k (i + 1) (by omega) (by omega)]
    have e2 : (v ∈ l[i] :: l.drop (i + 1)) ↔ v ∈ l.drop (i + 1) := ⟨fun h => (List.mem_cons.1 h).resolve_left fun e => he e.symm, .tail _⟩
    simp only [e2]
  ·rw [if_neg (by omega), List.drop_eq_nil_of_le (by omega)]
   simp
theorem Hh {K : Nat} (hK : 1000 ≤ K) (s : List UInt8) : Cq K s = some (isK s) := by
 unfold Cq Dz
 rw [Option.bind_some]
 have h := Gc K s kws (by decide) K 0 (by have : kws.length = 27 := rfl; omega) (by omega)
 have h' : Cq.l7 K s kws K 0 = _ := h
 show obind (Cq.l7 K s kws K 0) _ _ = _
 rw [h']
 unfold isK
 by_cases hm : s ∈ kws <;> simp [obind, hm]
def hx (c : UInt8) : Int := if isD c = true then (c.toNat : Int) - 48 else if 97 ≤ c.toNat ∧ c.toNat ≤ 102 then (c.toNat : Int) - 87 else -1
def okT (src : List UInt8) (i : Nat) (r : Except Int (List UInt8 × List UInt8)) (x : Option (Out (Aw × Int × As) Unit)) : Prop :=
 match r with
 | .ok (t, rest) => ∃ j : Nat, i < j ∧ j ≤ src.length ∧ rest = src.drop j ∧ x = some (.done (⟨4, 0, t, 0⟩, 0, ⟨src, (j : Int)⟩))
 | .error e => e ≠ 0 ∧ ∃ t q, x = some (.done (t, e, q))
theorem okT.ok {src : List UInt8} {i j : Nat} {t : List UInt8} (h1 : i < j) (h2 : j ≤ src.length) : okT src i (.ok (t, src.drop j)) (some (.done (⟨4, 0, t, 0⟩, 0, ⟨src, (j : Int)⟩))) := ⟨j, h1, h2, rfl, rfl⟩
theorem okT.le {src : List UInt8} {i i' : Nat} {r : Except Int (List UInt8 × List UInt8)} {x : Option (Out (Aw × Int × As) Unit)} (h : okT src i' r x) (hi : i ≤ i') : okT src i r x := by
 unfold okT at h ⊢
 split at h
 ·obtain ⟨j, h1, h2⟩ := h; exact ⟨j, by omega, h2⟩
 ·exact h
def okS (src : List UInt8) (i : Nat) (r : Except Int (Aw × List UInt8)) (x : Option (Aw × Int × As)) : Prop :=
 match r with
 | .ok (t, rest) => ∃ j : Nat, i < j ∧ j ≤ src.length ∧ rest = src.drop j ∧ x = some (t, 0, ⟨src, (j : Int)⟩)
 | .error e => e ≠ 0 ∧ ∃ t q, x = some (t, e, q)
theorem okS.ok {src : List UInt8} {i j : Nat} {t : Aw} {rest : List UInt8} (h1 : i < j) (h2 : j ≤ src.length) (h3 : rest = src.drop j) : okS src i (.ok (t, rest)) (some (t, 0, ⟨src, (j : Int)⟩)) := ⟨j, h1, h2, h3, rfl⟩
end Go.Proofs.YtifjagfmfkemmaaGreatDoor
