/- Logs, replicas and what is said of them. -/
import Derived.Test.YtifjagfmfkemmaaGreatDoorFn5
set_option linter.unusedVariables false
set_option maxHeartbeats 0
namespace Go.Proofs.YtifjagfmfkemmaaGreatDoor
open Eng Go
mutual
def nsz : Aa → Nat
 | ⟨_, _, _, _, k⟩ => lsz k + 1
def lsz : List Aa → Nat
 | [] => 0
 | x :: l => nsz x + lsz l
end
theorem E9 (n : Aa) : nsz n = lsz n.Kids + 1 := by cases n; simp [nsz]
theorem Fj (n : Aa) : 1 ≤ nsz n := by rw [E9]; omega
theorem Eg : ∀ {l : List Aa} {x : Aa}, x ∈ l → nsz x ≤ lsz l
 | y :: l, x, h => by
  rcases List.mem_cons.1 h with e | e
  ·subst e; simp [lsz]
  ·have := Eg e; simp [lsz]; omega
theorem E3 : ∀ (l : List Aa), l.length ≤ lsz l
 | [] => by simp
 | y :: l => by have := E3 l; have := Fj y; simp [lsz]; omega
theorem Fr {α : Type} {l : List α} {i : Nat} {d : α} (h : i < l.length) : l.getD i d = l[i] := by simp [List.getD, h]
theorem Gk {l : List Aa} {i : Nat} (h : i < l.length) : lsz (l.drop i) = nsz (l.getD i Ai) + lsz (l.drop (i + 1)) := by
 rw [List.drop_eq_getElem_cons h, lsz, Fr h]
theorem Ex {l : List Aa} {i : Nat} (h : i < l.length) : l.getD i Ai ∈ l := by
 rw [Fr h]; exact List.getElem_mem h
theorem w64 {x : Int} (h : -9223372036854775808 ≤ x) (h' : x ≤ 9223372036854775807) : IntKind.i64.wrap x = x := by
 unfold IntKind.wrap; simp only [IntKind.signed, IntKind.bits]; simp; omega
theorem Jw (K : Nat) (R : C5) (t : Aa) (M : Nat)
  (ih : ∀ (m : Nat), m < M → ∀ x : Aa, ∃ r : Int, R.Bz x m = some r ∧ -1 ≤ r ∧ r < m ∧ (0 ≤ r ↔ (nsz x : Int) ≤ m) ∧ (0 ≤ r → (nsz x : Int) = m - r)) :
  ∀ (k : Nat) (n : Int) (i : Nat), -1 ≤ n → n < M → n + 1 < k → i ≤ t.Kids.length → i + n ≤ 9000000000 →
   ∃ r : Int, Bz.l9 K R t k n i = some r ∧ -1 ≤ r ∧ r ≤ n ∧ (0 ≤ r ↔ 0 ≤ n ∧ (lsz (t.Kids.drop i) : Int) ≤ n) ∧ (0 ≤ r → (lsz (t.Kids.drop i) : Int) = n - r) := by
 intro k
 induction k with
 | zero => intro n i h1 h2 h3; omega
 | succ k ih2 =>
  intro n i h1 h2 h3 h4 h5
  unfold Bz.l9
  by_cases hi : (i : Int) < (t.Kids.length : Int)
  ·rw [if_pos hi]
   by_cases hn : n ≥ 0
   ·rw [if_pos hn, if_pos ⟨by omega, hi⟩]
    obtain ⟨m, rfl⟩ := Int.eq_ofNat_of_zero_le hn
    obtain ⟨r, e, a1, a2, a3, a4⟩ := ih m (by omega) (t.Kids.getD i Ai)
    have e' : R.Bz (t.Kids.getD (Int.toNat (i : Int)) Ai) (m : Int) = some r := e
    rw [e', Option.bind_some, w64 (by omega) (by omega)]
    obtain ⟨r', b0, b1, b2, b3, b4⟩ := ih2 r (i + 1) a1 (by omega) (by omega) (by omega) (by omega)
    rw [Gk (by omega)]
    have := Fj (t.Kids.getD i Ai)
    refine ⟨r', b0, b1, by omega, ?_, ?_⟩ <;> omega
   ·rw [if_neg hn]
    refine ⟨n, rfl, h1, Int.le_refl _, ?_, ?_⟩ <;> omega
  ·rw [if_neg hi]
   have : t.Kids.drop i = [] := List.drop_eq_nil_iff.2 (by omega)
   refine ⟨n, rfl, h1, Int.le_refl _, ?_, ?_⟩ <;> rw [this] <;> simp [lsz]
theorem Jt (K : Nat) (M : Nat) (hK : M < K) (hM : M ≤ 9000000) : ∀ (m : Nat), m ≤ M → ∀ (f : Nat), m < f → ∀ x : Aa,
  ∃ r : Int, (C5.upto K f).Bz x m = some r ∧ -1 ≤ r ∧ r < m ∧ (0 ≤ r ↔ (nsz x : Int) ≤ m) ∧ (0 ≤ r → (nsz x : Int) = m - r) := by
 intro m
 induction m using Nat.strongRecOn with
 | _ m ih =>
  intro hm f hf x
  obtain ⟨f, rfl⟩ : ∃ g, f = g + 1 := ⟨f - 1, by omega⟩
  obtain ⟨r, b0, b1, b2, b3, b4⟩ := Jw K (C5.upto K f) x m (fun m' h y => ih m' h (by omega) f (by omega) y) K (m - 1) 0 (by omega) (by omega) (by omega) (by omega) (by omega)
  refine ⟨r, ?_, b1, by omega, ?_, ?_⟩
  ·show Option.bind (Bz.l9 K _ x K (IntKind.i64.wrap ((m : Int) - 1)) 0) _ = _
   rw [w64 (by omega) (by omega)]
   have b0' : Bz.l9 K (C5.upto K f) x K (m - 1) 0 = some r := b0
   rw [b0']; rfl
  ·rw [E9]; simp only [List.drop_zero] at b3; omega
  ·rw [E9]; simp only [List.drop_zero] at b4; omega
theorem Km (K : Nat) (m : Nat) (hK : m < K) (hM : m ≤ 9000000) (x : Aa) : Ef K x m = some (decide (nsz x ≤ m)) := by
 obtain ⟨r, b0, b1, b2, b3, b4⟩ := Jt K m hK hM m (Nat.le_refl _) K hK x
 unfold Ef Bz
 rw [b0, Option.bind_some]
 congr 1
 have : (r ≥ 0) = (nsz x ≤ m) := by apply propext; show 0 ≤ r ↔ _; rw [b3]; omega
 simp [this]
def Hr {α : Type} (o : Option Bool) (a b : α) : Prop := ∃ r, o = some r ∧ (r = true ↔ a = b)
theorem Hr.same {α : Type} {o o' : Option Bool} {a b : α} (h : Hr o a b) (h' : Hr o' a b) : o = o' := by
 obtain ⟨r, e, f⟩ := h; obtain ⟨r', e', f'⟩ := h'
 rw [e, e']; congr 1
 cases r <;> cases r' <;> simp_all
end Go.Proofs.YtifjagfmfkemmaaGreatDoor
