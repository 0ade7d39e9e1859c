/- Members of sets; two majorities overlap. -/
import Derived.Test.YtjkfadlomchpjaaLwB
set_option linter.unusedVariables false
set_option linter.unusedSimpArgs false
namespace Go.Proofs.Ytjkfadlomchpjaa
open Eng

/-! #### members of sets -/
def bt (s i : Nat) : Nat := s / 2 ^ i % 2
def ms (s : Nat) : Nat → Nat
  | 0 => 0
  | n + 1 => ms s n + bt s n

theorem bt_le (s i : Nat) : bt s i ≤ 1 := by unfold bt; omega
theorem ms_le (s n : Nat) : ms s n ≤ n := by
  induction n with
  | zero => exact Nat.le_refl _
  | succ n ih => have := bt_le s n; unfold ms; omega

theorem ofNat_toNat {x : Nat} (h : x < 9223372036854775808) : (BitVec.ofInt 64 (x : Int)).toNat = x := by
  rw [BitVec.ofInt_natCast, BitVec.toNat_ofNat]; exact Nat.mod_eq_of_lt (by omega)

theorem shift_bit (s i : Nat) (hs : s < 9223372036854775808) (hi : i < 64) :
    IntKind.i64.wrap ((BitVec.ofInt 64 ((Int.fdiv (s : Int) (2 ^ (min i 64)))) &&& BitVec.ofInt 64 1).toNat : Int) = (bt s i : Int) := by
  have e : Int.fdiv (s : Int) (2 ^ (min i 64)) = ((s / 2 ^ i : Nat) : Int) := by
    rw [Nat.min_eq_left (by omega), Int.fdiv_eq_ediv_of_nonneg _ (by exact Int.le_of_lt (Int.pow_pos (by omega)))]
    rw [Int.natCast_ediv]; simp
  have hlt : s / 2 ^ i < 9223372036854775808 := Nat.lt_of_le_of_lt (Nat.div_le_self _ _) hs
  rw [e, BitVec.toNat_and, ofNat_toNat hlt, show (BitVec.ofInt 64 1).toNat = 1 from rfl, Nat.and_one_is_mod]
  have := bt_le s i
  unfold bt at this ⊢
  rw [Eng.wrap_small (by omega) (by omega)]

theorem members_l9 (K s n : Nat) (hs : s < 9223372036854775808) (hn : n ≤ 60) : ∀ (k i : Nat), n - i < k → i ≤ n → workflowlaw53_members.l9 K (s : Int) (n : Int) k (ms s i : Int) (i : Int) = some (ms s n : Int) := by
  intro k
  induction k with
  | zero => intro i h; omega
  | succ k ih =>
    intro i h hi
    unfold workflowlaw53_members.l9
    by_cases hlt : i < n
    · rw [if_pos (by omega), if_pos (by omega), Int.toNat_natCast, shift_bit s i hs (by omega), wrap_succ (n := i) (by omega)]
      have h1 := ms_le s i
      have h2 := bt_le s i
      rw [Eng.wrap_small (by omega) (by omega)]
      have := ih (i + 1) (by omega) (by omega)
      rw [show ms s (i + 1) = ms s i + bt s i from rfl] at this
      rw [Int.natCast_add] at this
      exact this
    · rw [if_neg (by omega)]
      obtain rfl : i = n := by omega
      rfl

theorem members_eq (K s n : Nat) (hs : s < 9223372036854775808) (hn : n ≤ 60) (hK : 100 ≤ K) : workflowlaw53_members K (s : Int) (n : Int) = some (ms s n : Int) := by
  unfold workflowlaw53_members
  have := members_l9 K s n hs hn K 0 (by omega) (by omega)
  rw [show workflowlaw53_members.l9 K (s : Int) (n : Int) K 0 0 = some (ms s n : Int) from this]; rfl

theorem common (a b : Nat) : ∀ n, n < ms a n + ms b n → ∃ i, i < n ∧ bt a i = 1 ∧ bt b i = 1
  | 0, h => by simp [ms] at h
  | n + 1, h => by
    unfold ms at h
    have h1 := bt_le a n
    have h2 := bt_le b n
    by_cases hb : bt a n = 1 ∧ bt b n = 1
    · exact ⟨n, by omega, hb.1, hb.2⟩
    · obtain ⟨i, h3, h4⟩ := common a b n (by omega)
      exact ⟨i, by omega, h4⟩

theorem overlap_eq (K a b n : Nat) (ha : a < 9223372036854775808) (hb : b < 9223372036854775808) (h : n < ms a n + ms b n) : quorum_Overlap K (a : Int) (b : Int) = some true := by
  unfold quorum_Overlap
  rw [BitVec.toNat_and, ofNat_toNat ha, ofNat_toNat hb]
  have hle : a &&& b ≤ a := Nat.and_le_left
  rw [Eng.wrap_small (by omega) (by omega)]
  congr 1
  rw [decide_eq_true_eq]
  intro h0
  have h0 : a &&& b = 0 := by omega
  obtain ⟨i, _, h1, h2⟩ := common a b n h
  have t1 : a.testBit i = true := by rw [Nat.testBit_eq_decide_div_mod_eq]; simpa [bt] using h1
  have t2 : b.testBit i = true := by rw [Nat.testBit_eq_decide_div_mod_eq]; simpa [bt] using h2
  have : (a &&& b).testBit i = true := by rw [Nat.testBit_and, t1, t2]; rfl
  rw [h0] at this
  simp at this

theorem mask_nat (p : Int) (M : Int) (h0 : 0 ≤ p) (h : I64 p) : ∃ x : Nat, x < 9223372036854775808 ∧ IntKind.i64.wrap ((BitVec.ofInt 64 p &&& BitVec.ofInt 64 M).toNat : Int) = (x : Int) := by
  unfold I64 at h
  obtain ⟨q, rfl⟩ : ∃ q : Nat, p = q := ⟨p.toNat, by omega⟩
  have hle : (BitVec.ofInt 64 (q : Int) &&& BitVec.ofInt 64 M).toNat ≤ q := by
    rw [BitVec.toNat_and, ofNat_toNat (by omega)]; exact Nat.and_le_left
  exact ⟨_, by omega, Eng.wrap_small (by omega) (by omega)⟩

theorem won_xor (m n : Nat) (h1 : 1 ≤ n) (hm : m ≤ n) : (!(won (m : Int) (n : Int) == won ((n : Int) - m) (n : Int))) = decide ((n : Int) % 2 = 1 ∨ 2 * (m : Int) ≠ n) := by
  have hmaj : maj (n : Int) = (n : Int) / 2 + 1 := by unfold maj; rw [if_neg (by omega)]
  unfold won
  rw [hmaj]
  by_cases a : (m : Int) ≥ (n : Int) / 2 + 1
  · have b : ¬ ((n : Int) - m ≥ (n : Int) / 2 + 1) := by omega
    have c : (n : Int) % 2 = 1 ∨ 2 * (m : Int) ≠ n := by omega
    have d : (n : Int) ≥ 1 := by omega
    simp only [a, b, c, d, and_true, and_false, decide_true, decide_false]; rfl
  · by_cases b : (n : Int) - m ≥ (n : Int) / 2 + 1
    · have c : (n : Int) % 2 = 1 ∨ 2 * (m : Int) ≠ n := by omega
      have d : (n : Int) ≥ 1 := by omega
      simp only [a, b, c, d, and_true, and_false, decide_true, decide_false]; rfl
    · have c : ¬ ((n : Int) % 2 = 1 ∨ 2 * (m : Int) ≠ n) := by omega
      simp only [a, b, c, and_true, and_false, decide_true, decide_false]; rfl

theorem overlaps_eq (n a b : Int) (ha : I64 a) (hb : I64 b) : workflowlaw53_QuorumOverlap 100000 n a b = some true := by
  unfold workflowlaw53_QuorumOverlap
  by_cases h1 : n < 1
  · rw [if_pos h1]; simp only [Option.bind_some, if_true, lives_eq]
  rw [if_neg h1]
  by_cases h2 : n > 60
  · rw [if_pos h2]; simp only [Option.bind_some, if_true, lives_eq]
  rw [if_neg h2]
  by_cases h3 : a < 0
  · rw [if_pos h3]; simp only [Option.bind_some, if_true, lives_eq]
  rw [if_neg h3]
  by_cases h4 : b < 0
  · simp only [h4, decide_true, Option.bind_some, if_true, lives_eq]
  simp only [h4, decide_false, Option.bind_some, Bool.false_eq_true, if_false]
  rw [if_pos (by omega)]
  obtain ⟨x, hx, ex⟩ := mask_nat a (IntKind.i64.wrap ((IntKind.i64.wrap (1 * 2 ^ (min (Int.toNat n) 64))) - 1)) (by omega) ha
  obtain ⟨y, hy, ey⟩ := mask_nat b (IntKind.i64.wrap ((IntKind.i64.wrap (1 * 2 ^ (min (Int.toNat n) 64))) - 1)) (by omega) hb
  rw [ex, ey]
  obtain ⟨m, rfl⟩ : ∃ m : Nat, n = m := ⟨n.toNat, by omega⟩
  have hI : I64 (m : Int) := by unfold I64; omega
  rw [members_eq _ x m hx (by omega) (by omega), members_eq _ y m hy (by omega) (by omega)]
  simp only [Option.bind_some, won_eq _ _ _ hI]
  have hxm := ms_le x m
  have hx1 : ∀ k : Int, (if (Int.tmod (m : Int) 2) = 1 then (if (((!(won (ms x m : Int) (m : Int) == won (IntKind.i64.wrap ((m : Int) - (ms x m : Int))) (m : Int))) == true)) = true then (some true : Option Bool) else some false) else (if (((!(won (ms x m : Int) (m : Int) == won (IntKind.i64.wrap ((m : Int) - (ms x m : Int))) (m : Int))) == (decide ((IntKind.i64.wrap (2 * (ms x m : Int))) ≠ (m : Int))))) = true then some true else some false)) = some true := by
    intro _
    rw [Eng.wrap_small (x := (m : Int) - (ms x m : Int)) (by omega) (by omega), Eng.wrap_small (x := 2 * (ms x m : Int)) (by omega) (by omega), won_xor _ _ (by omega) hxm, Int.tmod_eq_emod_of_nonneg (by omega)]
    by_cases c : (m : Int) % 2 = 1
    · rw [if_pos c]; simp only [c, true_or, decide_true, beq_self_eq_true, if_true]
    · rw [if_neg c]; simp only [c, false_or, beq_self_eq_true, if_true]
  by_cases w1 : won (ms x m : Int) (m : Int) = true
  · rw [if_pos w1]
    simp only [Option.bind_some]
    by_cases w2 : won (ms y m : Int) (m : Int) = true
    · simp only [w2, if_true]
      rw [overlap_eq _ x y m hx hy (by
        have a1 := of_decide_eq_true w1
        have a2 := of_decide_eq_true w2
        have hmaj : maj (m : Int) = (m : Int) / 2 + 1 := by unfold maj; rw [if_neg (by omega)]
        rw [hmaj] at a1 a2
        omega)]
      simp only [Option.bind_some, if_true, lives_eq]
      exact hx1 0
    · simp only [w2, if_false, Option.bind_some, lives_eq, Bool.false_eq_true]
      exact hx1 0
  · rw [if_neg w1]
    simp only [Option.bind_some, Bool.false_eq_true, if_false, lives_eq]
    exact hx1 0

end Go.Proofs.Ytjkfadlomchpjaa
