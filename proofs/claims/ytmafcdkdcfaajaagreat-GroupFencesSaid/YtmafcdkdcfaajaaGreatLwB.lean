/- The law. -/
import Derived.Test.YtmafcdkdcfaajaaGreatLwA
set_option linter.unusedVariables false
set_option linter.unusedSimpArgs false
namespace Go.Proofs.YtmafcdkdcfaajaaGreat
open Eng
def I64 (n : Int) : Prop := -9223372036854775808 ≤ n ∧ n ≤ 9223372036854775807
def maj (n : Int) : Int := if n < 1 then 0 else n / 2 + 1
theorem majority_eq (K : Nat) (n : Int) (h : I64 n) : quorum_Majority K n = some (maj n) := by
 unfold I64 at h
 unfold quorum_Majority maj
 by_cases h1 : n < 1
 ·rw [if_pos h1, if_pos h1]
 ·rw [if_neg h1, if_neg h1, Int.tdiv_eq_ediv_of_nonneg (by omega), Eng.wrap_small (x := n / 2) (by omega) (by omega), Eng.wrap_small (by omega) (by omega)]
theorem rmajority_eq (K : Nat) (n : Int) (h : I64 n) : wr53_Majority K n = some (maj n) := majority_eq K n h
def won (v n : Int) : Bool := decide (n ≥ 1 ∧ v ≥ maj n)
theorem won_eq (K : Nat) (v n : Int) (h : I64 n) : quorum_Won K v n = some (won v n) := by
 unfold quorum_Won won
 by_cases h1 : n ≥ 1
 ·rw [if_pos h1, majority_eq K n h]; simp [h1]
 ·rw [if_neg h1]; simp [h1]
theorem rwon_eq (K : Nat) (v n : Int) (h : I64 n) : wr53_Won K v n = some (won v n) := by
 unfold wr53_Won won
 by_cases h1 : n ≥ 1
 ·rw [if_pos h1, rmajority_eq K n h]; simp [h1]
 ·rw [if_neg h1]; simp [h1]
def cnt (l : List Int) (x : Int) : Nat := l.countP (fun y => decide (x ≤ y))
theorem cnt_cons (a : Int) (l : List Int) (x : Int) : cnt (a :: l) x = cnt l x + if x ≤ a then 1 else 0 := by
 unfold cnt; rw [List.countP_cons]; simp
theorem cnt_le (l : List Int) (x : Int) : cnt l x ≤ l.length := List.countP_le_length
theorem reach_l9 (K : Nat) (l : List Int) (x : Int) (hl : l.length < 9223372036854775807) : ∀ (k n : Nat) (c : Nat), l.length - n < k → n ≤ l.length → c ≤ n →
  wr53_reached.l9 K l x k (c : Int) (n : Int) = some ((c + cnt (l.drop n) x : Nat) : Int) := by
 intro k
 induction k with
 | zero => intro n c h; omega
 | succ k ih =>
  intro n c h hn hc
  unfold wr53_reached.l9
  by_cases hlt : n < l.length
  ·rw [if_pos (by omega), if_pos (by omega), Int.toNat_natCast, wrap_succ (n := n) (by omega), wrap_succ (n := c) (by omega), ih (n + 1) (c + 1) (by omega) (by omega) (by omega), ih (n + 1) c (by omega) (by omega) (by omega), drop_step hlt (0 : Int), cnt_cons]
   by_cases hd : l.getD n 0 ≥ x
   ·rw [if_pos hd, if_pos hd]; congr 2; omega
   ·rw [if_neg hd, if_neg (by omega)]; congr 1
  ·rw [if_neg (by omega), drop_end hlt]; simp [cnt]
theorem reach_eq (K : Nat) (l : List Int) (x : Int) (hl : l.length < 9223372036854775807) (hK : l.length < K) : wr53_reached K l x = some (cnt l x : Int) := by
 unfold wr53_reached
 have := reach_l9 K l x hl K 0 0 (by omega) (by omega) (by omega)
 simp only [Int.natCast_zero, List.drop_zero, Nat.zero_add] at this
 rw [show wr53_reached.l9 K l x K 0 0 = some (cnt l x : Int) from this]; rfl
theorem reached_eq (K : Nat) (l : List Int) (x : Int) (hl : l.length < 9223372036854775807) (hK : l.length < K) : wr53_reached K l x = some (cnt l x : Int) := reach_eq K l x hl hK
abbrev srt (l : List Int) : List Int := isrt l
theorem srt_perm (l : List Int) : (srt l).Perm l := isrt_perm l
theorem srt_sorted (l : List Int) : (srt l).Pairwise (· ≤ ·) := isrt_sorted l
theorem srt_len (l : List Int) : (srt l).length = l.length := (srt_perm l).length_eq
theorem cnt_perm {l m : List Int} (h : l.Perm m) (x : Int) : cnt l x = cnt m x := h.countP_eq _
theorem cnt_sorted : ∀ (s : List Int), s.Pairwise (· ≤ ·) → ∀ (i : Nat) (h : i < s.length), s.length - i ≤ cnt s s[i] ∧ ∀ x, s[i] < x → cnt s x ≤ s.length - i - 1
 | [], _, i, h => by simp at h
 | a :: s, hs, i, h => by
  rw [List.pairwise_cons] at hs
  cases i with
  | zero =>
   simp only [List.getElem_cons_zero, List.length_cons]
   constructor
   ·rw [cnt_cons, if_pos (Int.le_refl _)]
    have : cnt s a = s.length := List.countP_eq_length.2 fun y hy => by simpa using hs.1 y hy
    omega
   ·intro x hx
    rw [cnt_cons, if_neg (by omega)]
    have := cnt_le s x
    omega
  | succ i =>
   simp only [List.getElem_cons_succ, List.length_cons] at h ⊢
   obtain ⟨h1, h2⟩ := cnt_sorted s hs.2 i (by omega)
   have ha : a ≤ s[i] := hs.1 _ (List.getElem_mem _)
   constructor
   ·rw [cnt_cons]; split <;> omega
   ·intro x hx
    rw [cnt_cons, if_neg (by omega)]
    have := h2 x hx
    omega
structure IsMed (l : List Int) (v : Int) : Prop where
 mem : v ∈ l
 ge : maj l.length ≤ cnt l v
 lt : ∀ x, v < x → (cnt l x : Int) < maj l.length
theorem IsMed.uniq {l : List Int} {v w : Int} (h : IsMed l v) (h' : IsMed l w) : v = w := by
 rcases Int.lt_trichotomy v w with hlt | rfl | hgt
 ·have := h.lt w hlt; have := h'.ge; omega
 ·rfl
 ·have := h'.lt v hgt; have := h.ge; omega
theorem index_eq (K : Nat) (l : List Int) (h0 : l ≠ []) (hl : l.length ≤ 50) : ∃ v, IsMed l v ∧ quorum_Index K l = some (if 0 > v then 0 else v) := by
 have hpos : 0 < l.length := by cases l <;> simp_all
 have hm : maj (l.length : Int) = (l.length : Int) / 2 + 1 := by unfold maj; rw [if_neg (by omega)]
 have hlen := srt_len l
 have hi : l.length - (l.length / 2 + 1) < (srt l).length := by omega
 refine ⟨(srt l)[l.length - (l.length / 2 + 1)], ?_, ?_⟩
 ·obtain ⟨h1, h2⟩ := cnt_sorted (srt l) (srt_sorted l) _ hi
  refine ⟨(srt_perm l).mem_iff.1 (List.getElem_mem _), ?_, fun x hx => ?_⟩
  ·rw [← cnt_perm (srt_perm l), hm]; omega
  ·have := h2 x hx
   rw [← cnt_perm (srt_perm l), hm]; omega
 ·unfold quorum_Index
  change (if (l.length : Int) = 0 then some 0 else (if l.length * 8 ≤ 140737488351232 then (Option.bind (quorum_Majority K ((srt l).length : Int)) (fun a1 => (if (0 : Int) ≤ (IntKind.i64.wrap (((srt l).length : Int) - a1)) ∧ ((IntKind.i64.wrap (((srt l).length : Int) - a1)) : Int) < ((srt l).length : Int) then (if (Int.toNat ((IntKind.i64.wrap (((srt l).length : Int) - a1)))) < (srt l).length then some ((if (0 : Int) > ((srt l).getD ((Int.toNat ((IntKind.i64.wrap (((srt l).length : Int) - a1))))) (0 : Int)) then 0 else ((srt l).getD ((Int.toNat ((IntKind.i64.wrap (((srt l).length : Int) - a1))))) (0 : Int)))) else none) else none))) else none)) = _
  rw [if_neg (by omega), if_pos (by omega), hlen, majority_eq K _ (by unfold I64; omega), hm]
  simp only [Option.bind_some]
  rw [Eng.wrap_small (by omega) (by omega), if_pos (by omega), if_pos (by omega)]
  have e : ((l.length : Int) - ((l.length : Int) / 2 + 1)).toNat = l.length - (l.length / 2 + 1) := by omega
  rw [e]
  have e2 : (srt l).getD (l.length - (l.length / 2 + 1)) 0 = (srt l)[l.length - (l.length / 2 + 1)] := by simp [List.getD_eq_getElem?_getD, hi]
  rw [e2]
def idx (l : List Int) : Int := if h : l = [] then 0 else (quorum_Index 0 l).getD 0
theorem index_fuel (K K' : Nat) (l : List Int) (hl : l.length ≤ 50) : quorum_Index K l = quorum_Index K' l := by
 by_cases h : l = []
 ·subst h; rfl
 ·obtain ⟨v, h1, h2⟩ := index_eq K l h hl
  obtain ⟨w, h3, h4⟩ := index_eq K' l h hl
  rw [h2, h4, h1.uniq h3]
theorem index_idx (K : Nat) (l : List Int) (hl : l.length ≤ 50) : quorum_Index K l = some (idx l) := by
 unfold idx
 by_cases h : l = []
 ·subst h; rfl
 ·rw [dif_neg h, index_fuel K 0 l hl]
  obtain ⟨v, h1, h2⟩ := index_eq 0 l h hl
  rw [h2]; rfl
theorem idx_med (l : List Int) (h0 : l ≠ []) (hl : l.length ≤ 50) {v : Int} (hv : IsMed l v) : idx l = if 0 > v then 0 else v := by
 obtain ⟨w, h1, h2⟩ := index_eq 0 l h0 hl
 rw [hv.uniq h1]
 have := index_idx 0 l hl
 rw [h2] at this
 exact (Option.some.inj this).symm
theorem idx_nonneg (l : List Int) (hl : l.length ≤ 50) : 0 ≤ idx l := by
 by_cases h : l = []
 ·subst h; decide
 ·obtain ⟨v, h1, _⟩ := index_eq 0 l h hl
  rw [idx_med l h hl h1]; split <;> omega
theorem rindex_l9 (K : Nat) (l : List Int) (h0 : l ≠ []) (hl : l.length ≤ 50) (hK : 100 ≤ K) {v : Int} (hv : IsMed l v) : ∀ (k n : Nat) (b : Int), l.length - n < k → n ≤ l.length →
  0 ≤ b → b ≤ (if 0 > v then 0 else v) → (∀ (i : Nat) (h : i < n), l.getD i 0 = v → v ≤ b) → wr53_Index.l9 K l k b (n : Int) = some (if 0 > v then 0 else v) := by
 intro k
 induction k with
 | zero => intro n b h; omega
 | succ k ih =>
  intro n b h hn hb hbv hi
  unfold wr53_Index.l9
  by_cases hlt : n < l.length
  ·rw [if_pos (by omega), if_pos (by omega), Int.toNat_natCast, wrap_succ (n := n) (by omega)]
   by_cases hgt : l.getD n 0 > b
   ·rw [if_pos hgt, reached_eq K l _ (by omega) (by omega)]
    simp only [Option.bind_some]
    rw [rwon_eq K _ _ (by unfold I64; omega)]
    simp only [Option.bind_some]
    by_cases hw : won (cnt l (l.getD n 0)) l.length = true
    ·rw [if_pos hw]
     have hw' : maj l.length ≤ cnt l (l.getD n 0) := by simp only [won, decide_eq_true_eq] at hw; exact hw.2
     have hle : l.getD n 0 ≤ v := by
      rcases (show v < l.getD n 0 ∨ l.getD n 0 ≤ v by omega) with h1 | h1
      ·have := hv.lt _ h1; omega
      ·exact h1
     refine ih (n + 1) _ (by omega) (by omega) (by omega) (by split <;> omega) (fun i hi' e => ?_)
     rcases Nat.lt_or_ge i n with h1 | h1
     ·have := hi i h1 e; omega
     ·obtain rfl : i = n := by omega
      omega
    ·rw [if_neg hw]
     have hw' : ¬ maj l.length ≤ cnt l (l.getD n 0) := fun h1 => hw (by simp only [won, decide_eq_true_eq]; exact ⟨by omega, h1⟩)
     refine ih (n + 1) b (by omega) (by omega) hb hbv (fun i hi' e => ?_)
     rcases Nat.lt_or_ge i n with h1 | h1
     ·exact hi i h1 e
     ·obtain rfl : i = n := by omega
      exact absurd (e ▸ hv.ge) hw'
   ·rw [if_neg hgt]
    refine ih (n + 1) b (by omega) (by omega) hb hbv (fun i hi' e => ?_)
    rcases Nat.lt_or_ge i n with h1 | h1
    ·exact hi i h1 e
    ·obtain rfl : i = n := by omega
     omega
  ·rw [if_neg (by omega)]
   obtain ⟨i, hi1, hi2⟩ := List.getElem_of_mem hv.mem
   have := hi i (by omega) (by simp [List.getD_eq_getElem?_getD, hi1, hi2])
   congr 1
   split <;> omega
theorem rindex_eq (K : Nat) (l : List Int) (hl : l.length ≤ 50) (hK : 100 ≤ K) : wr53_Index K l = some (idx l) := by
 unfold wr53_Index
 by_cases h0 : l = []
 ·subst h0
  obtain ⟨k, rfl⟩ : ∃ k, K = k + 1 := ⟨K - 1, by omega⟩
  rfl
 ·obtain ⟨v, h1, _⟩ := index_eq 0 l h0 hl
  rw [show (0 : Int) = ((0 : Nat) : Int) from rfl, rindex_l9 K l h0 hl hK h1 K 0 (0 : Nat) (by omega) (by omega) (by omega) (by split <;> omega) (fun i hi => by omega), idx_med l h0 hl h1]
  rfl
abbrev ep (r : aRep) (j : Int) : Prop := (r.Log.getD (Int.toNat (j - 1)) z_aEnt).Epoch = r.Epoch
structure Good (r : aRep) (x c : Int) : Prop where
 is : c = r.Commit ∨ (r.Commit < c ∧ 1 ≤ c ∧ c ≤ r.Log.length ∧ c ≤ x ∧ ep r c)
 most : ∀ j, r.Commit < j → 1 ≤ j → j ≤ r.Log.length → j ≤ x → ep r j → j ≤ c
theorem Good.uniq {r : aRep} {x c d : Int} (h : Good r x c) (h' : Good r x d) : c = d := by
 rcases h.is with h1 | ⟨h1, h2, h3, h4, h5⟩
 ·rcases h'.is with g1 | ⟨g1, g2, g3, g4, g5⟩
  ·omega
  ·have := h.most d g1 g2 g3 g4 g5; omega
 ·have a := h'.most c h1 h2 h3 h4 h5
  rcases h'.is with g1 | ⟨g1, g2, g3, g4, g5⟩
  ·omega
  ·have := h.most d g1 g2 g3 g4 g5; omega
theorem commit_l7 (K : Nat) (r : aRep) (hl : r.Log.length ≤ 5000) : ∀ (k : Nat) (i : Int), i.toNat < k → 0 ≤ i → i ≤ r.Log.length →
  (∃ c, quorum_Commit.l7 K r k i = some (Out.done c) ∧ r.Commit < c ∧ 1 ≤ c ∧ c ≤ i ∧ ep r c ∧ ∀ j, r.Commit < j → 1 ≤ j → j ≤ i → ep r j → j ≤ c) ∨
  (quorum_Commit.l7 K r k i = some (Out.go ()) ∧ ∀ j, r.Commit < j → 1 ≤ j → j ≤ i → ¬ ep r j) := by
 intro k
 induction k with
 | zero => intro i h; omega
 | succ k ih =>
  intro i h h0 hn
  unfold quorum_Commit.l7
  by_cases h1 : i > r.Commit
  ·rw [if_pos h1]
   by_cases h2 : i > 0
   ·rw [if_pos h2, Eng.wrap_small (by omega) (by omega), if_pos (by omega)]
    by_cases h3 : ep r i
    ·rw [if_pos h3]
     exact .inl ⟨i, rfl, by omega, by omega, by omega, h3, fun j _ _ h _ => h⟩
    ·rw [if_neg h3]
     rcases ih (i - 1) (by omega) (by omega) (by omega) with ⟨c, g1, g2, g3, g4, g5, g6⟩ | ⟨g1, g2⟩
     ·refine .inl ⟨c, g1, g2, g3, by omega, g5, fun j a1 a2 a3 a4 => ?_⟩
      rcases (show j ≤ i - 1 ∨ j = i by omega) with e | rfl
      ·exact g6 j a1 a2 e a4
      ·exact absurd a4 h3
     ·refine .inr ⟨g1, fun j a1 a2 a3 a4 => ?_⟩
      rcases (show j ≤ i - 1 ∨ j = i by omega) with e | rfl
      ·exact g2 j a1 a2 e a4
      ·exact h3 a4
   ·rw [if_neg h2]; exact .inr ⟨rfl, fun j a1 a2 a3 => by omega⟩
  ·rw [if_neg h1]; exact .inr ⟨rfl, fun j a1 a2 a3 => by omega⟩
theorem commit_eq (K : Nat) (r : aRep) (l : List Int) (hl : r.Log.length ≤ 5000) (hm : l.length ≤ 50) (hK : 100000 ≤ K) : ∃ c, quorum_Commit K r l = some c ∧ Good r (idx l) c := by
 unfold quorum_Commit
 rw [index_idx K l hm]
 simp only [Option.bind_some]
 have hx := idx_nonneg l hm
 rcases commit_l7 K r hl K (if (r.Log.length : Int) < idx l then (r.Log.length : Int) else idx l) (by split <;> omega) (by split <;> omega) (by split <;> omega) with ⟨c, g1, g2, g3, g4, g5, g6⟩ | ⟨g1, g2⟩
 ·rw [g1]
  refine ⟨c, rfl, .inr ⟨g2, g3, by split at g4 <;> omega, by split at g4 <;> omega, g5⟩, fun j a1 a2 a3 a4 a5 => g6 j a1 a2 (by split <;> omega) a5⟩
 ·rw [g1]
  exact ⟨r.Commit, rfl, .inl rfl, fun j a1 a2 a3 a4 a5 => absurd a5 (g2 j a1 a2 (by split <;> omega))⟩
theorem rcommit_l9 (K : Nat) (r : aRep) (l : List Int) (hl : r.Log.length ≤ 5000) (hm : l.length ≤ 50) (hK : 100000 ≤ K) : ∀ (k : Nat) (b i : Int), (r.Log.length + 1 - i).toNat < k → 1 ≤ i → i ≤ r.Log.length + 1 →
  (b = r.Commit ∨ (r.Commit < b ∧ 1 ≤ b ∧ b ≤ r.Log.length ∧ b ≤ idx l ∧ b < i ∧ ep r b)) → (∀ j, r.Commit < j → 1 ≤ j → j < i → j ≤ idx l → ep r j → j ≤ b) → ∃ c, wr53_Commit.l9 K r l k b i = some c ∧ Good r (idx l) c := by
 intro k
 induction k with
 | zero => intro b i h; omega
 | succ k ih =>
  intro b i h h0 hn hb hmost
  unfold wr53_Commit.l9
  by_cases h1 : i ≤ r.Log.length
  ·rw [if_pos h1, rindex_eq K l hm (by omega)]
   simp only [Option.bind_some]
   by_cases h2 : i ≤ idx l
   ·rw [if_pos h2]
    have hw : IntKind.i64.wrap (i + 1) = i + 1 := Eng.wrap_small (by omega) (by omega)
    rw [hw]
    by_cases h3 : i > b
    ·rw [if_pos h3, Eng.wrap_small (by omega) (by omega), if_pos (by omega)]
     have hgt : r.Commit < i := by rcases hb with rfl | hb <;> omega
     by_cases h4 : ep r i
     ·rw [if_pos h4]
      refine ih i (i + 1) (by omega) (by omega) (by omega) (.inr ⟨hgt, h0, h1, h2, by omega, h4⟩) (fun j a1 a2 a3 a4 a5 => by omega)
     ·rw [if_neg h4]
      refine ih b (i + 1) (by omega) (by omega) (by omega) (hb.imp_right fun ⟨b1, b2, b3, b4, b5, b6⟩ => ⟨b1, b2, b3, b4, by omega, b6⟩) (fun j a1 a2 a3 a4 a5 => ?_)
      rcases (show j < i ∨ j = i by omega) with e | rfl
      ·exact hmost j a1 a2 e a4 a5
      ·exact absurd a5 h4
    ·rw [if_neg h3]
     refine ih b (i + 1) (by omega) (by omega) (by omega) (hb.imp_right fun ⟨b1, b2, b3, b4, b5, b6⟩ => ⟨b1, b2, b3, b4, by omega, b6⟩) (fun j a1 a2 a3 a4 a5 => by omega)
   ·rw [if_neg h2]
    exact ⟨b, rfl, hb.imp_right fun ⟨b1, b2, b3, b4, b5, b6⟩ => ⟨b1, b2, b3, b4, b6⟩, fun j a1 a2 a3 a4 a5 => hmost j a1 a2 (by omega) a4 a5⟩
  ·rw [if_neg h1]
   exact ⟨b, rfl, hb.imp_right fun ⟨b1, b2, b3, b4, b5, b6⟩ => ⟨b1, b2, b3, b4, b6⟩, fun j a1 a2 a3 a4 a5 => hmost j a1 a2 (by omega) a4 a5⟩
theorem rcommit_eq (K : Nat) (r : aRep) (l : List Int) (hl : r.Log.length ≤ 5000) (hm : l.length ≤ 50) (hK : 100000 ≤ K) : wr53_Commit K r l = quorum_Commit K r l := by
 obtain ⟨c, h1, h2⟩ := commit_eq K r l hl hm hK
 obtain ⟨d, h3, h4⟩ := rcommit_l9 K r l hl hm hK K r.Commit 1 (by omega) (by omega) (by omega) (.inl rfl) (fun j a1 a2 a3 => by omega)
 unfold wr53_Commit
 rw [h1, h3, h4.uniq h2]; rfl
end Go.Proofs.YtmafcdkdcfaajaaGreat
