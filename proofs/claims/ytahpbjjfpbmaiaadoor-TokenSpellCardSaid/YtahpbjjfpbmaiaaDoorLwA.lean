/- Logs, replicas and what is said of them. -/
import Derived.Test.YtahpbjjfpbmaiaaDoorFn3
set_option linter.unusedVariables false
set_option linter.unusedSimpArgs false
set_option maxHeartbeats 2000000
namespace Go.Proofs.YtahpbjjfpbmaiaaDoor
open Eng
def isL (c : UInt8) : Bool := (decide (97 ≤ c.toNat) && decide (c.toNat ≤ 122)) || (decide (65 ≤ c.toNat) && decide (c.toNat ≤ 90)) || decide (c.toNat = 95)
def isD (c : UInt8) : Bool := decide (48 ≤ c.toNat) && decide (c.toNat ≤ 57)
def isW (c : UInt8) : Bool := isL c || isD c
def isB (c : UInt8) : Bool := decide (c.toNat = 32) || decide (c.toNat = 9) || decide (c.toNat = 10)
def hd : List UInt8 → Int
 | [] => -1
 | c :: _ => (c.toNat : Int)
def onHd (p : UInt8 → Bool) : List UInt8 → Bool
 | [] => false
 | c :: _ => p c
theorem byte_lt (c : UInt8) : c.toNat < 256 := c.toNat_lt
theorem byte_eq {c : UInt8} {n : Nat} (h : c.toNat = n) : c = UInt8.ofNat n := by
 have h2 := UInt8.ofNat_toNat (x := c); rw [h] at h2; exact h2.symm
theorem wrap_i32 (c : UInt8) : IntKind.i32.wrap (c.toNat : Int) = (c.toNat : Int) := by
 have := byte_lt c
 unfold IntKind.wrap
 simp [IntKind.bits, IntKind.signed]
 omega
theorem wrap_u8 (c : UInt8) : IntKind.u8.wrap (c.toNat : Int) = (c.toNat : Int) := by
 have := byte_lt c
 unfold IntKind.wrap
 simp [IntKind.bits, IntKind.signed]
 omega
theorem wrapN {n : Nat} (h : n ≤ 9223372036854775807) : IntKind.i64.wrap (n : Int) = (n : Int) := Eng.wrap_small (by omega) (by omega)
theorem wrapS {n : Nat} (h : n < 9223372036854775807) : IntKind.i64.wrap ((n : Int) + 1) = ((n + 1 : Nat) : Int) := by rw [Eng.wrap_small (by omega) (by omega)]; omega
theorem wrapA {n m : Nat} (h : n + m ≤ 9223372036854775807) : IntKind.i64.wrap ((n : Int) + (m : Int)) = ((n + m : Nat) : Int) := by rw [Eng.wrap_small (by omega) (by omega)]; omega
theorem getD_drop {α : Type} (l : List α) (i : Nat) (c : α) (r : List α) (d : α) (h : l.drop i = c :: r) : l.getD i d = c ∧ i < l.length ∧ l.drop (i + 1) = r := by
 have hlt : i < l.length := by
  rcases Nat.lt_or_ge i l.length with h' | h'
  ·exact h'
  ·rw [List.drop_eq_nil_of_le h'] at h; cases h
 rw [List.drop_eq_getElem_cons hlt] at h
 injection h with h1 h2
 exact ⟨by simp [List.getD, hlt, h1], hlt, h2⟩
theorem peek_eq (K : Nat) (src : List UInt8) (i k : Nat) (h : i + k < 9223372036854775807) : token_scanner_peek K ⟨src, (i : Int)⟩ (k : Int) = some (hd (src.drop (i + k))) := by
 unfold token_scanner_peek
 simp only
 rw [wrapA (by omega)]
 by_cases hlt : i + k < src.length
 ·rw [if_neg (by omega), if_pos ⟨by omega, by omega⟩, Int.toNat_natCast]
  rw [List.drop_eq_getElem_cons hlt]
  simp [hd, List.getD, hlt, wrap_i32]
 ·rw [if_pos (by omega), List.drop_eq_nil_of_le (by omega)]
  rfl
theorem peek0 (K : Nat) (src : List UInt8) (i : Nat) (h : i < 9223372036854775807) : token_scanner_peek K ⟨src, (i : Int)⟩ 0 = some (hd (src.drop i)) := peek_eq K src i 0 (by omega)
theorem peek1 (K : Nat) (src : List UInt8) (i : Nat) (h : i + 1 < 9223372036854775807) : token_scanner_peek K ⟨src, (i : Int)⟩ 1 = some (hd (src.drop (i + 1))) := peek_eq K src i 1 (by omega)
theorem letter_nat (n : Nat) : ((if (n : Int) ≥ 97 then (if (n : Int) ≤ 122 then some true else (if (n : Int) ≥ 65 then (if (n : Int) ≤ 90 then some true else some (decide ((n : Int) = 95))) else some (decide ((n : Int) = 95)))) else (if (n : Int) ≥ 65 then (if (n : Int) ≤ 90 then some true else some (decide ((n : Int) = 95))) else some (decide ((n : Int) = 95)))) : Option Bool) = some ((decide (97 ≤ n) && decide (n ≤ 122)) || (decide (65 ≤ n) && decide (n ≤ 90)) || decide (n = 95)) := by
 have e : ∀ m : Nat, ((n : Int) = (m : Int)) ↔ n = m := fun m => by omega
 have e95 := e 95
 have g1 : ((n : Int) ≥ 97) ↔ 97 ≤ n := by omega
 have g2 : ((n : Int) ≤ 122) ↔ n ≤ 122 := by omega
 have g3 : ((n : Int) ≥ 65) ↔ 65 ≤ n := by omega
 have g4 : ((n : Int) ≤ 90) ↔ n ≤ 90 := by omega
 have g5 : ((n : Int) = 95) ↔ n = 95 := by omega
 simp only [g1, g2, g3, g4, g5]
 by_cases a : 97 ≤ n <;> by_cases b : n ≤ 122 <;> by_cases c : 65 ≤ n <;> by_cases d : n ≤ 90 <;> simp [a, b, c, d] <;> omega
theorem letter_hd (K : Nat) (s : List UInt8) : token_letter K (hd s) = some (onHd isL s) := by
 cases s with
 | nil => unfold token_letter; rfl
 | cons c r => exact letter_nat c.toNat
theorem digit_hd (K : Nat) (s : List UInt8) : token_digit K (hd s) = some (onHd isD s) := by
 cases s with
 | nil => unfold token_digit; rfl
 | cons c r =>
  unfold token_digit
  show (if (c.toNat : Int) ≥ 48 then some (decide ((c.toNat : Int) ≤ 57)) else some false) = some (decide (48 ≤ c.toNat) && decide (c.toNat ≤ 57))
  by_cases h : 48 ≤ c.toNat
  ·rw [if_pos (by omega)]; simp [h]; omega
  ·rw [if_neg (by omega)]; simp [h]
theorem word_hd (K : Nat) (s : List UInt8) : token_scanner_word_c1 K (hd s) = some (onHd isW s) := by
 unfold token_scanner_word_c1
 rw [letter_hd, Option.bind_some, digit_hd]
 cases s with
 | nil => rfl
 | cons c r =>
  show (if isL c = true then some true else some (isD c)) = some (isL c || isD c)
  by_cases h : isL c = true
  ·rw [if_pos h, h]; rfl
  ·rw [if_neg h, Bool.eq_false_iff.2 h]; rfl
theorem blank_hd (K : Nat) (s : List UInt8) : token_Scan_c1 K (hd s) = some (onHd isB s) := by
 cases s with
 | nil => unfold token_Scan_c1; rfl
 | cons c r =>
  unfold token_Scan_c1
  show (if (c.toNat : Int) = 32 then some true else (if (c.toNat : Int) = 9 then some true else some (decide ((c.toNat : Int) = 10)))) = some (decide (c.toNat = 32) || decide (c.toNat = 9) || decide (c.toNat = 10))
  by_cases h1 : c.toNat = 32
  ·rw [if_pos (by omega)]; simp [h1]
  ·rw [if_neg (by omega)]
   by_cases h2 : c.toNat = 9
   ·rw [if_pos (by omega)]; simp [h2]
   ·rw [if_neg (by omega)]; simp [h1, h2]; omega
theorem while2_l7 (K : Nat) (p0 : token_scanner) : ∀ (k i : Nat), (p0.src.drop i).length < k → i + k < 9223372036854775807 → token_scanner_while_v2.l7 K p0 k (i : Int) = some ((i + ((p0.src.drop i).takeWhile isB).length : Nat) : Int)
 | 0, i, h, _ => by omega
 | k + 1, i, h, hi => by
  unfold token_scanner_while_v2.l7
  rw [peek0 _ _ _ (by omega), Option.bind_some, blank_hd, Option.bind_some]
  cases hs : p0.src.drop i with
  | nil => simp [onHd]
  | cons c r =>
   obtain ⟨_, _, hr⟩ := getD_drop _ _ c r c hs
   rw [show onHd isB (c :: r) = isB c from rfl, List.takeWhile_cons]
   by_cases hb : isB c = true
   ·rw [if_pos hb, if_pos hb, wrapS (by omega), while2_l7 K p0 k (i + 1) (by rw [hr]; rw [hs] at h; simpa using h) (by omega), hr]
    simp; omega
   ·rw [if_neg hb, if_neg hb]; simp
theorem while4_l7 (K : Nat) (p0 : token_scanner) : ∀ (k i : Nat), (p0.src.drop i).length < k → i + k < 9223372036854775807 → token_scanner_while_v4.l7 K p0 k (i : Int) = some ((i + ((p0.src.drop i).takeWhile isW).length : Nat) : Int)
 | 0, i, h, _ => by omega
 | k + 1, i, h, hi => by
  unfold token_scanner_while_v4.l7
  rw [peek0 _ _ _ (by omega), Option.bind_some, word_hd, Option.bind_some]
  cases hs : p0.src.drop i with
  | nil => simp [onHd]
  | cons c r =>
   obtain ⟨_, _, hr⟩ := getD_drop _ _ c r c hs
   rw [show onHd isW (c :: r) = isW c from rfl, List.takeWhile_cons]
   by_cases hb : isW c = true
   ·rw [if_pos hb, if_pos hb, wrapS (by omega), while4_l7 K p0 k (i + 1) (by rw [hr]; rw [hs] at h; simpa using h) (by omega), hr]
    simp; omega
   ·rw [if_neg hb, if_neg hb]; simp
theorem while6_l7 (K : Nat) (p0 : token_scanner) : ∀ (k i : Nat), (p0.src.drop i).length < k → i + k < 9223372036854775807 → token_scanner_while_v6.l7 K p0 k (i : Int) = some ((i + ((p0.src.drop i).takeWhile isD).length : Nat) : Int)
 | 0, i, h, _ => by omega
 | k + 1, i, h, hi => by
  unfold token_scanner_while_v6.l7
  rw [peek0 _ _ _ (by omega), Option.bind_some, digit_hd, Option.bind_some]
  cases hs : p0.src.drop i with
  | nil => simp [onHd]
  | cons c r =>
   obtain ⟨_, _, hr⟩ := getD_drop _ _ c r c hs
   rw [show onHd isD (c :: r) = isD c from rfl, List.takeWhile_cons]
   by_cases hb : isD c = true
   ·rw [if_pos hb, if_pos hb, wrapS (by omega), while6_l7 K p0 k (i + 1) (by rw [hr]; rw [hs] at h; simpa using h) (by omega), hr]
    simp; omega
   ·rw [if_neg hb, if_neg hb]; simp
theorem take_tw {α : Type} (p : α → Bool) : ∀ s : List α, s.take (s.takeWhile p).length = s.takeWhile p
 | [] => rfl
 | c :: r => by
  rw [List.takeWhile_cons]
  cases p c with
  | false => rfl
  | true => simp [take_tw p r]
theorem tw_le {α : Type} (p : α → Bool) (s : List α) : (s.takeWhile p).length ≤ s.length := (List.takeWhile_sublist p).length_le
theorem slc_tw (src : List UInt8) (p : UInt8 → Bool) (i : Nat) : slc src (i : Int) ((i + ((src.drop i).takeWhile p).length : Nat) : Int) = (src.drop i).takeWhile p := by
 unfold slc
 rw [Int.toNat_natCast, Int.toNat_natCast, show i + ((src.drop i).takeWhile p).length - i = ((src.drop i).takeWhile p).length from by omega, take_tw]
theorem tw_bound (src : List UInt8) (p : UInt8 → Bool) (i : Nat) (hi : i ≤ src.length) : i + ((src.drop i).takeWhile p).length ≤ src.length := by
 have := tw_le p (src.drop i)
 rw [List.length_drop] at this
 omega
theorem while2_eq {K : Nat} {src : List UInt8} {i : Nat} (hi : i ≤ src.length) (hK : src.length < K) (hb : src.length + K < 9000000000) :
  token_scanner_while_v2 K ⟨src, (i : Int)⟩ = some ((src.drop i).takeWhile isB, ⟨src, ((i + ((src.drop i).takeWhile isB).length : Nat) : Int)⟩) := by
 have := tw_bound src isB i hi
 unfold token_scanner_while_v2
 rw [while2_l7 K ⟨src, (i : Int)⟩ K i (by simp; omega) (by omega), Option.bind_some]
 simp only
 rw [if_pos ⟨by omega, by omega, by omega⟩, slc_tw]
theorem while4_eq {K : Nat} {src : List UInt8} {i : Nat} (hi : i ≤ src.length) (hK : src.length < K) (hb : src.length + K < 9000000000) :
  token_scanner_while_v4 K ⟨src, (i : Int)⟩ = some ((src.drop i).takeWhile isW, ⟨src, ((i + ((src.drop i).takeWhile isW).length : Nat) : Int)⟩) := by
 have := tw_bound src isW i hi
 unfold token_scanner_while_v4
 rw [while4_l7 K ⟨src, (i : Int)⟩ K i (by simp; omega) (by omega), Option.bind_some]
 simp only
 rw [if_pos ⟨by omega, by omega, by omega⟩, slc_tw]
theorem while6_eq {K : Nat} {src : List UInt8} {i : Nat} (hi : i ≤ src.length) (hK : src.length < K) (hb : src.length + K < 9000000000) :
  token_scanner_while_v6 K ⟨src, (i : Int)⟩ = some ((src.drop i).takeWhile isD, ⟨src, ((i + ((src.drop i).takeWhile isD).length : Nat) : Int)⟩) := by
 have := tw_bound src isD i hi
 unfold token_scanner_while_v6
 rw [while6_l7 K ⟨src, (i : Int)⟩ K i (by simp; omega) (by omega), Option.bind_some]
 simp only
 rw [if_pos ⟨by omega, by omega, by omega⟩, slc_tw]
def kws : List (List UInt8) := [[97, 110, 100], [97, 119, 97, 105, 116], [99, 97, 115, 101], [99, 97, 116, 99, 104], [99, 104, 101, 99, 107], [101, 108, 115, 101], [102, 97, 108, 115, 101], [102, 117, 110, 99], [103, 111], [105, 102], [108, 101, 116], [110, 111, 116], [110, 117, 108, 108], [111, 110], [111, 114], [113, 117, 101, 114, 121], [114, 101, 116, 117, 114, 110], [115, 97, 103, 97], [115, 101, 108, 101, 99, 116], [115, 105, 103, 110, 97, 108], [116, 104, 114, 111, 119], [116, 114, 117, 101], [116, 114, 121], [117, 110, 100, 111], [117, 112, 100, 97, 116, 101], [118, 97, 114], [119, 104, 105, 108, 101]]
def isK (s : List UInt8) : Bool := decide (s ∈ kws)
theorem index_l7 (K : Nat) (l : List (List UInt8)) (v : List UInt8) (hl : l.length < 1000) : ∀ (k i : Nat), l.length - i < k → i ≤ l.length →
  (∃ j : Nat, slices_Index_48.l7 K l v k (i : Int) = some (.done (j : Int)) ∧ v ∈ l.drop i) ∨ (slices_Index_48.l7 K l v k (i : Int) = some (.go ()) ∧ v ∉ l.drop i)
 | 0, i, h, _ => by omega
 | k + 1, i, h, hi => by
  unfold slices_Index_48.l7
  by_cases hlt : i < l.length
  ·rw [if_pos (by omega), if_pos ⟨by omega, by omega⟩, Int.toNat_natCast, List.drop_eq_getElem_cons hlt]
   have hg : l.getD i [] = l[i] := by simp [List.getD, hlt]
   rw [hg]
   by_cases he : v = l[i]
   ·rw [if_pos he]; exact .inl ⟨i, rfl, by rw [he]; exact .head _⟩
   ·rw [if_neg he, wrapS (by omega)]
    rcases index_l7 K l v hl k (i + 1) (by omega) (by omega) with ⟨j, h1, h2⟩ | ⟨h1, h2⟩
    ·exact .inl ⟨j, h1, .tail _ h2⟩
    ·exact .inr ⟨h1, fun hm => (List.mem_cons.1 hm).elim he h2⟩
  ·rw [if_neg (by omega)]
   exact .inr ⟨rfl, by rw [List.drop_eq_nil_of_le (by omega)]; simp⟩
theorem contains_eq {K : Nat} {l : List (List UInt8)} {v : List UInt8} (hl : l.length < 1000) (hK : 1000 ≤ K) : slices_Contains_26 K l v = some (decide (v ∈ l)) := by
 unfold slices_Contains_26 slices_Index_48
 rcases index_l7 K l v hl K 0 (by omega) (by omega) with ⟨j, h1, h2⟩ | ⟨h1, h2⟩
 ·have h1' : slices_Index_48.l7 K l v K 0 = some (.done (j : Int)) := h1
  rw [h1']
  have : v ∈ l := by simpa using h2
  simp [obind, this]
 ·have h1' : slices_Index_48.l7 K l v K 0 = some (.go ()) := h1
  rw [h1']
  have : v ∉ l := by simpa using h2
  simp [obind, this]
theorem keyword_eq {K : Nat} (hK : 1000 ≤ K) (s : List UInt8) : token_Keyword K s = some (isK s) := by
 unfold token_Keyword
 rw [if_pos (by decide +kernel)]
 have e : Lib.fields ([97, 110, 100, 32, 97, 119, 97, 105, 116, 32, 99, 97, 115, 101, 32, 99, 97, 116, 99, 104, 32, 99, 104, 101, 99, 107, 32, 101, 108, 115, 101, 32, 102, 97, 108, 115, 101, 32, 102, 117, 110, 99, 32, 103, 111, 32, 105, 102, 32, 108, 101, 116, 32, 110, 111, 116, 32, 110, 117, 108, 108, 32, 111, 110, 32, 111, 114, 32, 113, 117, 101, 114, 121, 32, 114, 101, 116, 117, 114, 110, 32, 115, 97, 103, 97, 32, 115, 101, 108, 101, 99, 116, 32, 115, 105, 103, 110, 97, 108, 32, 116, 104, 114, 111, 119, 32, 116, 114, 117, 101, 32, 116, 114, 121, 32, 117, 110, 100, 111, 32, 117, 112, 100, 97, 116, 101, 32, 118, 97, 114, 32, 119, 104, 105, 108, 101] : List UInt8) = kws := by decide +kernel
 rw [e, contains_eq (by decide) hK]
 rfl
theorem rkeyword_l7 (K : Nat) (v : List UInt8) (l : List (List UInt8)) (hl : l.length < 1000) : ∀ (k i : Nat), l.length - i < k → i ≤ l.length →
  workflowref07_Keyword.l7 K v l k (i : Int) = some (if v ∈ l.drop i then .done true else .go ())
 | 0, i, h, _ => by omega
 | k + 1, i, h, hi => by
  unfold workflowref07_Keyword.l7
  by_cases hlt : i < l.length
  ·rw [if_pos (by omega), if_pos ⟨by omega, by omega⟩, Int.toNat_natCast, List.drop_eq_getElem_cons hlt]
   have hg : l.getD i [] = l[i] := by simp [List.getD, hlt]
   rw [hg]
   by_cases he : l[i] = v
   ·rw [if_pos he]; simp [he]
   ·rw [if_neg he, wrapS (by omega), rkeyword_l7 K v l hl k (i + 1) (by omega) (by omega)]
    have e2 : (v ∈ l[i] :: l.drop (i + 1)) ↔ v ∈ l.drop (i + 1) := ⟨fun h => (List.mem_cons.1 h).resolve_left fun e => he e.symm, .tail _⟩
    simp only [e2]
  ·rw [if_neg (by omega), List.drop_eq_nil_of_le (by omega)]
   simp
theorem rkeyword_eq {K : Nat} (hK : 1000 ≤ K) (s : List UInt8) : workflowref07_Keyword K s = some (isK s) := by
 unfold workflowref07_Keyword workflowref07_keywords
 rw [Option.bind_some]
 have h := rkeyword_l7 K s kws (by decide) K 0 (by have : kws.length = 27 := rfl; omega) (by omega)
 have h' : workflowref07_Keyword.l7 K s kws K 0 = _ := h
 show obind (workflowref07_Keyword.l7 K s kws K 0) _ _ = _
 rw [h']
 unfold isK
 by_cases hm : s ∈ kws <;> simp [obind, hm]
end Go.Proofs.YtahpbjjfpbmaiaaDoor
