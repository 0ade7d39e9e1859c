/- The law. -/
import Derived.Test.YtahpbjjfpbmaiaaDoorLwH
set_option linter.unusedVariables false
set_option linter.unusedSimpArgs false
set_option maxHeartbeats 4000000
namespace Go.Proofs.YtahpbjjfpbmaiaaDoor
open Eng
def hexs : List UInt8 := [48, 49, 50, 51, 52, 53, 54, 55, 56, 57, 97, 98, 99, 100, 101, 102]
def hexd (n : Nat) : UInt8 := hexs.getD n 0
def enc (c : UInt8) : List UInt8 :=
 if c.toNat = 34 ∨ c.toNat = 92 then [92, c] else if c.toNat = 10 then [92, 110] else if c.toNat = 9 then [92, 116]
 else if 32 ≤ c.toNat ∧ c.toNat ≤ 126 then [c] else [92, 120, hexd (c.toNat / 16), hexd (c.toNat % 16)]
def quo (s : List UInt8) : List UInt8 := 34 :: (s.flatMap enc ++ [34])
theorem enc_def (c : UInt8) : enc c = if c.toNat = 34 ∨ c.toNat = 92 then [92, c] else if c.toNat = 10 then [92, 110] else if c.toNat = 9 then [92, 116]
 else if 32 ≤ c.toNat ∧ c.toNat ≤ 126 then [c] else [92, 120, hexd (c.toNat / 16), hexd (c.toNat % 16)] := rfl
theorem enc_len (c : UInt8) : (enc c).length ≤ 4 := by
 unfold enc
 split
 ·simp
 ·split
  ·simp
  ·split
   ·simp
   ·split <;> simp
theorem flat_len : ∀ s : List UInt8, (s.flatMap enc).length ≤ 4 * s.length
 | [] => by simp
 | c :: r => by
  have h1 := enc_len c
  have h2 := flat_len r
  rw [List.flatMap_cons, List.length_append, List.length_cons]
  omega
theorem hi_eq : ∀ n : Fin 256, Int.fdiv (n.val : Int) (2 ^ (min (Int.toNat 4) 8)) = ((n.val / 16 : Nat) : Int) := by decide +kernel
theorem lo_eq : ∀ n : Fin 256, IntKind.u8.wrap ((BitVec.ofInt 8 (n.val : Int) &&& BitVec.ofInt 8 15).toNat : Int) = ((n.val % 16 : Nat) : Int) := by decide +kernel
theorem rhi_eq : ∀ n : Fin 256, (IntKind.u8.wrap (Int.tdiv (n.val : Int) 16) = ((n.val / 16 : Nat) : Int)) ∧ IntKind.u8.wrap (((n.val / 16 : Nat) : Int) + 1) = ((n.val / 16 + 1 : Nat) : Int) ∧ slc hexs ((n.val / 16 : Nat) : Int) ((n.val / 16 + 1 : Nat) : Int) = [hexd (n.val / 16)] := by decide +kernel
theorem rlo_eq : ∀ n : Fin 256, (Int.tmod (n.val : Int) 16 = ((n.val % 16 : Nat) : Int)) ∧ IntKind.u8.wrap (((n.val % 16 : Nat) : Int) + 1) = ((n.val % 16 + 1 : Nat) : Int) ∧ slc hexs ((n.val % 16 : Nat) : Int) ((n.val % 16 + 1 : Nat) : Int) = [hexd (n.val % 16)] := by decide +kernel
theorem hx_enc : ∀ n : Fin 256, hx (hexd (n.val / 16)) = ((n.val / 16 : Nat) : Int) ∧ hx (hexd (n.val % 16)) = ((n.val % 16 : Nat) : Int) := by decide +kernel
theorem wb_eq (K : Nat) (c : UInt8) (x : List UInt8) (h : x.length < 9000000) : strings_Builder_WriteByte_v2 K (c.toNat : Int) x = some (x ++ [c]) := by
 have := byte_lt c
 unfold strings_Builder_WriteByte_v2
 rw [if_pos (by omega), if_pos (by simp only [List.length_cons, List.length_nil]; omega), Int.toNat_natCast, ofNat_toNat]
theorem ofB_map (l : List UInt8) : l.map (V.ofB Tag.t_uint8) = l := List.map_id _
theorem ws_eq (K : Nat) (s x : List UInt8) (h : x.length < 9000000) (h2 : s.length < 100) : strings_Builder_WriteString K s x = some ((s.length : Int), x ++ s) := by
 unfold strings_Builder_WriteString
 rw [if_pos (by omega), ofB_map]
theorem quote_l11 (K : Nat) (p0 : List UInt8) : ∀ (k i : Nat) (acc : List UInt8), (p0.drop i).length < k → i + k < 9000000 → acc.length + 4 * (p0.drop i).length < 8000000 → token_Quote.l11 K p0 k (i : Int) acc = some (acc ++ (p0.drop i).flatMap enc)
 | 0, i, acc, h, _, _ => by omega
 | k + 1, i, acc, h, hk, ha => by
  unfold token_Quote.l11
  cases hs : p0.drop i with
  | nil =>
   have : p0.length ≤ i := List.drop_eq_nil_iff.1 hs
   rw [if_neg (by omega)]; simp
  | cons c r =>
   obtain ⟨_, hlt, hr⟩ := getD_drop _ _ c r c hs
   rw [hs] at h ha
   simp only [List.length_cons] at h ha
   have hcb := byte_lt c
   have ih : ∀ x : List UInt8, x.length ≤ 4 → token_Quote.l11 K p0 k ((i + 1 : Nat) : Int) (acc ++ x) = some (acc ++ x ++ r.flatMap enc) := fun x hx => by
    rw [quote_l11 K p0 k (i + 1) _ (by rw [hr]; omega) (by omega) (by rw [hr, List.length_append]; omega), hr]
   have hhi := hi_eq ⟨c.toNat, hcb⟩
   have hlo := lo_eq ⟨c.toNat, hcb⟩
   simp only at hhi hlo
   rw [if_pos (show (i : Int) < (p0.length : Int) by omega), if_pos (show (0 : Int) ≤ (i : Int) ∧ (i : Int) < (p0.length : Int) by omega), gd hs, wrapS (show i < 9223372036854775807 by omega), List.flatMap_cons]
   have hb : (if (c.toNat : Int) = 34 then some true else some (decide ((c.toNat : Int) = 92)) : Option Bool) = some (decide (c.toNat = 34 ∨ c.toNat = 92)) := by
    by_cases h1 : c.toNat = 34
    ·rw [if_pos (by omega)]; simp [h1]
    ·rw [if_neg (by omega)]; simp [h1]; omega
   rw [hb, Option.bind_some]
   rw [enc_def c]
   by_cases hq : c.toNat = 34 ∨ c.toNat = 92
   ·rw [if_pos (decide_eq_true hq), if_pos hq, show (92 : Int) = ((92 : UInt8).toNat : Int) from rfl, wb_eq _ _ _ (by omega), Option.bind_some, wb_eq _ _ _ (by simp; omega), Option.bind_some, List.append_assoc]
    rw [ih _ (by simp)]
    simp
   ·rw [if_neg (show ¬ (decide (c.toNat = 34 ∨ c.toNat = 92) = true) by simpa using hq), if_neg hq]
    by_cases h10 : c.toNat = 10
    ·rw [if_pos (show (c.toNat : Int) = 10 by omega), if_pos h10, ws_eq _ _ _ (by omega) (by simp), Option.bind_some]
     simp only
     rw [ih _ (by simp)]
     simp
    ·rw [if_neg (show ¬ (c.toNat : Int) = 10 by omega), if_neg h10]
     by_cases h9 : c.toNat = 9
     ·rw [if_pos (show (c.toNat : Int) = 9 by omega), if_pos h9, ws_eq _ _ _ (by omega) (by simp), Option.bind_some]
      simp only
      rw [ih _ (by simp)]
      simp
     ·rw [if_neg (show ¬ (c.toNat : Int) = 9 by omega), if_neg h9]
      have hb2 : (if (c.toNat : Int) ≥ 32 then some (decide ((c.toNat : Int) ≤ 126)) else some false : Option Bool) = some (decide (32 ≤ c.toNat ∧ c.toNat ≤ 126)) := by
       by_cases h1 : 32 ≤ c.toNat
       ·rw [if_pos (by omega)]; simp [h1]; omega
       ·rw [if_neg (by omega)]; simp [h1]
      rw [hb2, Option.bind_some]
      by_cases hp : 32 ≤ c.toNat ∧ c.toNat ≤ 126
      ·rw [if_pos (decide_eq_true hp), if_pos hp, wb_eq _ _ _ (by omega), Option.bind_some, ih _ (by simp)]
       simp
      ·rw [if_neg (show ¬ (decide (32 ≤ c.toNat ∧ c.toNat ≤ 126) = true) by simpa using hp), if_neg hp, ws_eq _ _ _ (by omega) (by simp), Option.bind_some]
       simp only
       rw [hhi, hlo, if_pos (show (0 : Int) ≤ ((c.toNat / 16 : Nat) : Int) ∧ ((c.toNat / 16 : Nat) : Int) < (([48, 49, 50, 51, 52, 53, 54, 55, 56, 57, 97, 98, 99, 100, 101, 102] : List UInt8).length : Int) by simp only [List.length_cons, List.length_nil]; omega), Int.toNat_natCast]
       rw [show ([48, 49, 50, 51, 52, 53, 54, 55, 56, 57, 97, 98, 99, 100, 101, 102] : List UInt8).getD (c.toNat / 16) 0 = hexd (c.toNat / 16) from rfl, wb_eq _ _ _ (by simp; omega), Option.bind_some]
       rw [if_pos (show (0 : Int) ≤ ((c.toNat % 16 : Nat) : Int) ∧ ((c.toNat % 16 : Nat) : Int) < (([48, 49, 50, 51, 52, 53, 54, 55, 56, 57, 97, 98, 99, 100, 101, 102] : List UInt8).length : Int) by simp only [List.length_cons, List.length_nil]; omega), Int.toNat_natCast]
       rw [show ([48, 49, 50, 51, 52, 53, 54, 55, 56, 57, 97, 98, 99, 100, 101, 102] : List UInt8).getD (c.toNat % 16) 0 = hexd (c.toNat % 16) from rfl, wb_eq _ _ _ (by simp; omega), Option.bind_some]
       rw [show acc ++ [92, 120] ++ [hexd (c.toNat / 16)] ++ [hexd (c.toNat % 16)] = acc ++ [92, 120, hexd (c.toNat / 16), hexd (c.toNat % 16)] by simp, ih _ (by simp)]
       simp
theorem quote_eq {K : Nat} {s : List UInt8} (h : s.length < 1000000) (hK : s.length < K) (hK2 : K < 8000000) : token_Quote K s = some (quo s) := by
 unfold token_Quote strings_Builder_WriteByte
 rw [if_pos (by decide), if_pos (by decide), Option.bind_some]
 have hl := quote_l11 K s K 0 [34] (by simpa using hK) (by omega) (by simp; omega)
 rw [List.drop_zero] at hl
 have hl' : token_Quote.l11 K s K 0 [UInt8.ofNat (Int.toNat 34)] = some ([34] ++ s.flatMap enc) := hl
 have hfl := flat_len s
 rw [hl', Option.bind_some, show (34 : Int) = ((34 : UInt8).toNat : Int) from rfl, wb_eq _ _ _ (by simp only [List.length_append, List.length_cons, List.length_nil]; omega), Option.bind_some, if_pos (by simp)]
 unfold quo
 simp
theorem rquote_l11 (K : Nat) (p0 : List UInt8) : ∀ (k i : Nat) (acc : List UInt8), (p0.drop i).length < k → i + k < 9000000 → acc.length + 4 * (p0.drop i).length < 8000000 → workflowref07_Quote.l11 K p0 k acc (i : Int) = some (acc ++ (p0.drop i).flatMap enc)
 | 0, i, acc, h, _, _ => by omega
 | k + 1, i, acc, h, hk, ha => by
  unfold workflowref07_Quote.l11
  cases hs : p0.drop i with
  | nil =>
   have : p0.length ≤ i := List.drop_eq_nil_iff.1 hs
   rw [if_neg (by omega)]; simp
  | cons c r =>
   obtain ⟨_, hlt, hr⟩ := getD_drop _ _ c r c hs
   rw [hs] at h ha
   simp only [List.length_cons] at h ha
   have hcb := byte_lt c
   have ih : ∀ x : List UInt8, x.length ≤ 4 → workflowref07_Quote.l11 K p0 k (acc ++ x) ((i + 1 : Nat) : Int) = some (acc ++ x ++ r.flatMap enc) := fun x hx => by
    rw [rquote_l11 K p0 k (i + 1) _ (by rw [hr]; omega) (by omega) (by rw [hr, List.length_append]; omega), hr]
   obtain ⟨hhi, hhi2, hhi3⟩ := rhi_eq ⟨c.toNat, hcb⟩
   obtain ⟨hlo, hlo2, hlo3⟩ := rlo_eq ⟨c.toNat, hcb⟩
   simp only at hhi hhi2 hhi3 hlo hlo2 hlo3
   have hsl : slc p0 (i : Int) ((i + 1 : Nat) : Int) = [c] := by
    unfold slc
    rw [Int.toNat_natCast, Int.toNat_natCast, hs, show i + 1 - i = 1 by omega]
    rfl
   rw [if_pos (show (i : Int) < (p0.length : Int) by omega), if_pos (show (0 : Int) ≤ (i : Int) ∧ (i : Int) < (p0.length : Int) by omega), gd hs, wrapS (show i < 9223372036854775807 by omega), List.flatMap_cons, hsl]
   have hb : (if (c.toNat : Int) = 34 then some true else some (decide ((c.toNat : Int) = 92)) : Option Bool) = some (decide (c.toNat = 34 ∨ c.toNat = 92)) := by
    by_cases h1 : c.toNat = 34
    ·rw [if_pos (by omega)]; simp [h1]
    ·rw [if_neg (by omega)]; simp [h1]; omega
   rw [hb, Option.bind_some]
   have hbd : (i : Int) ≤ ((i + 1 : Nat) : Int) ∧ ((i + 1 : Nat) : Int) ≤ (p0.length : Int) := by omega
   rw [enc_def c]
   by_cases hq : c.toNat = 34 ∨ c.toNat = 92
   ·rw [if_pos (decide_eq_true hq), if_pos hq, if_pos (show acc.length + ([92] : List UInt8).length ≤ 9223372036854775807 by simp only [List.length_cons, List.length_nil]; omega), if_pos hbd, if_pos (show (acc ++ ([92] : List UInt8)).length + ([c] : List UInt8).length ≤ 9223372036854775807 by simp only [List.length_append, List.length_cons, List.length_nil]; omega), List.append_assoc]
    rw [ih _ (by simp)]
    simp
   ·rw [if_neg (show ¬ (decide (c.toNat = 34 ∨ c.toNat = 92) = true) by simpa using hq), if_neg hq]
    by_cases h10 : c.toNat = 10
    ·rw [if_pos (show (c.toNat : Int) = 10 by omega), if_pos h10, if_pos (show acc.length + ([92, 110] : List UInt8).length ≤ 9223372036854775807 by simp only [List.length_cons, List.length_nil]; omega), ih _ (by simp)]
     simp
    ·rw [if_neg (show ¬ (c.toNat : Int) = 10 by omega), if_neg h10]
     by_cases h9 : c.toNat = 9
     ·rw [if_pos (show (c.toNat : Int) = 9 by omega), if_pos h9, if_pos (show acc.length + ([92, 116] : List UInt8).length ≤ 9223372036854775807 by simp only [List.length_cons, List.length_nil]; omega), ih _ (by simp)]
      simp
     ·rw [if_neg (show ¬ (c.toNat : Int) = 9 by omega), if_neg h9]
      have hb2 : (if (c.toNat : Int) ≥ 32 then some (decide ((c.toNat : Int) ≤ 126)) else some false : Option Bool) = some (decide (32 ≤ c.toNat ∧ c.toNat ≤ 126)) := by
       by_cases h1 : 32 ≤ c.toNat
       ·rw [if_pos (by omega)]; simp [h1]; omega
       ·rw [if_neg (by omega)]; simp [h1]
      rw [hb2, Option.bind_some]
      by_cases hp : 32 ≤ c.toNat ∧ c.toNat ≤ 126
      ·rw [if_pos (decide_eq_true hp), if_pos hp, if_pos hbd, if_pos (show acc.length + ([c] : List UInt8).length ≤ 9223372036854775807 by simp only [List.length_cons, List.length_nil]; omega), ih _ (by simp)]
       simp
      ·rw [if_neg (show ¬ (decide (32 ≤ c.toNat ∧ c.toNat ≤ 126) = true) by simpa using hp), if_neg hp, if_pos (show acc.length + ([92, 120] : List UInt8).length ≤ 9223372036854775807 by simp only [List.length_cons, List.length_nil]; omega), hhi, hhi2]
       rw [show slc ([48, 49, 50, 51, 52, 53, 54, 55, 56, 57, 97, 98, 99, 100, 101, 102] : List UInt8) ((c.toNat / 16 : Nat) : Int) ((c.toNat / 16 + 1 : Nat) : Int) = [hexd (c.toNat / 16)] from hhi3]
       rw [if_pos (show (0 : Int) ≤ ((c.toNat / 16 : Nat) : Int) ∧ ((c.toNat / 16 : Nat) : Int) ≤ ((c.toNat / 16 + 1 : Nat) : Int) ∧ ((c.toNat / 16 + 1 : Nat) : Int) ≤ (([48, 49, 50, 51, 52, 53, 54, 55, 56, 57, 97, 98, 99, 100, 101, 102] : List UInt8).length : Int) by simp only [List.length_cons, List.length_nil]; omega)]
       rw [if_pos (show (acc ++ ([92, 120] : List UInt8)).length + ([hexd (c.toNat / 16)] : List UInt8).length ≤ 9223372036854775807 by simp only [List.length_append, List.length_cons, List.length_nil]; omega), hlo, hlo2]
       rw [show slc ([48, 49, 50, 51, 52, 53, 54, 55, 56, 57, 97, 98, 99, 100, 101, 102] : List UInt8) ((c.toNat % 16 : Nat) : Int) ((c.toNat % 16 + 1 : Nat) : Int) = [hexd (c.toNat % 16)] from hlo3]
       rw [if_pos (show (0 : Int) ≤ ((c.toNat % 16 : Nat) : Int) ∧ ((c.toNat % 16 : Nat) : Int) ≤ ((c.toNat % 16 + 1 : Nat) : Int) ∧ ((c.toNat % 16 + 1 : Nat) : Int) ≤ (([48, 49, 50, 51, 52, 53, 54, 55, 56, 57, 97, 98, 99, 100, 101, 102] : List UInt8).length : Int) by simp only [List.length_cons, List.length_nil]; omega)]
       rw [if_pos (show (acc ++ ([92, 120] : List UInt8) ++ [hexd (c.toNat / 16)]).length + ([hexd (c.toNat % 16)] : List UInt8).length ≤ 9223372036854775807 by simp only [List.length_append, List.length_cons, List.length_nil]; omega)]
       rw [show acc ++ [92, 120] ++ [hexd (c.toNat / 16)] ++ [hexd (c.toNat % 16)] = acc ++ [92, 120, hexd (c.toNat / 16), hexd (c.toNat % 16)] by simp, ih _ (by simp)]
       simp
theorem rquote_eq {K : Nat} {s : List UInt8} (h : s.length < 1000000) (hK : s.length < K) (hK2 : K < 8000000) : workflowref07_Quote K s = some (quo s) := by
 unfold workflowref07_Quote
 have hl := rquote_l11 K s K 0 [34] (by simpa using hK) (by omega) (by simp; omega)
 rw [List.drop_zero] at hl
 have hl' : workflowref07_Quote.l11 K s K [34] 0 = some ([34] ++ s.flatMap enc) := hl
 have hfl := flat_len s
 rw [hl', Option.bind_some, if_pos (by simp only [List.length_append, List.length_cons, List.length_nil]; omega)]
 unfold quo
 simp
theorem litS_enc (c : UInt8) (acc t : List UInt8) : litS acc (enc c ++ t) = litS (acc ++ [c]) t := by
 have hcb := byte_lt c
 unfold enc
 by_cases hq : c.toNat = 34 ∨ c.toNat = 92
 ·rw [if_pos hq]
  show litS acc (92 :: c :: t) = _
  conv => lhs; unfold litS
  rw [if_neg (by decide), if_pos (by decide)]
  simp only
  rw [if_pos hq]
 ·rw [if_neg hq]
  by_cases h10 : c.toNat = 10
  ·rw [if_pos h10, byte_eq h10]
   show litS acc (92 :: 110 :: t) = _
   conv => lhs; unfold litS
   rw [if_neg (by decide), if_pos (by decide)]
   simp only
   rw [if_neg (by decide), if_pos (by decide)]
   rfl
  ·rw [if_neg h10]
   by_cases h9 : c.toNat = 9
   ·rw [if_pos h9, byte_eq h9]
    show litS acc (92 :: 116 :: t) = _
    conv => lhs; unfold litS
    rw [if_neg (by decide), if_pos (by decide)]
    simp only
    rw [if_neg (by decide), if_neg (by decide), if_pos (by decide)]
    rfl
   ·rw [if_neg h9]
    by_cases hp : 32 ≤ c.toNat ∧ c.toNat ≤ 126
    ·rw [if_pos hp]
     show litS acc (c :: t) = _
     conv => lhs; unfold litS
     rw [if_neg (by omega), if_neg (by omega), if_pos hp]
    ·rw [if_neg hp]
     show litS acc (92 :: 120 :: hexd (c.toNat / 16) :: hexd (c.toNat % 16) :: t) = _
     obtain ⟨g1, g2⟩ := hx_enc ⟨c.toNat, hcb⟩
     simp only at g1 g2
     conv => lhs; unfold litS
     rw [if_neg (by decide), if_pos (by decide)]
     simp only
     rw [if_neg (by decide), if_neg (by decide), if_neg (by decide), if_pos (by decide), g1, g2, if_neg (by omega), if_neg (by omega)]
     rw [show (16 * ((c.toNat / 16 : Nat) : Int) + ((c.toNat % 16 : Nat) : Int)).toNat = c.toNat by omega, ofNat_toNat]
theorem litS_flat : ∀ (s acc t : List UInt8), litS acc (s.flatMap enc ++ t) = litS (acc ++ s) t
 | [], acc, t => by simp
 | c :: r, acc, t => by
  rw [List.flatMap_cons, List.append_assoc, litS_enc, litS_flat r]
  simp
theorem lex_quo {s t : List UInt8} (h : s.length ≤ 4096) : lexS (quo s ++ t) = .ok (⟨4, 0, s, 0⟩, t) := by
 unfold lexS quo
 rw [List.cons_append, if_neg (show ¬ onHd isL (34 :: (s.flatMap enc ++ [34] ++ t)) = true from (show ¬ isL 34 = true by decide)), if_neg (show ¬ onHd isD (34 :: (s.flatMap enc ++ [34] ++ t)) = true from (show ¬ isD 34 = true by decide)), if_pos (show hd (34 :: (s.flatMap enc ++ [34] ++ t)) = 34 from rfl), List.tail_cons, List.append_assoc, litS_flat, List.nil_append]
 have e : litS s ([34] ++ t) = .ok (s, t) := by
  show litS s (34 :: t) = _
  conv => lhs; unfold litS
  rw [if_pos (by decide), if_neg (by omega)]
 rw [e]
theorem law_literal (p0 : List UInt8) : workflowlaw07_TokenLiteral 100000 p0 = some true := by
 unfold workflowlaw07_TokenLiteral
 rw [works_ok]
 by_cases h : (p0.length : Int) > 500
 ·rw [if_pos h]; rfl
 ·have hfl := flat_len p0
  have hql : (quo p0).length = (p0.flatMap enc).length + 2 := by unfold quo; simp
  have hsc : scanS 4000 (quo p0) 0 [] = .ok [⟨4, 0, p0, 0⟩, ⟨0, ((quo p0).length : Int), [], 0⟩] := by
   have hlx := lex_quo (s := p0) (t := []) (by omega)
   rw [List.append_nil] at hlx
   unfold scanS
   have hdw : (quo p0).dropWhile isB = quo p0 := by unfold quo; rw [List.dropWhile_cons, if_neg (by decide)]
   have htw : (quo p0).takeWhile isB = [] := by unfold quo; rw [List.takeWhile_cons, if_neg (by decide)]
   rw [hdw, htw]
   rw [show quo p0 = 34 :: (p0.flatMap enc ++ [34]) from rfl] at hlx ⊢
   simp only
   rw [hlx]
   simp only
   unfold scanS
   simp [-List.length_flatMap]
   omega
  rw [if_neg h, quote_eq (by omega) (by omega) (by omega), Option.bind_some, tscan_any (by omega) (by omega) (by omega) 4000 (by omega), hsc]
  simp [ans, -List.length_flatMap]
end Go.Proofs.YtahpbjjfpbmaiaaDoor
