/- The law. -/
import Derived.Test.YtahpbjjfpbmaiaaDoorLwB
set_option linter.unusedVariables false
set_option linter.unusedSimpArgs false
set_option maxHeartbeats 4000000
namespace Go.Proofs.YtahpbjjfpbmaiaaDoor
open Eng
def okS (src : List UInt8) (i : Nat) (r : Except Int (api_Token × List UInt8)) (x : Option (api_Token × Int × token_scanner)) : Prop :=
 match r with
 | .ok (t, rest) => ∃ j : Nat, i < j ∧ j ≤ src.length ∧ rest = src.drop j ∧ x = some (t, 0, ⟨src, (j : Int)⟩)
 | .error e => e ≠ 0 ∧ ∃ t q, x = some (t, e, q)
theorem okS.err {src : List UInt8} {i : Nat} {e : Int} {t : api_Token} {q : token_scanner} (h : e ≠ 0) : okS src i (.error e) (some (t, e, q)) := ⟨h, t, q, rfl⟩
theorem okS.ok {src : List UInt8} {i j : Nat} {t : api_Token} {rest : List UInt8} (h1 : i < j) (h2 : j ≤ src.length) (h3 : rest = src.drop j) : okS src i (.ok (t, rest)) (some (t, 0, ⟨src, (j : Int)⟩)) := ⟨j, h1, h2, h3, rfl⟩
theorem tw_pos {p : UInt8 → Bool} {s : List UInt8} (h : onHd p s = true) : 0 < (s.takeWhile p).length := by
 cases s with
 | nil => cases h
 | cons c r => rw [List.takeWhile_cons, if_pos (show p c = true from h)]; simp
theorem dw_eq (src : List UInt8) (p : UInt8 → Bool) (i : Nat) : (src.drop i).dropWhile p = src.drop (i + ((src.drop i).takeWhile p).length) := by
 rw [dw_drop, List.drop_drop]
theorem word_ok {K : Nat} {src : List UInt8} {i : Nat} (hi : i ≤ src.length) (hK : src.length < K) (hK2 : 1000 ≤ K) (hb : src.length + K < 9000000) (h : onHd isL (src.drop i) = true) : okS src i (lexW (src.drop i)) (token_scanner_word_v2 K ⟨src, (i : Int)⟩) := by
 have hp : 0 < ((src.drop i).takeWhile isW).length := tw_pos (by
  cases hs : src.drop i with
  | nil => rw [hs] at h; cases h
  | cons c r => rw [hs] at h; exact Bool.or_eq_true_iff.2 (.inl h))
 have hbd := tw_bound src isW i hi
 unfold token_scanner_word_v2 lexW
 rw [while4_eq hi hK (by omega), Option.bind_some]
 simp only
 by_cases h1 : 64 < ((src.drop i).takeWhile isW).length
 ·rw [if_pos h1, if_pos (show (((src.drop i).takeWhile isW).length : Int) > 64 by omega)]
  exact .err (by decide)
 ·rw [if_neg h1, if_neg (show ¬ (((src.drop i).takeWhile isW).length : Int) > 64 by omega), keyword_eq hK2, Option.bind_some, dw_eq]
  by_cases hk : isK ((src.drop i).takeWhile isW) = true
  ·rw [if_pos hk, if_pos hk]; exact .ok (by omega) hbd rfl
  ·rw [if_neg hk, if_neg hk]; exact .ok (by omega) hbd rfl
theorem number_ok {K : Nat} {src : List UInt8} {i : Nat} (hi : i ≤ src.length) (hK : src.length < K) (hb : src.length + K < 9000000) (h : onHd isD (src.drop i) = true) : okS src i (lexN (src.drop i)) (token_scanner_number_v2 K ⟨src, (i : Int)⟩) := by
 have hp : 0 < ((src.drop i).takeWhile isD).length := tw_pos h
 have hbd := tw_bound src isD i hi
 unfold token_scanner_number_v2 lexN
 rw [while6_eq hi hK (by omega), Option.bind_some]
 simp only
 have e0 : ((src.drop i).takeWhile isD).getD (Int.toNat 0) 0 = (src.drop i).headD 0 := by
  cases hs : src.drop i with
  | nil => rfl
  | cons c r => rw [hs] at h; rw [List.takeWhile_cons, if_pos (show isD c = true from h)]; rfl
 have hpk : token_scanner_peek K ⟨src, ((i + ((src.drop i).takeWhile isD).length : Nat) : Int)⟩ 0 = some (hd ((src.drop i).dropWhile isD)) := by
  rw [peek0 _ _ _ (by omega), dw_eq]
 rw [hpk, Option.bind_some, letter_hd, Option.bind_some]
 have e48 : ((((src.drop i).headD 0).toNat : Int) = 48) ↔ onHd (fun c => decide (c.toNat = 48)) (src.drop i) = true := by
  cases hs : src.drop i with
  | nil => rw [hs] at h; cases h
  | cons c r => simp [onHd]; omega
 have hmid : ((if (((src.drop i).takeWhile isD).length : Int) > 1 then (if (0 : Int) < (((src.drop i).takeWhile isD).length : Int) then (if ((((src.drop i).takeWhile isD).getD (Int.toNat 0) 0).toNat : Int) = 48 then some (Out.done ((⟨0, 0, [], 0⟩ : api_Token), (3 : Int), (⟨src, ((i + ((src.drop i).takeWhile isD).length : Nat) : Int)⟩ : token_scanner))) else (if onHd isL ((src.drop i).dropWhile isD) = true then some (Out.done ((⟨0, 0, [], 0⟩ : api_Token), (3 : Int), (⟨src, ((i + ((src.drop i).takeWhile isD).length : Nat) : Int)⟩ : token_scanner))) else some (Out.go ()))) else none) else (if onHd isL ((src.drop i).dropWhile isD) = true then some (Out.done ((⟨0, 0, [], 0⟩ : api_Token), (3 : Int), (⟨src, ((i + ((src.drop i).takeWhile isD).length : Nat) : Int)⟩ : token_scanner))) else some (Out.go ()))) : Option (Out (api_Token × Int × token_scanner) Unit)) = if badN (src.drop i) = true then some (Out.done ((⟨0, 0, [], 0⟩ : api_Token), (3 : Int), (⟨src, ((i + ((src.drop i).takeWhile isD).length : Nat) : Int)⟩ : token_scanner))) else some (Out.go ()) := by
  rw [e0]
  unfold badN
  by_cases h1 : 1 < ((src.drop i).takeWhile isD).length
  ·rw [if_pos (show (((src.drop i).takeWhile isD).length : Int) > 1 by omega), if_pos (show (0 : Int) < (((src.drop i).takeWhile isD).length : Int) by omega)]
   by_cases h2 : onHd (fun c => decide (c.toNat = 48)) (src.drop i) = true
   ·rw [if_pos (e48.2 h2)]; simp [h1, h2]
   ·rw [if_neg (fun e => h2 (e48.1 e))]; simp [h1, h2]
  ·rw [if_neg (show ¬ (((src.drop i).takeWhile isD).length : Int) > 1 by omega)]; simp [h1]
 rw [hmid]
 by_cases hbad : badN (src.drop i) = true
 ·rw [if_pos hbad, if_pos hbad]
  exact .err (by decide)
 ·rw [if_neg hbad, if_neg hbad]
  simp only [obind]
  rw [if_pos (show ((src.drop i).takeWhile isD).length ≤ 281474976710656 by omega), dw_eq]
  by_cases hpi : piOk ((src.drop i).takeWhile isD) = true
  ·rw [if_pos hpi, if_pos hpi]
   exact .ok (by omega) hbd rfl
  ·rw [if_neg hpi, if_neg hpi]
   exact .err (by decide)
theorem sign_num (n : Nat) (m : Int) : (Option.bind ((if (n : Int) = 61 then some (decide ((n : Int) = 61)) else (if (n : Int) = 60 then some (decide ((n : Int) = 60)) else (if (n : Int) = 62 then some (decide ((n : Int) = 62)) else some (decide ((n : Int) = 33))))) : Option Bool) (fun xt10_11 => (if xt10_11 = true then (Option.bind (some m) (fun a2 => (if a2 = 61 then some (2 : Int) else (if (n : Int) ≠ 33 then some 1 else some 0)))) else (if (n : Int) = 40 then some 1 else (if (n : Int) = 41 then some 1 else (if (n : Int) = 123 then some 1 else (if (n : Int) = 125 then some 1 else (if (n : Int) = 91 then some 1 else (if (n : Int) = 93 then some 1 else (if (n : Int) = 44 then some 1 else (if (n : Int) = 59 then some 1 else (if (n : Int) = 46 then some 1 else (if (n : Int) = 58 then some 1 else (if (n : Int) = 43 then some 1 else (if (n : Int) = 45 then some 1 else (if (n : Int) = 42 then some 1 else (if (n : Int) = 47 then some 1 else (if (n : Int) = 37 then some 1 else some 0)))))))))))))))))) = some (((if n ∈ sg2 then (if m = 61 then 2 else if n ≠ 33 then 1 else 0) else if n ∈ sg1 then 1 else 0 : Nat)) : Int) := by
 have e : ∀ k : Nat, ((n : Int) = (k : Int)) ↔ n = k := fun k => by omega
 by_cases h2 : n ∈ sg2
 ·rw [if_pos h2]
  simp only [sg2, List.mem_cons, List.not_mem_nil, or_false] at h2
  by_cases hm : m = 61
  ·rcases h2 with rfl | rfl | rfl | rfl <;> simp [hm]
  ·rcases h2 with rfl | rfl | rfl | rfl <;> simp [hm]
 ·rw [if_neg h2]
  by_cases h1 : n ∈ sg1
  ·rw [if_pos h1]
   simp only [sg1, List.mem_cons, List.not_mem_nil, or_false] at h1
   rcases h1 with rfl | rfl | rfl | rfl | rfl | rfl | rfl | rfl | rfl | rfl | rfl | rfl | rfl | rfl | rfl <;> simp
  ·rw [if_neg h1]
   simp only [sg1, sg2, List.mem_cons, List.not_mem_nil, or_false, not_or] at h1 h2
   obtain ⟨a1, a2, a3, a4⟩ := h2
   obtain ⟨b1, b2, b3, b4, b5, b6, b7, b8, b9, b10, b11, b12, b13, b14, b15⟩ := h1
   rw [if_neg (by omega), if_neg (by omega), if_neg (by omega), Option.bind_some, if_neg (show ¬ (decide ((n : Int) = 33) = true) by simp; omega)]
   repeat rw [if_neg (by omega)]
   rfl
theorem signN_le (s : List UInt8) : signN s ≤ s.length := by
 cases s with
 | nil => simp [signN]
 | cons c r =>
  rw [show signN (c :: r) = (if c.toNat ∈ sg2 then (if hd r = 61 then 2 else if c.toNat ≠ 33 then 1 else 0) else if c.toNat ∈ sg1 then 1 else 0) from rfl, List.length_cons]
  by_cases h2 : c.toNat ∈ sg2
  ·rw [if_pos h2]
   by_cases h3 : hd r = 61
   ·rw [if_pos h3]
    cases r with
    | nil => cases h3
    | cons d r => simp
   ·rw [if_neg h3]
    by_cases h4 : c.toNat ≠ 33
    ·rw [if_pos h4]; omega
    ·rw [if_neg h4]; omega
  ·rw [if_neg h2]
   by_cases h4 : c.toNat ∈ sg1
   ·rw [if_pos h4]; omega
   ·rw [if_neg h4]; omega
theorem sign_ok {K : Nat} {src : List UInt8} {i : Nat} (hK : src.length < K) (hb : src.length + K < 9000000) (hne : i < src.length) : okS src i (if signN (src.drop i) = 0 then .error 3 else .ok (⟨5, 0, (src.drop i).take (signN (src.drop i)), 0⟩, (src.drop i).drop (signN (src.drop i)))) (token_scanner_sign_v2 K ⟨src, (i : Int)⟩) := by
 have hle := signN_le (src.drop i)
 rw [List.length_drop] at hle
 unfold token_scanner_sign_v2
 rw [peek0 _ _ _ (by omega), Option.bind_some, peek1 _ _ _ (by omega)]
 obtain ⟨c, r, hs⟩ : ∃ c r, src.drop i = c :: r := ⟨_, _, List.drop_eq_getElem_cons hne⟩
 obtain ⟨_, _, hr⟩ := getD_drop _ _ c r c hs
 rw [hr, show hd (src.drop i) = (c.toNat : Int) by rw [hs]; rfl, sign_num, Option.bind_some]
 have e : (if c.toNat ∈ sg2 then (if hd r = 61 then 2 else if c.toNat ≠ 33 then 1 else 0) else if c.toNat ∈ sg1 then 1 else 0 : Nat) = signN (src.drop i) := by rw [hs]; rfl
 rw [e]
 simp only
 by_cases h0 : signN (src.drop i) = 0
 ·rw [if_pos h0, h0]
  exact .err (by decide)
 ·rw [if_neg h0, if_neg (show ¬ ((signN (src.drop i) : Nat) : Int) = 0 by omega), wrapA (show i + signN (src.drop i) ≤ 9223372036854775807 by omega), if_pos (show (0 : Int) ≤ (i : Int) ∧ (i : Int) ≤ ((i + signN (src.drop i) : Nat) : Int) ∧ ((i + signN (src.drop i) : Nat) : Int) ≤ (src.length : Int) by omega)]
  have e2 : slc src (i : Int) ((i + signN (src.drop i) : Nat) : Int) = (src.drop i).take (signN (src.drop i)) := by
   unfold slc
   rw [Int.toNat_natCast, Int.toNat_natCast, show i + signN (src.drop i) - i = signN (src.drop i) by omega]
  rw [e2]
  exact .ok (by omega) (by omega) (by rw [List.drop_drop])
theorem text_ok {K : Nat} {src : List UInt8} {i : Nat} (hK : src.length < K) (hb : src.length + K < 9000000) (hh : hd (src.drop i) = 34) : okS src i (match litS [] (src.drop i).tail with | .ok (t, r) => .ok (⟨4, 0, t, 0⟩, r) | .error e => .error e) (token_scanner_text_v2 K ⟨src, (i : Int)⟩) := by
 obtain ⟨c, r, hs⟩ : ∃ c r, src.drop i = c :: r := by
  cases hs : src.drop i with
  | nil => rw [hs] at hh; cases hh
  | cons c r => exact ⟨c, r, rfl⟩
 obtain ⟨_, hlt, hr⟩ := getD_drop _ _ c r c hs
 have ht := text_l8 K src (by omega) K (i + 1) [] (by simp; omega) (by omega) (by simp; omega)
 rw [hs, List.tail_cons]
 rw [hr] at ht
 unfold token_scanner_text_v2
 rw [wrapS (by omega)]
 revert ht
 unfold okT
 cases litS [] r with
 | error e =>
  rintro ⟨h1, t, q, h2⟩
  rw [show ((i + 1 : Nat) : Int) = ((i + 1 : Nat) : Int) from rfl] at h2
  simp only [h2, obind]
  exact .err h1
 | ok p =>
  obtain ⟨t, rest⟩ := p
  rintro ⟨j, h1, h2, h3, h4⟩
  simp only [h4, obind]
  exact .ok (by omega) h2 h3
theorem next_ok {K : Nat} {src : List UInt8} {i : Nat} (hi : i ≤ src.length) (hK : src.length < K) (hK2 : 1000 ≤ K) (hb : src.length + K < 9000000) (hne : i < src.length) : okS src i (lexS (src.drop i)) (token_scanner_next_v2 K ⟨src, (i : Int)⟩) := by
 have eta : ∀ x : Option (api_Token × Int × token_scanner), (Option.bind x fun (a, b, c) => some (a, b, c)) = x := fun x => by cases x <;> rfl
 unfold token_scanner_next_v2 lexS
 rw [peek0 _ _ _ (by omega), Option.bind_some, letter_hd, Option.bind_some, digit_hd, Option.bind_some]
 simp only [eta]
 by_cases h1 : onHd isL (src.drop i) = true
 ·rw [if_pos h1, if_pos h1]; exact word_ok hi hK hK2 hb h1
 ·rw [if_neg h1, if_neg h1]
  by_cases h2 : onHd isD (src.drop i) = true
  ·rw [if_pos h2, if_pos h2]; exact number_ok hi hK hb h2
  ·rw [if_neg h2, if_neg h2]
   by_cases h3 : hd (src.drop i) = 34
   ·rw [if_pos h3, if_pos h3]; exact text_ok hK hb h3
   ·rw [if_neg h3, if_neg h3]; exact sign_ok hK hb hne
end Go.Proofs.YtahpbjjfpbmaiaaDoor
