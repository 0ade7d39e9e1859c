/- The law. -/
import Derived.Test.YtahpbjjfpbmaiaaDoorLwE
set_option linter.unusedVariables false
set_option linter.unusedSimpArgs false
set_option maxHeartbeats 4000000
namespace Go.Proofs.YtahpbjjfpbmaiaaDoor
open Eng
def scanS : Nat → List UInt8 → Nat → List api_Token → Except (Int × Int) (List api_Token)
 | 0, _, _, _ => .error (0, 0)
 | f + 1, s, i, acc =>
  match s.dropWhile isB with
  | [] => .ok (acc ++ [⟨0, ((i + s.length : Nat) : Int), [], 0⟩])
  | c :: r =>
   match lexS (c :: r) with
   | .error e => .error (((i + (s.takeWhile isB).length : Nat) : Int), e)
   | .ok (t, rest) => scanS f rest (i + s.length - rest.length) (acc ++ [⟨t.Kind, ((i + (s.takeWhile isB).length : Nat) : Int), t.Text, t.Int⟩])
def ans : Except (Int × Int) (List api_Token) → List api_Token × Int × Int
 | .ok l => (l, 0, 0)
 | .error (at_, e) => ([], at_, e)
theorem scanS_blank (f : Nat) (c : UInt8) (r : List UInt8) (i : Nat) (acc : List api_Token) (h : isB c = true) : scanS (f + 1) (c :: r) i acc = scanS (f + 1) r (i + 1) acc := by
 unfold scanS
 rw [List.dropWhile_cons, if_pos h, List.takeWhile_cons, if_pos h, List.length_cons, List.length_cons]
 rw [show i + (r.length + 1) = i + 1 + r.length by omega, show i + ((r.takeWhile isB).length + 1) = i + 1 + (r.takeWhile isB).length by omega]
theorem tscan_l16 {K : Nat} {src : List UInt8} (hK : src.length < K) (hK2 : 1000 ≤ K) (hb : src.length + K < 9000000) : ∀ (k f i : Nat) (acc : List api_Token), (src.drop i).length < k → (src.drop i).length < f → i ≤ src.length → acc.length + (src.drop i).length < 9000000 →
  token_Scan.l16 K src k src (i : Int) acc = some (.done (ans (scanS f (src.drop i) i acc)))
 | 0, f, i, acc, h, _, _, _ => by omega
 | k + 1, 0, i, acc, _, h, _, _ => by omega
 | k + 1, f + 1, i, acc, h, hf, hi, ha => by
  have hbd := tw_bound src isB i hi
  have hlen : (src.drop i).length = src.length - i := List.length_drop
  unfold token_Scan.l16 scanS
  rw [while2_eq hi hK (by omega), Option.bind_some]
  simp only
  have hdw := dw_eq src isB i
  cases hs : (src.drop i).dropWhile isB with
  | nil =>
   rw [hdw] at hs
   have hge : src.length ≤ i + ((src.drop i).takeWhile isB).length := List.drop_eq_nil_iff.1 hs
   have e : i + ((src.drop i).takeWhile isB).length = i + (src.drop i).length := by omega
   rw [if_pos (show ((i + ((src.drop i).takeWhile isB).length : Nat) : Int) ≥ (src.length : Int) by omega), if_pos (show (acc.length + ([(⟨0, ((i + ((src.drop i).takeWhile isB).length : Nat) : Int), [], 0⟩ : api_Token)] : List api_Token).length) * 40 ≤ 140737488355328 by simp only [List.length_cons, List.length_nil]; omega), e]
   rfl
  | cons c r =>
   rw [hdw] at hs
   have hlt : i + ((src.drop i).takeWhile isB).length < src.length := by
    rcases Nat.lt_or_ge (i + ((src.drop i).takeWhile isB).length) src.length with h' | h'
    ·exact h'
    ·rw [List.drop_eq_nil_of_le h'] at hs; cases hs
   rw [if_neg (show ¬ ((i + ((src.drop i).takeWhile isB).length : Nat) : Int) ≥ (src.length : Int) by omega)]
   have hn := next_ok (i := i + ((src.drop i).takeWhile isB).length) (by omega) hK hK2 hb hlt
   rw [hs] at hn
   simp only
   revert hn
   unfold okS
   cases lexS (c :: r) with
   | error e =>
    rintro ⟨he, t, q, hx⟩
    rw [hx, Option.bind_some]
    simp only
    rw [if_pos he]
    rfl
   | ok p =>
    obtain ⟨t, rest⟩ := p
    rintro ⟨j, h1, h2, rfl, hx⟩
    rw [hx, Option.bind_some]
    simp only
    have hlj : (src.drop j).length = src.length - j := List.length_drop
    rw [if_neg (show ¬ (0 : Int) ≠ 0 by decide), if_pos (show (acc.length + ([(⟨t.Kind, ((i + ((src.drop i).takeWhile isB).length : Nat) : Int), t.Text, t.Int⟩ : api_Token)] : List api_Token).length) * 40 ≤ 140737488355328 by simp only [List.length_cons, List.length_nil]; omega)]
    rw [tscan_l16 hK hK2 hb k f j _ (by omega) (by omega) h2 (by simp only [List.length_append, List.length_cons, List.length_nil]; omega), show i + (src.drop i).length - (src.drop j).length = j by omega]
theorem tscan_eq {K : Nat} {src : List UInt8} (hs : src.length ≤ 16384) (hK : 20000 ≤ K) (hb : K < 8000000) : token_Scan K src = some (ans (scanS (src.length + 1) src 0 [])) := by
 have h := tscan_l16 (K := K) (src := src) (by omega) (by omega) (by omega) K (src.length + 1) 0 [] (by simp; omega) (by simp) (by omega) (by simp; omega)
 have h' : token_Scan.l16 K src K src 0 [] = some (.done (ans (scanS (src.length + 1) src 0 []))) := h
 unfold token_Scan
 rw [if_neg (by omega), h']
 rfl
theorem rscan_l17 {K : Nat} {p0 : List UInt8} (hK : p0.length < K) (hK2 : 1000 ≤ K) (hb : p0.length + K < 9000000) : ∀ (k f i : Nat) (acc : List api_Token), (p0.drop i).length < k → (p0.drop i).length < f → i ≤ p0.length → acc.length + (p0.drop i).length < 9000000 →
  match scanS f (p0.drop i) i acc with
  | .ok l => ∃ l', l = l' ++ [⟨0, (p0.length : Int), [], 0⟩] ∧ l'.length < 9000000 ∧ workflowref07_Scan.l17 K p0 k (i : Int) acc = some (.go l')
  | .error (at_, e) => workflowref07_Scan.l17 K p0 k (i : Int) acc = some (.done ([], at_, e))
 | 0, f, i, acc, h, _, _, _ => by omega
 | k + 1, 0, i, acc, _, h, _, _ => by omega
 | k + 1, f + 1, i, acc, h, hf, hi, ha => by
  have hlen : (p0.drop i).length = p0.length - i := List.length_drop
  unfold workflowref07_Scan.l17
  cases hs : p0.drop i with
  | nil =>
   have : p0.length ≤ i := List.drop_eq_nil_iff.1 hs
   rw [if_neg (show ¬ (i : Int) < (p0.length : Int) by omega)]
   refine ⟨acc, ?_, by omega, rfl⟩
   simp
   omega
  | cons c r =>
   obtain ⟨_, hlt, hr⟩ := getD_drop _ _ c r c hs
   have hlr : r.length = p0.length - (i + 1) := by rw [← hr, List.length_drop]
   rw [hs] at h hf ha
   simp only [List.length_cons] at h hf ha
   rw [if_pos (show (i : Int) < (p0.length : Int) by omega), if_pos (show (0 : Int) ≤ (i : Int) ∧ (i : Int) < (p0.length : Int) by omega), gd hs, wrapS (show i < 9223372036854775807 by omega)]
   have skip : isB c = true → (match scanS (f + 1) (c :: r) i acc with
     | .ok l => ∃ l', l = l' ++ [⟨0, (p0.length : Int), [], 0⟩] ∧ l'.length < 9000000 ∧ workflowref07_Scan.l17 K p0 k ((i + 1 : Nat) : Int) acc = some (.go l')
     | .error (at_, e) => workflowref07_Scan.l17 K p0 k ((i + 1 : Nat) : Int) acc = some (.done ([], at_, e))) := fun hbl => by
    have ih := rscan_l17 hK hK2 hb k (f + 1) (i + 1) acc (by rw [hr]; omega) (by rw [hr]; omega) (by omega) (by rw [hr]; omega)
    rw [hr] at ih
    rw [scanS_blank f c r i acc hbl]
    exact ih
   by_cases h32 : c.toNat = 32
   ·rw [if_pos (show (c.toNat : Int) = 32 by omega)]
    exact skip (by simp [isB, h32])
   ·rw [if_neg (show ¬ (c.toNat : Int) = 32 by omega)]
    by_cases h9 : c.toNat = 9
    ·rw [if_pos (show (c.toNat : Int) = 9 by omega)]
     exact skip (by simp [isB, h9])
    ·rw [if_neg (show ¬ (c.toNat : Int) = 9 by omega)]
     by_cases h10 : c.toNat = 10
     ·rw [if_pos (show (c.toNat : Int) = 10 by omega)]
      exact skip (by simp [isB, h10])
     ·rw [if_neg (show ¬ (c.toNat : Int) = 10 by omega), if_pos (show (i : Int) ≤ (p0.length : Int) by omega)]
      have hnb : ¬ isB c = true := by simp [isB, h32, h9, h10]
      have hsl : slc p0 (i : Int) (p0.length : Int) = c :: r := by
       unfold slc
       rw [Int.toNat_natCast, Int.toNat_natCast, hs, List.take_of_length_le (by simp; omega)]
      have ho := one_ok (K := K) hK2 (s := c :: r) (by simp) (by simp; omega) (by simp; omega)
      rw [hsl]
      unfold scanS
      rw [List.dropWhile_cons, if_neg hnb, List.takeWhile_cons, if_neg hnb]
      simp only
      revert ho
      unfold okO
      cases lexS (c :: r) with
      | error e =>
       rintro ⟨he, hx⟩
       rw [hx, Option.bind_some]
       simp only
       rw [if_pos he]
       rfl
      | ok p =>
       obtain ⟨t, rest⟩ := p
       rintro ⟨n, h1, h2, rfl, hx⟩
       rw [hx, Option.bind_some]
       simp only
       simp only [List.length_cons] at h2
       rw [if_neg (show ¬ (0 : Int) ≠ 0 by decide), if_pos (show (acc.length + ([(⟨t.Kind, (i : Int), t.Text, t.Int⟩ : api_Token)] : List api_Token).length) * 40 ≤ 140737488355328 by simp only [List.length_cons, List.length_nil]; omega), wrapA (show i + n ≤ 9223372036854775807 by omega)]
       have hdn : (c :: r).drop n = p0.drop (i + n) := by rw [← hs, List.drop_drop]
       have hln : (p0.drop (i + n)).length = p0.length - (i + n) := List.length_drop
       have ih := rscan_l17 hK hK2 hb k f (i + n) (acc ++ [⟨t.Kind, (i : Int), t.Text, t.Int⟩]) (by omega) (by omega) (by omega) (by simp only [List.length_append, List.length_cons, List.length_nil]; omega)
       rw [hdn, show i + (c :: r).length - (p0.drop (i + n)).length = i + n by rw [hln, List.length_cons]; omega, List.length_nil, Nat.add_zero]
       exact ih
theorem rscan_eq {K : Nat} {p0 : List UInt8} (hs : p0.length ≤ 16384) (hK : 20000 ≤ K) (hb : K < 8000000) : workflowref07_Scan K p0 = some (ans (scanS (p0.length + 1) p0 0 [])) := by
 have h := rscan_l17 (K := K) (p0 := p0) (by omega) (by omega) (by omega) K (p0.length + 1) 0 [] (by simp; omega) (by simp) (by omega) (by simp; omega)
 rw [List.drop_zero] at h
 unfold workflowref07_Scan
 rw [if_neg (by omega)]
 revert h
 cases scanS (p0.length + 1) p0 0 [] with
 | error p =>
  obtain ⟨a, e⟩ := p
  intro h
  have h' : workflowref07_Scan.l17 K p0 K 0 [] = _ := h
  rw [h']
  rfl
 | ok l =>
  rintro ⟨l', rfl, hl, h⟩
  have h' : workflowref07_Scan.l17 K p0 K 0 [] = _ := h
  rw [h']
  simp only [obind]
  rw [if_pos (by simp only [List.length_cons, List.length_nil]; omega)]
  rfl
theorem scanS_len : ∀ (f : Nat) (s : List UInt8) (i : Nat) (acc l : List api_Token), scanS f s i acc = .ok l → l.length ≤ acc.length + f
 | 0, s, i, acc, l, h => by cases h
 | f + 1, s, i, acc, l, h => by
  unfold scanS at h
  split at h
  ·cases h; simp
  ·split at h
   ·cases h
   ·have := scanS_len f _ _ _ _ h
    simp at this
    omega
theorem equal_l15 (K : Nat) (l : List api_Token) : ∀ (k i : Nat), l.length - i < k → i ≤ l.length → l.length < 9000000 → workflowlaw07_equal.l15 K l l k (i : Int) = some (.go ())
 | 0, i, h, _, _ => by omega
 | k + 1, i, h, hi, hl => by
  unfold workflowlaw07_equal.l15
  by_cases hlt : i < l.length
  ·rw [if_pos (by omega), if_pos ⟨by omega, by omega⟩, if_pos (by omega), if_neg (by simp), wrapS (by omega)]
   exact equal_l15 K l k (i + 1) (by omega) (by omega) hl
  ·rw [if_neg (by omega)]
theorem equal_self {K : Nat} {l : List api_Token} (h : l.length < K) (hl : l.length < 9000000) : workflowlaw07_equal K l l = some true := by
 unfold workflowlaw07_equal
 rw [if_neg (by omega)]
 have := equal_l15 K l K 0 (by omega) (by omega) hl
 have h' : workflowlaw07_equal.l15 K l l K 0 = some (.go ()) := this
 rw [h']
 rfl
theorem works_ok : workflowlaw07_works 100000 = some true := by decide +kernel
theorem ans_len {n : Nat} {s : List UInt8} : (ans (scanS (n + 1) s 0 [])).1.length ≤ n + 1 := by
 cases h : scanS (n + 1) s 0 [] with
 | error p => obtain ⟨a, e⟩ := p; simp [ans]
 | ok l => have := scanS_len _ _ _ _ _ h; simpa [ans] using this
theorem law_scan (p0 : List UInt8) : workflowlaw07_TokenScan 100000 p0 = some true := by
 unfold workflowlaw07_TokenScan
 rw [works_ok]
 by_cases h1 : p0.length ≤ 16384
 ·rw [tscan_eq h1 (by omega) (by omega), rscan_eq h1 (by omega) (by omega)]
  simp only [Option.bind_some]
  have := @ans_len p0.length p0
  rw [equal_self (by omega) (by omega)]
  by_cases h2 : (p0.length : Int) > 5000 <;> simp [h2]
 ·have e1 : token_Scan 100000 p0 = some ([], 0, 6) := by unfold token_Scan; rw [if_pos (by omega)]
  have e2 : workflowref07_Scan 100000 p0 = some ([], 0, 6) := by unfold workflowref07_Scan; rw [if_pos (by omega)]
  have e3 : workflowlaw07_equal 100000 [] [] = some true := equal_self (by simp) (by simp)
  rw [if_pos (by omega), show (decide ((p0.length : Int) ≤ 16384)) = false by simp; omega, e1, e2]
  simp [e3]
theorem law_words (p0 : List UInt8) : workflowlaw07_TokenWords 100000 p0 = some true := by
 unfold workflowlaw07_TokenWords
 rw [keyword_eq (by omega), rkeyword_eq (by omega), works_ok]
 simp
end Go.Proofs.YtahpbjjfpbmaiaaDoor
