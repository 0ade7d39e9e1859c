/- The law. -/
import Derived.Test.YtahpbjjfpbmaiaaDoorLwC
set_option linter.unusedVariables false
set_option linter.unusedSimpArgs false
set_option maxHeartbeats 4000000
namespace Go.Proofs.YtahpbjjfpbmaiaaDoor
open Eng
theorem rletter_eq (K : Nat) (c : UInt8) : workflowref07_letter K (c.toNat : Int) = some (isL c) := letter_nat c.toNat
theorem rdigit_eq (K : Nat) (c : UInt8) : workflowref07_digit K (c.toNat : Int) = some (isD c) := by
 unfold workflowref07_digit isD
 by_cases h : 48 ≤ c.toNat
 ·rw [if_pos (by omega)]; simp [h]; omega
 ·rw [if_neg (by omega)]; simp [h]
theorem wrap_u8' {n : Int} (h : 0 ≤ n) (h2 : n < 256) : IntKind.u8.wrap n = n := by
 obtain ⟨m, rfl⟩ : ∃ m : Nat, n = (m : Int) := ⟨n.toNat, by omega⟩
 unfold IntKind.wrap
 simp [IntKind.bits, IntKind.signed]
 omega
theorem rhex_eq (K : Nat) (c : UInt8) : workflowref07_hex K (c.toNat : Int) = some (hx c) := by
 have hb := byte_lt c
 unfold workflowref07_hex hx
 rw [rdigit_eq, Option.bind_some]
 by_cases h : isD c = true
 ·rw [if_pos h, if_pos h]
  have : 48 ≤ c.toNat ∧ c.toNat ≤ 57 := by simpa [isD] using h
  rw [wrap_u8' (by omega) (by omega), Eng.wrap_small (by omega) (by omega)]
 ·rw [if_neg h, if_neg h]
  by_cases h1 : 97 ≤ c.toNat
  ·rw [if_pos (show (c.toNat : Int) ≥ 97 by omega)]
   by_cases h2 : c.toNat ≤ 102
   ·rw [if_pos (show (c.toNat : Int) ≤ 102 by omega), if_pos ⟨h1, h2⟩, wrap_u8' (by omega) (by omega), show IntKind.i64.wrap ((c.toNat : Int) - 97) = (c.toNat : Int) - 97 from Eng.wrap_small (by omega) (by omega), Eng.wrap_small (by omega) (by omega)]
    congr 1; omega
   ·rw [if_neg (show ¬ (c.toNat : Int) ≤ 102 by omega), if_neg (by omega)]
  ·rw [if_neg (show ¬ (c.toNat : Int) ≥ 97 by omega), if_neg (by omega)]
theorem gd {p0 : List UInt8} {i : Nat} {c : UInt8} {r : List UInt8} (h : p0.drop i = c :: r) : p0.getD (Int.toNat (i : Int)) 0 = c := by
 rw [Int.toNat_natCast]; exact (getD_drop _ _ c r 0 h).1
theorem rword_l13 (K : Nat) (p0 : List UInt8) : ∀ (k i : Nat), (p0.drop i).length < k → i + k < 9223372036854775807 → workflowref07_one.l13 K p0 k (i : Int) = some ((i + ((p0.drop i).takeWhile isW).length : Nat) : Int)
 | 0, i, h, _ => by omega
 | k + 1, i, h, hi => by
  unfold workflowref07_one.l13
  cases hs : p0.drop i with
  | nil =>
   have : p0.length ≤ i := List.drop_eq_nil_iff.1 hs
   rw [if_neg (by omega)]; simp
  | cons c r =>
   obtain ⟨_, hlt, hr⟩ := getD_drop _ _ c r c hs
   have ih := rword_l13 K p0 k (i + 1) (by rw [hr]; rw [hs] at h; simpa using h) (by omega)
   rw [if_pos (by omega), if_pos ⟨by omega, by omega⟩, gd hs, rletter_eq, Option.bind_some, List.takeWhile_cons]
   rw [rdigit_eq, Option.bind_some, wrapS (by omega), ih, hr]
   unfold isW
   by_cases h1 : isL c = true
   ·rw [if_pos h1, if_pos (by simp [h1])]; simp; omega
   ·rw [if_neg h1]
    by_cases h2 : isD c = true
    ·rw [if_pos h2, if_pos (by simp [h2])]; simp; omega
    ·rw [if_neg h2, if_neg (by simp [h1, h2])]; simp
theorem rnum_l7 (K : Nat) (p0 : List UInt8) : ∀ (k i : Nat), (p0.drop i).length < k → i + k < 9223372036854775807 → workflowref07_number.l7 K p0 k (i : Int) = some ((i + ((p0.drop i).takeWhile isD).length : Nat) : Int)
 | 0, i, h, _ => by omega
 | k + 1, i, h, hi => by
  unfold workflowref07_number.l7
  cases hs : p0.drop i with
  | nil =>
   have : p0.length ≤ i := List.drop_eq_nil_iff.1 hs
   rw [if_neg (by omega)]; simp
  | cons c r =>
   obtain ⟨_, hlt, hr⟩ := getD_drop _ _ c r c hs
   have ih := rnum_l7 K p0 k (i + 1) (by rw [hr]; rw [hs] at h; simpa using h) (by omega)
   rw [if_pos (by omega), if_pos ⟨by omega, by omega⟩, gd hs, rdigit_eq, Option.bind_some, List.takeWhile_cons]
   rw [wrapS (by omega), ih, hr]
   by_cases h2 : isD c = true
   ·rw [if_pos h2, if_pos h2]; simp; omega
   ·rw [if_neg h2, if_neg h2]; simp
def dval (acc : Nat) : List UInt8 → Nat
 | [] => acc
 | c :: r => dval (10 * acc + (c.toNat - 48)) r
theorem dval_ge : ∀ (l : List UInt8) (acc : Nat), acc ≤ dval acc l
 | [], acc => Nat.le_refl _
 | c :: r, acc => by
  have := dval_ge r (10 * acc + (c.toNat - 48))
  unfold dval
  omega
theorem parseM_eq : ∀ (l : List UInt8) (acc : Nat), (∀ c ∈ l, isD c = true) → acc ≤ 18446744073709551615 → Lib.parseUintM 18446744073709551615 acc l = if dval acc l ≤ 18446744073709551615 then .ok (dval acc l) else .range
 | [], acc, _, h => by unfold Lib.parseUintM dval; rw [if_pos h]
 | c :: r, acc, hd, h => by
  have hc : 48 ≤ c.toNat ∧ c.toNat ≤ 57 := by simpa [isD] using hd c (.head _)
  have hge := dval_ge r (10 * acc + (c.toNat - 48))
  unfold Lib.parseUintM
  rw [if_pos hc]
  by_cases h1 : 1844674407370955162 ≤ acc
  ·rw [if_pos h1, if_neg]
   unfold dval; omega
  ·rw [if_neg h1]
   by_cases h2 : 18446744073709551615 < acc * 10 + (c.toNat - 48)
   ·rw [if_pos h2, if_neg]
    unfold dval; omega
   ·rw [if_neg h2, parseM_eq r _ (fun x hx => hd x (.tail _ hx)) (by omega), show acc * 10 = 10 * acc from Nat.mul_comm _ _]
    rfl
theorem pi_digits {l : List UInt8} (hne : l ≠ []) (h : ∀ c ∈ l, isD c = true) : (piOk l = decide (dval 0 l ≤ 9223372036854775807)) ∧ (dval 0 l ≤ 9223372036854775807 → piVal l = (dval 0 l : Int)) := by
 cases l with
 | nil => exact absurd rfl hne
 | cons c r =>
  have hc : 48 ≤ c.toNat ∧ c.toNat ≤ 57 := by simpa [isD] using h c (.head _)
  have hp : Lib.parseUintB 64 (c :: r) = if dval 0 (c :: r) ≤ 18446744073709551615 then .ok (dval 0 (c :: r)) else .range := by
   unfold Lib.parseUintB
   rw [if_neg (by simp)]
   exact parseM_eq (c :: r) 0 h (by omega)
  have hq : Lib.parseIntB 64 (c :: r) = if dval 0 (c :: r) ≤ 9223372036854775807 then .ok (dval 0 (c :: r) : Int) else .range := by
   unfold Lib.parseIntB
   simp only
   rw [if_neg (by omega), hp]
   by_cases h1 : dval 0 (c :: r) ≤ 18446744073709551615
   ·rw [if_pos h1]
    simp only
    by_cases h2 : dval 0 (c :: r) ≤ 9223372036854775807
    ·rw [if_neg (by omega), if_neg (by omega), if_neg (by omega), if_pos h2]
    ·rw [if_pos (by omega), if_neg h2]
   ·rw [if_neg h1, if_neg (by omega)]
  unfold piOk piVal
  rw [hq]
  by_cases h2 : dval 0 (c :: r) ≤ 9223372036854775807
  ·rw [if_pos h2]; exact ⟨by simp [h2], fun _ => rfl⟩
  ·rw [if_neg h2]; exact ⟨by simp [h2], fun h => absurd h h2⟩
theorem rnum_l30 (K : Nat) (p0 : List UInt8) (n : Nat) (hn : n ≤ p0.length) (hd : ∀ c ∈ p0.take n, isD c = true) : ∀ (k i : Nat) (acc : Nat), n - i < k → i ≤ n → n + k < 9223372036854775807 → acc ≤ 9223372036854775807 →
  workflowref07_number.l30 K p0 (n : Int) k (acc : Int) (i : Int) = some (if dval acc ((p0.take n).drop i) ≤ 9223372036854775807 then .go (dval acc ((p0.take n).drop i) : Int) else .done (0, 0, 14))
 | 0, i, acc, h, _, _, _ => by omega
 | k + 1, i, acc, h, hi, hk, ha => by
  unfold workflowref07_number.l30
  by_cases hlt : i < n
  ·have hlt2 : i < p0.length := by omega
   have hlt3 : i < (p0.take n).length := by rw [List.length_take]; omega
   have hg : p0.getD (Int.toNat (i : Int)) 0 = p0[i] := by rw [Int.toNat_natCast]; simp [List.getD, hlt2]
   have hdr : (p0.take n).drop i = p0[i] :: (p0.take n).drop (i + 1) := by rw [List.drop_eq_getElem_cons hlt3]; simp
   have hc : 48 ≤ p0[i].toNat ∧ p0[i].toNat ≤ 57 := by
    have := hd p0[i] (List.mem_of_mem_drop (i := i) (by rw [hdr]; exact .head _))
    simpa [isD] using this
   rw [if_pos (by omega), if_pos ⟨by omega, by omega⟩, hg, hdr]
   have e1 : IntKind.u8.wrap ((p0[i].toNat : Int) - 48) = ((p0[i].toNat - 48 : Nat) : Int) := by rw [wrap_u8' (by omega) (by omega)]; omega
   rw [e1, wrapN (by omega)]
   have e2 : IntKind.i64.wrap (9223372036854775807 - ((p0[i].toNat - 48 : Nat) : Int)) = ((9223372036854775807 - (p0[i].toNat - 48) : Nat) : Int) := by rw [Eng.wrap_small (by omega) (by omega)]; omega
   rw [e2]
   have e3 : Int.tdiv ((9223372036854775807 - (p0[i].toNat - 48) : Nat) : Int) 10 = (((9223372036854775807 - (p0[i].toNat - 48)) / 10 : Nat) : Int) := by
    rw [show (10 : Int) = ((10 : Nat) : Int) from rfl, Int.ofNat_tdiv]
   rw [e3, wrapN (by omega)]
   have hge := dval_ge ((p0.take n).drop (i + 1)) (10 * acc + (p0[i].toNat - 48))
   by_cases hov : acc > (9223372036854775807 - (p0[i].toNat - 48)) / 10
   ·rw [if_pos (by omega), if_neg]
    unfold dval; omega
   ·rw [if_neg (by omega)]
    have e4 : IntKind.i64.wrap (10 * (acc : Int)) = ((10 * acc : Nat) : Int) := by rw [Eng.wrap_small (by omega) (by omega)]; omega
    rw [e4, wrapA (show 10 * acc + (p0[i].toNat - 48) ≤ 9223372036854775807 by omega), wrapS (by omega), rnum_l30 K p0 n hn hd k (i + 1) _ (by omega) (by omega) (by omega) (by omega)]
    rfl
  ·rw [if_neg (by omega)]
   have : (p0.take n).drop i = [] := List.drop_eq_nil_of_le (by rw [List.length_take]; omega)
   rw [this, show dval acc [] = acc from rfl, if_pos ha]
theorem tw_digits : ∀ (s : List UInt8) (p : UInt8 → Bool), ∀ c ∈ s.takeWhile p, p c = true
 | [], p => by simp
 | c :: r, p => by
  rw [List.takeWhile_cons]
  by_cases h : p c = true
  ·rw [if_pos h]
   intro x hx
   rcases List.mem_cons.1 hx with rfl | hx
   ·exact h
   ·exact tw_digits r p x hx
  ·rw [if_neg h]; simp
def okR (p0 : List UInt8) (i : Nat) (r : Except Int (List UInt8 × List UInt8)) (x : Option (Out (List UInt8 × Int × Int) Unit)) : Prop :=
 match r with
 | .ok (t, rest) => ∃ j : Nat, i < j ∧ j ≤ p0.length ∧ rest = p0.drop j ∧ x = some (.done (t, (j : Int), 0))
 | .error e => e ≠ 0 ∧ (x = some (.done ([], 0, e)) ∨ (e = 4 ∧ x = some (.go ())))
theorem okR.err {p0 : List UInt8} {i : Nat} {e : Int} (h : e ≠ 0) : okR p0 i (.error e) (some (.done ([], 0, e))) := ⟨h, .inl rfl⟩
theorem okR.le {p0 : List UInt8} {i i' : Nat} {r : Except Int (List UInt8 × List UInt8)} {x : Option (Out (List UInt8 × Int × Int) Unit)} (h : okR p0 i' r x) (hi : i ≤ i') : okR p0 i r x := by
 unfold okR at h ⊢
 split at h
 ·obtain ⟨j, h1, h2⟩ := h; exact ⟨j, by omega, h2⟩
 ·exact h
theorem rhex_l95 (K : Nat) (p0 : List UInt8) (hp : p0.length < 9000000) (i : Nat) (hi : i ≤ p0.length) (k : Nat) : workflowref07_literal.l95 K p0 (i : Int) (k + 3) 0 2 = some (match p0.drop (i + 2) with
  | [] => .done ([], 0, 4)
  | x :: r3 => if hx x < 0 then .done ([], 0, 3) else (match r3 with
   | [] => .done ([], 0, 4)
   | y :: _ => if hx y < 0 then .done ([], 0, 3) else .go (16 * hx x + hx y))) := by
 unfold workflowref07_literal.l95
 have e2 : IntKind.i64.wrap ((i : Int) + 2) = ((i + 2 : Nat) : Int) := by rw [Eng.wrap_small (by omega) (by omega)]; omega
 rw [if_pos (by decide), e2]
 cases hs : p0.drop (i + 2) with
 | nil =>
  have : p0.length ≤ i + 2 := List.drop_eq_nil_iff.1 hs
  rw [if_pos (by omega)]
 | cons x r3 =>
  obtain ⟨_, hlt, hr⟩ := getD_drop _ _ x r3 x hs
  rw [if_neg (by omega), if_pos ⟨by omega, by omega⟩, gd hs, rhex_eq, Option.bind_some]
  simp only
  by_cases hx0 : hx x < 0
  ·rw [if_pos hx0, if_pos hx0]
  ·rw [if_neg hx0, if_neg hx0, Option.bind_some]
   have b1 := hx_range x
   have w0 : IntKind.i64.wrap (16 * 0) = 0 := by decide
   rw [w0, Int.zero_add, Eng.wrap_small (show -9223372036854775808 ≤ hx x by omega) (by omega), show IntKind.i64.wrap (2 + 1) = 3 by decide]
   unfold workflowref07_literal.l95
   have e3 : IntKind.i64.wrap ((i : Int) + 3) = ((i + 3 : Nat) : Int) := by rw [Eng.wrap_small (by omega) (by omega)]; omega
   rw [if_pos (by decide), e3]
   cases r3 with
   | nil =>
    have : p0.length ≤ i + 3 := List.drop_eq_nil_iff.1 hr
    rw [if_pos (by omega)]
   | cons y r4 =>
    obtain ⟨_, hlt2, hr2⟩ := getD_drop _ _ y r4 y hr
    have hs2 : p0.drop (i + 3) = y :: r4 := hr
    rw [if_neg (by omega), if_pos ⟨by omega, by omega⟩, gd hs2, rhex_eq, Option.bind_some]
    simp only
    by_cases hy0 : hx y < 0
    ·rw [if_pos hy0, if_pos hy0]
    ·rw [if_neg hy0, if_neg hy0, Option.bind_some]
     have b2 := hx_range y
     rw [Eng.wrap_small (show -9223372036854775808 ≤ 16 * hx x by omega) (by omega), Eng.wrap_small (show -9223372036854775808 ≤ 16 * hx x + hx y by omega) (by omega), show IntKind.i64.wrap (3 + 1) = 4 by decide]
     unfold workflowref07_literal.l95
     rw [if_neg (by decide)]
theorem rlit_l9 (K : Nat) (hK : 1000 ≤ K) (p0 : List UInt8) (hp : p0.length < 9000000) : ∀ (k i : Nat) (acc : List UInt8), (p0.drop i).length < k → i ≤ p0.length → acc.length + (p0.drop i).length < 9000000 →
  okR p0 i (litS acc (p0.drop i)) (workflowref07_literal.l9 K p0 k (i : Int) acc)
 | 0, i, acc, h, _, _ => by omega
 | k + 1, i, acc, h, hi, ha => by
  unfold workflowref07_literal.l9
  cases hs : p0.drop i with
  | nil =>
   have : p0.length ≤ i := List.drop_eq_nil_iff.1 hs
   unfold litS
   rw [if_neg (show ¬ (i : Int) < (p0.length : Int) by omega)]
   exact ⟨by decide, .inr ⟨rfl, rfl⟩⟩
  | cons c r =>
   obtain ⟨_, hlt, hr⟩ := getD_drop _ _ c r c hs
   rw [hs] at h ha
   simp only [List.length_cons] at h ha
   have hcb := byte_lt c
   have ih : ∀ (m : Nat) (s : List UInt8) (b : UInt8), p0.drop m = s → i < m → m ≤ p0.length → s.length < k → acc.length + 1 + s.length < 9000000 → okR p0 i (litS (acc ++ [b]) s) (workflowref07_literal.l9 K p0 k (m : Int) (acc ++ [b])) := fun m s b h1 h2 h3 h4 h5 => by
    subst h1
    exact (rlit_l9 K hK p0 hp k m (acc ++ [b]) h4 h3 (by simp only [List.length_append, List.length_cons, List.length_nil]; omega)).le (by omega)
   have hroom : ∀ b : UInt8, (acc.length + ([b] : List UInt8).length) * 1 ≤ 140737488355328 := fun b => by simp only [List.length_cons, List.length_nil]; omega
   have w2 : IntKind.i64.wrap ((i : Int) + 2) = ((i + 2 : Nat) : Int) := by rw [Eng.wrap_small (by omega) (by omega)]; omega
   have w4 : IntKind.i64.wrap ((i : Int) + 4) = ((i + 4 : Nat) : Int) := by rw [Eng.wrap_small (by omega) (by omega)]; omega
   rw [if_pos (show (i : Int) < (p0.length : Int) by omega), if_pos (show (0 : Int) ≤ (i : Int) ∧ (i : Int) < (p0.length : Int) by omega), gd hs, wrapS (show i < 9223372036854775807 by omega), w2, w4]
   unfold litS
   by_cases h34 : c.toNat = 34
   ·rw [if_pos (show (c.toNat : Int) = 34 by omega), if_pos h34]
    by_cases hm : 4096 < acc.length
    ·rw [if_pos hm, if_pos (show (acc.length : Int) > 4096 by omega)]
     exact .err (by decide)
    ·rw [if_neg hm, if_neg (show ¬ (acc.length : Int) > 4096 by omega), mapid]
     exact ⟨i + 1, by omega, by omega, hr.symm, rfl⟩
   ·rw [if_neg (show ¬ (c.toNat : Int) = 34 by omega), if_neg h34]
    by_cases h92 : c.toNat = 92
    ·rw [if_pos h92, if_neg (show ¬ (c.toNat : Int) < 32 by omega), if_neg (show ¬ (c.toNat : Int) > 126 by omega), if_neg (show ¬ (c.toNat : Int) ≠ 92 by omega)]
     cases r with
     | nil =>
      have : p0.length ≤ i + 1 := List.drop_eq_nil_iff.1 hr
      rw [if_pos (show ((i + 1 : Nat) : Int) ≥ (p0.length : Int) by omega)]
      exact .err (by decide)
     | cons d r2 =>
      obtain ⟨_, hlt2, hr2⟩ := getD_drop _ _ d r2 d hr
      simp only [List.length_cons] at h ha
      have hdb := byte_lt d
      rw [if_neg (show ¬ ((i + 1 : Nat) : Int) ≥ (p0.length : Int) by omega), if_pos (show (0 : Int) ≤ ((i + 1 : Nat) : Int) ∧ ((i + 1 : Nat) : Int) < (p0.length : Int) by omega), gd hr]
      have hb : (if (d.toNat : Int) = 34 then some (decide ((d.toNat : Int) = 34)) else some (decide ((d.toNat : Int) = 92)) : Option Bool) = some (decide (d.toNat = 34 ∨ d.toNat = 92)) := by
       by_cases h1 : d.toNat = 34
       ·rw [if_pos (by omega)]; simp [h1]
       ·rw [if_neg (by omega)]; simp [h1]; omega
      rw [hb, Option.bind_some]
      simp only
      by_cases hq : d.toNat = 34 ∨ d.toNat = 92
      ·rw [if_pos (decide_eq_true hq), if_pos hq, if_pos (show 0 ≤ (d.toNat : Int) ∧ (d.toNat : Int) < 256 by omega), if_pos (hroom _), Int.toNat_natCast, ofNat_toNat]
       exact ih _ _ d hr2 (by omega) (by omega) (by omega) (by omega)
      ·rw [if_neg (show ¬ (decide (d.toNat = 34 ∨ d.toNat = 92) = true) by simpa using hq), if_neg hq]
       by_cases h110 : d.toNat = 110
       ·rw [if_pos (show (d.toNat : Int) = 110 by omega), if_pos h110, if_pos (hroom _)]
        exact ih _ _ 10 hr2 (by omega) (by omega) (by omega) (by omega)
       ·rw [if_neg (show ¬ (d.toNat : Int) = 110 by omega), if_neg h110]
        by_cases h116 : d.toNat = 116
        ·rw [if_pos (show (d.toNat : Int) = 116 by omega), if_pos h116, if_pos (hroom _)]
         exact ih _ _ 9 hr2 (by omega) (by omega) (by omega) (by omega)
        ·rw [if_neg (show ¬ (d.toNat : Int) = 116 by omega), if_neg h116]
         by_cases h120 : d.toNat = 120
         ·obtain ⟨q, hq⟩ : ∃ q, K = q + 3 := ⟨K - 3, by omega⟩
          have hl := rhex_l95 K p0 hp i hi q
          rw [← hq, show i + 2 = i + 1 + 1 from rfl, hr2] at hl
          rw [if_pos (show (d.toNat : Int) = 120 by omega), if_pos h120, hl]
          cases r2 with
          | nil =>
           simp only [obind]
           exact .err (by decide)
          | cons x r3 =>
           obtain ⟨_, hlt3, hr3⟩ := getD_drop _ _ x r3 x hr2
           simp only [List.length_cons] at h ha
           simp only
           by_cases hx0 : hx x < 0
           ·rw [if_pos hx0, if_pos hx0]
            simp only [obind]
            exact .err (by decide)
           ·rw [if_neg hx0, if_neg hx0]
            cases r3 with
            | nil =>
             simp only [obind]
             exact .err (by decide)
            | cons y r4 =>
             obtain ⟨_, hlt4, hr4⟩ := getD_drop _ _ y r4 y hr3
             simp only [List.length_cons] at h ha
             simp only
             by_cases hy0 : hx y < 0
             ·rw [if_pos hy0, if_pos hy0]
              simp only [obind]
              exact .err (by decide)
             ·rw [if_neg hy0, if_neg hy0]
              have b1 := hx_range x
              have b2 := hx_range y
              simp only [obind]
              rw [wrap_u8' (show 0 ≤ 16 * hx x + hx y by omega) (by omega), if_pos (show 0 ≤ 16 * hx x + hx y ∧ 16 * hx x + hx y < 256 by omega), if_pos (hroom _)]
              exact ih _ _ _ hr4 (by omega) (by omega) (by omega) (by omega)
         ·rw [if_neg (show ¬ (d.toNat : Int) = 120 by omega), if_neg h120]
          exact .err (by decide)
    ·rw [if_neg h92]
     by_cases hp' : 32 ≤ c.toNat ∧ c.toNat ≤ 126
     ·rw [if_pos hp', if_neg (show ¬ (c.toNat : Int) < 32 by omega), if_neg (show ¬ (c.toNat : Int) > 126 by omega), if_pos (show (c.toNat : Int) ≠ 92 by omega), if_pos (show 0 ≤ (c.toNat : Int) ∧ (c.toNat : Int) < 256 by omega), if_pos (hroom _), Int.toNat_natCast, ofNat_toNat]
      exact ih _ _ c hr (by omega) (by omega) (by omega) (by omega)
     ·rw [if_neg hp']
      by_cases h32 : c.toNat < 32
      ·rw [if_pos (show (c.toNat : Int) < 32 by omega)]
       exact .err (by decide)
      ·rw [if_neg (show ¬ (c.toNat : Int) < 32 by omega), if_pos (show (c.toNat : Int) > 126 by omega)]
       exact .err (by decide)
end Go.Proofs.YtahpbjjfpbmaiaaDoor
