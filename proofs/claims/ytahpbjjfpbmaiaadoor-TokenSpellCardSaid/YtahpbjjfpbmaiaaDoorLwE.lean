/- The law. -/
import Derived.Test.YtahpbjjfpbmaiaaDoorLwD
set_option linter.unusedVariables false
set_option linter.unusedSimpArgs false
set_option maxHeartbeats 4000000
namespace Go.Proofs.YtahpbjjfpbmaiaaDoor
open Eng
def sgs : List (List UInt8) := [[61, 61], [33, 61], [60, 61], [62, 61], [40], [41], [123], [125], [91], [93], [44], [59], [46], [58], [61], [60], [62], [43], [45], [42], [47], [37]]
def fits (s x : List UInt8) : Bool := decide (x.length ≤ s.length) && decide (s.take x.length = x)
theorem slc0 (s : List UInt8) (n : Nat) : slc s 0 (n : Int) = s.take n := by
 unfold slc
 simp
theorem rsign_l82 (K : Nat) (s : List UInt8) (l : List (List UInt8)) (hl : l.length < 1000) : ∀ (k i : Nat), l.length - i < k → i ≤ l.length →
  workflowref07_one.l82 K s l k (i : Int) = some (match (l.drop i).find? (fits s) with | some x => .done (⟨5, 0, x, 0⟩, (x.length : Int), 0) | none => .go ())
 | 0, i, h, _ => by omega
 | k + 1, i, h, hi => by
  unfold workflowref07_one.l82
  by_cases hlt : i < l.length
  ·have hg : l.getD (Int.toNat (i : Int)) [] = l[i] := by rw [Int.toNat_natCast]; simp [List.getD, hlt]
   have hd1 : l.drop i = l[i] :: l.drop (i + 1) := List.drop_eq_getElem_cons hlt
   have ih := rsign_l82 K s l hl k (i + 1) (by omega) (by omega)
   rw [if_pos (by omega), if_pos ⟨by omega, by omega⟩, hg, hd1, List.find?_cons, wrapS (by omega), ih, slc0]
   unfold fits
   by_cases h1 : l[i].length ≤ s.length
   ·rw [if_pos (by omega), if_pos ⟨by omega, by omega⟩]
    by_cases h2 : s.take l[i].length = l[i]
    ·rw [if_pos h2]; simp [h1, h2]
    ·rw [if_neg h2]; simp [h1, h2]
   ·rw [if_neg (by omega)]; simp [h1]
  ·rw [if_neg (by omega), List.drop_eq_nil_of_le (by omega)]
   rfl
theorem sgs_heads : ∀ x ∈ sgs, ∃ k t, x = k :: t ∧ (k.toNat ∈ sg1 ∨ k.toNat ∈ sg2) := by
 intro x hx
 simp only [sgs, List.mem_cons, List.not_mem_nil, or_false] at hx
 rcases hx with rfl | rfl | rfl | rfl | rfl | rfl | rfl | rfl | rfl | rfl | rfl | rfl | rfl | rfl | rfl | rfl | rfl | rfl | rfl | rfl | rfl | rfl <;> exact ⟨_, _, rfl, by decide⟩
theorem fits1 (c : UInt8) (r : List UInt8) (k : UInt8) : fits (c :: r) [k] = decide (c = k) := by
 unfold fits; simp
theorem fits2 (c : UInt8) (r : List UInt8) (k : UInt8) : fits (c :: r) [k, 61] = (decide (c = k) && decide (hd r = 61)) := by
 unfold fits
 cases r with
 | nil => simp [hd]
 | cons d r =>
  have : (d = 61) ↔ ((d.toNat : Int) = 61) := ⟨fun h => by rw [h]; rfl, fun h => by have := byte_eq (c := d) (n := 61) (by omega); rw [this]; rfl⟩
  simp [hd, this]
  congr 1
theorem find_sign (s : List UInt8) (hne : s ≠ []) : sgs.find? (fits s) = if signN s = 0 then none else some (s.take (signN s)) := by
 cases s with
 | nil => exact absurd rfl hne
 | cons c r =>
  rw [show signN (c :: r) = (if c.toNat ∈ sg2 then (if hd r = 61 then 2 else if c.toNat ≠ 33 then 1 else 0) else if c.toNat ∈ sg1 then 1 else 0) from rfl]
  have tk2 : hd r = 61 → (c :: r).take 2 = [c, 61] := fun h => by
   cases r with
   | nil => cases h
   | cons d r =>
    have := byte_eq (c := d) (n := 61) (by have : (d.toNat : Int) = 61 := h; omega)
    rw [this]; rfl
  by_cases h2 : c.toNat ∈ sg2
  ·rw [if_pos h2]
   have hc : c = 61 ∨ c = 60 ∨ c = 62 ∨ c = 33 := by
    simp only [sg2, List.mem_cons, List.not_mem_nil, or_false] at h2
    rcases h2 with h | h | h | h
    ·exact .inl (byte_eq h)
    ·exact .inr (.inl (byte_eq h))
    ·exact .inr (.inr (.inl (byte_eq h)))
    ·exact .inr (.inr (.inr (byte_eq h)))
   unfold sgs
   simp only [List.find?_cons, List.find?_nil, fits1, fits2]
   by_cases h3 : hd r = 61
   ·rw [if_pos h3, if_neg (by decide), tk2 h3]
    rcases hc with rfl | rfl | rfl | rfl <;> simp [h3]
   ·rw [if_neg h3]
    rcases hc with rfl | rfl | rfl | rfl <;> simp [h3]
  ·rw [if_neg h2]
   by_cases h1 : c.toNat ∈ sg1
   ·rw [if_pos h1, if_neg (by decide)]
    have hc : c = 40 ∨ c = 41 ∨ c = 123 ∨ c = 125 ∨ c = 91 ∨ c = 93 ∨ c = 44 ∨ c = 59 ∨ c = 46 ∨ c = 58 ∨ c = 43 ∨ c = 45 ∨ c = 42 ∨ c = 47 ∨ c = 37 := by
     simp only [sg1, List.mem_cons, List.not_mem_nil, or_false] at h1
     rcases h1 with h | h | h | h | h | h | h | h | h | h | h | h | h | h | h <;> have := byte_eq h <;> simp [this]
    unfold sgs
    simp only [List.find?_cons, List.find?_nil, fits1, fits2]
    rcases hc with rfl | rfl | rfl | rfl | rfl | rfl | rfl | rfl | rfl | rfl | rfl | rfl | rfl | rfl | rfl <;> simp
   ·rw [if_neg h1, if_pos rfl, List.find?_eq_none]
    intro x hx hf
    obtain ⟨k, t, rfl, hk⟩ := sgs_heads x hx
    have : (c :: r).take (t.length + 1) = k :: t := by
     unfold fits at hf
     simp at hf
     simp [hf]
    rw [List.take_succ_cons] at this
    injection this with e1 e2
    subst e1
    exact hk.elim h1 h2
def okO (s : List UInt8) (r : Except Int (api_Token × List UInt8)) (x : Option (api_Token × Int × Int)) : Prop :=
 match r with
 | .ok (t, rest) => ∃ n : Nat, 0 < n ∧ n ≤ s.length ∧ rest = s.drop n ∧ x = some (t, (n : Int), 0)
 | .error e => e ≠ 0 ∧ x = some (⟨0, 0, [], 0⟩, 0, e)
theorem rnumber_eq {K : Nat} {s : List UInt8} (hs : s.length < K) (hb : s.length + K < 9000000) (h : onHd isD s = true) :
  workflowref07_number K s = some (if badN s = true then (0, 0, 3) else if piOk (s.takeWhile isD) = true then (piVal (s.takeWhile isD), ((s.takeWhile isD).length : Int), 0) else (0, 0, 14)) := by
 have hp : 0 < (s.takeWhile isD).length := tw_pos h
 have hle := tw_le isD s
 have hl7 := rnum_l7 K s K 0 (by simpa using hs) (by omega)
 rw [List.drop_zero, Nat.zero_add] at hl7
 have hl7' : workflowref07_number.l7 K s K 0 = some (((s.takeWhile isD).length : Nat) : Int) := hl7
 unfold workflowref07_number
 rw [hl7', Option.bind_some]
 obtain ⟨c, r, rfl⟩ : ∃ c r, s = c :: r := by
  cases s with
  | nil => cases h
  | cons c r => exact ⟨c, r, rfl⟩
 generalize hn : ((c :: r).takeWhile isD).length = n at *
 have e0 : (c :: r).getD (Int.toNat 0) 0 = c := rfl
 have hdw : (c :: r).dropWhile isD = (c :: r).drop n := by rw [dw_drop, hn]
 have hlet : (n : Int) < ((c :: r).length : Int) → ∃ d t, (c :: r).drop n = d :: t := fun hlt => ⟨_, _, List.drop_eq_getElem_cons (by omega)⟩
 have hmid : ((if (n : Int) > 1 then (if (0 : Int) < ((c :: r).length : Int) then (if (((c :: r).getD (Int.toNat 0) 0).toNat : Int) = 48 then some (Out.done ((0 : Int), (0 : Int), (3 : Int))) else (if (n : Int) < ((c :: r).length : Int) then (if (0 : Int) ≤ (n : Int) ∧ ((n : Int) : Int) < ((c :: r).length : Int) then (Option.bind (workflowref07_letter K (((c :: r).getD (Int.toNat (n : Int)) 0).toNat : Int)) (fun a2 => (if a2 = true then some (Out.done (0, 0, 3)) else some (Out.go ())))) else none) else some (Out.go ()))) else none) else (if (n : Int) < ((c :: r).length : Int) then (if (0 : Int) ≤ (n : Int) ∧ ((n : Int) : Int) < ((c :: r).length : Int) then (Option.bind (workflowref07_letter K (((c :: r).getD (Int.toNat (n : Int)) 0).toNat : Int)) (fun a3 => (if a3 = true then some (Out.done (0, 0, 3)) else some (Out.go ())))) else none) else some (Out.go ()))) : Option (Out (Int × Int × Int) Unit)) = if badN (c :: r) = true then some (Out.done (0, 0, 3)) else some (Out.go ()) := by
  have inner : ((if (n : Int) < ((c :: r).length : Int) then (if (0 : Int) ≤ (n : Int) ∧ ((n : Int) : Int) < ((c :: r).length : Int) then (Option.bind (workflowref07_letter K (((c :: r).getD (Int.toNat (n : Int)) 0).toNat : Int)) (fun a3 => (if a3 = true then some (Out.done ((0 : Int), (0 : Int), (3 : Int))) else some (Out.go ())))) else none) else some (Out.go ())) : Option (Out (Int × Int × Int) Unit)) = if onHd isL ((c :: r).drop n) = true then some (Out.done (0, 0, 3)) else some (Out.go ()) := by
   by_cases hlt : (n : Int) < ((c :: r).length : Int)
   ·obtain ⟨d, t, hdt⟩ := hlet hlt
    rw [if_pos hlt, if_pos ⟨by omega, hlt⟩, gd hdt, rletter_eq, Option.bind_some, hdt]
    rfl
   ·rw [if_neg hlt, List.drop_eq_nil_of_le (by omega)]
    rfl
  rw [inner, e0]
  unfold badN
  rw [hn, hdw]
  rw [show onHd (fun c => decide (c.toNat = 48)) (c :: r) = decide (c.toNat = 48) from rfl]
  by_cases h1 : 1 < n
  ·rw [if_pos (show (n : Int) > 1 by omega), if_pos (show (0 : Int) < ((c :: r).length : Int) by have : 0 < (c :: r).length := Nat.succ_pos _; omega)]
   by_cases h2 : c.toNat = 48
   ·rw [if_pos (show (c.toNat : Int) = 48 by omega)]; simp [h1, h2]
   ·rw [if_neg (show ¬ (c.toNat : Int) = 48 by omega)]; simp [h1, h2]
  ·rw [if_neg (show ¬ (n : Int) > 1 by omega)]; simp [h1]
 rw [hmid]
 by_cases hbad : badN (c :: r) = true
 ·rw [if_pos hbad, if_pos hbad]; rfl
 ·rw [if_neg hbad, if_neg hbad]
  simp only [obind]
  have htk : (c :: r).take n = (c :: r).takeWhile isD := by rw [← hn, take_tw]
  have hdig : ∀ x ∈ (c :: r).take n, isD x = true := by rw [htk]; exact tw_digits _ _
  have hl := rnum_l30 K (c :: r) n hle hdig K 0 0 (by omega) (by omega) (by omega) (by omega)
  rw [List.drop_zero, htk] at hl
  have hl' : workflowref07_number.l30 K (c :: r) (n : Int) K 0 0 = _ := hl
  rw [hl']
  obtain ⟨g1, g2⟩ := pi_digits (l := (c :: r).takeWhile isD) (by intro e; rw [e] at hn; simp at hn; omega) (tw_digits _ _)
  by_cases hv : dval 0 ((c :: r).takeWhile isD) ≤ 9223372036854775807
  ·rw [if_pos hv, g1, if_pos (decide_eq_true hv), g2 hv]
  ·rw [if_neg hv, g1, if_neg (by simpa using hv)]
theorem one_ok {K : Nat} (hK2 : 1000 ≤ K) {s : List UInt8} (hne : s ≠ []) (hs : s.length < K) (hb : s.length + K < 9000000) : okO s (lexS s) (workflowref07_one K s) := by
 obtain ⟨c, r, rfl⟩ : ∃ c r, s = c :: r := by
  cases s with
  | nil => exact absurd rfl hne
  | cons c r => exact ⟨c, r, rfl⟩
 unfold workflowref07_one lexS
 rw [if_pos (show (0 : Int) < ((c :: r).length : Int) by have : 0 < (c :: r).length := Nat.succ_pos _; omega), show (c :: r).getD (Int.toNat 0) 0 = c from rfl, rletter_eq, Option.bind_some, rdigit_eq, Option.bind_some]
 simp only [show onHd isL (c :: r) = isL c from rfl, show onHd isD (c :: r) = isD c from rfl, show hd (c :: r) = (c.toNat : Int) from rfl]
 by_cases h1 : isL c = true
 ·rw [if_pos h1, if_pos h1]
  have hl := rword_l13 K (c :: r) K 0 (by simpa using hs) (by omega)
  rw [List.drop_zero, Nat.zero_add] at hl
  have hl' : workflowref07_one.l13 K (c :: r) K 0 = some ((((c :: r).takeWhile isW).length : Nat) : Int) := hl
  have hp : 0 < ((c :: r).takeWhile isW).length := tw_pos (show (isL c || isD c) = true by simp [h1])
  have hle := tw_le isW (c :: r)
  rw [hl', Option.bind_some, slc0, take_tw, rkeyword_eq hK2, Option.bind_some]
  unfold lexW
  by_cases h2 : 64 < ((c :: r).takeWhile isW).length
  ·rw [if_pos h2, if_pos (show (((c :: r).takeWhile isW).length : Int) > 64 by omega)]
   exact ⟨by decide, rfl⟩
  ·rw [if_neg h2, if_neg (show ¬ (((c :: r).takeWhile isW).length : Int) > 64 by omega), if_pos (show (0 : Int) ≤ (((c :: r).takeWhile isW).length : Int) ∧ (((c :: r).takeWhile isW).length : Int) ≤ ((c :: r).length : Int) by omega), dw_drop]
   by_cases h3 : isK ((c :: r).takeWhile isW) = true
   ·rw [if_pos h3, if_pos h3]; exact ⟨_, hp, hle, rfl, rfl⟩
   ·rw [if_neg h3, if_neg h3]; exact ⟨_, hp, hle, rfl, rfl⟩
 ·rw [if_neg h1, if_neg h1]
  by_cases h2 : isD c = true
  ·rw [if_pos h2, if_pos h2, rnumber_eq hs hb h2, Option.bind_some]
   unfold lexN
   have hp : 0 < ((c :: r).takeWhile isD).length := tw_pos h2
   have hle := tw_le isD (c :: r)
   by_cases h3 : badN (c :: r) = true
   ·rw [if_pos h3, if_pos h3]
    exact ⟨by decide, rfl⟩
   ·rw [if_neg h3, if_neg h3]
    by_cases h4 : piOk ((c :: r).takeWhile isD) = true
    ·rw [if_pos h4, if_pos h4, dw_drop]
     exact ⟨_, hp, hle, rfl, rfl⟩
    ·rw [if_neg h4, if_neg h4]
     exact ⟨by decide, rfl⟩
  ·rw [if_neg h2, if_neg h2]
   by_cases h3 : (c.toNat : Int) = 34
   ·rw [if_pos h3, if_pos h3]
    have hl := rlit_l9 K hK2 (c :: r) (by omega) K 1 [] (by simp; simp at hs; omega) (by simp) (by simp; simp at hb; omega)
    have hl' : okR (c :: r) 1 (litS [] r) (workflowref07_literal.l9 K (c :: r) K 1 []) := hl
    unfold workflowref07_literal
    rw [List.tail_cons]
    revert hl'
    unfold okR
    cases litS [] r with
    | error e =>
     rintro ⟨he, h | ⟨rfl, h⟩⟩
     ·rw [h]
      simp only [obind, Option.bind_some]
      rw [if_pos he]
      exact ⟨he, rfl⟩
     ·rw [h]
      simp only [obind, Option.bind_some]
      exact ⟨he, rfl⟩
    | ok p =>
     obtain ⟨t, rest⟩ := p
     rintro ⟨j, g1, g2, g3, g4⟩
     rw [g4]
     simp only [obind, Option.bind_some]
     rw [if_neg (show ¬ (0 : Int) ≠ 0 by decide)]
     exact ⟨j, by omega, g2, g3, rfl⟩
   ·rw [if_neg h3, if_neg h3]
    have hl := rsign_l82 K (c :: r) sgs (by decide) K 0 (by have : sgs.length = 22 := rfl; omega) (by omega)
    rw [List.drop_zero, find_sign _ hne] at hl
    have hl' : workflowref07_one.l82 K (c :: r) sgs K 0 = _ := hl
    unfold workflowref07_signs
    rw [Option.bind_some]
    show okO _ _ (obind (workflowref07_one.l82 K (c :: r) sgs K 0) _ _)
    rw [hl']
    by_cases h0 : signN (c :: r) = 0
    ·rw [if_pos h0, if_pos h0]
     exact ⟨by decide, rfl⟩
    ·rw [if_neg h0, if_neg h0]
     have hle := signN_le (c :: r)
     refine ⟨signN (c :: r), by omega, hle, rfl, ?_⟩
     simp only [obind, List.length_take]
     rw [Nat.min_eq_left hle]
end Go.Proofs.YtahpbjjfpbmaiaaDoor
