/- The law. -/
import Derived.Test.YtahpbjjfpbmaiaaDoorLwJ
set_option linter.unusedVariables false
set_option linter.unusedSimpArgs false
set_option maxHeartbeats 4000000
namespace Go.Proofs.YtahpbjjfpbmaiaaDoor
open Eng
def Sep (s : List UInt8) : Prop := s = [] ∨ ∃ r, s = 32 :: r
def Again (t : api_Token) : Prop := ∃ (c : UInt8) (w : List UInt8), wordS t = some (c :: w) ∧ isB c = false ∧ ∀ rest, Sep rest → lexS (c :: w ++ rest) = .ok (⟨t.Kind, 0, t.Text, t.Int⟩, rest)
theorem sep_tw {p : UInt8 → Bool} (hp : p 32 = false) {rest : List UInt8} (h : Sep rest) : rest.takeWhile p = [] ∧ rest.dropWhile p = rest ∧ onHd p rest = false := by
 rcases h with rfl | ⟨r, rfl⟩
 ·exact ⟨rfl, rfl, rfl⟩
 ·refine ⟨?_, ?_, hp⟩
  ·rw [List.takeWhile_cons, hp]; rfl
  ·rw [List.dropWhile_cons, hp]; rfl
theorem tw_app {p : UInt8 → Bool} (hp : p 32 = false) {rest w : List UInt8} (h : Sep rest) (hw : ∀ c ∈ w, p c = true) : (w ++ rest).takeWhile p = w ∧ (w ++ rest).dropWhile p = rest := by
 obtain ⟨h1, h2, _⟩ := sep_tw hp h
 rw [List.takeWhile_append_of_pos hw, List.dropWhile_append_of_pos hw, h1, h2, List.append_nil]
 exact ⟨rfl, rfl⟩
theorem again_word {s : List UInt8} (h1 : onHd isL s = true) (h2 : ¬ 64 < (s.takeWhile isW).length) : Again ⟨if isK (s.takeWhile isW) then 2 else 1, 0, s.takeWhile isW, 0⟩ := by
 cases s with
 | nil => cases h1
 | cons c r =>
  have hL : isL c = true := h1
  have hW : isW c = true := by unfold isW; rw [hL]; rfl
  have hB : isB c = false := by
   have := byte_lt c
   simp only [isL, isB, Bool.or_eq_true, Bool.and_eq_true, decide_eq_true_eq] at hL ⊢
   simp
   omega
  have htw : (c :: r).takeWhile isW = c :: r.takeWhile isW := by rw [List.takeWhile_cons, if_pos hW]
  refine ⟨c, r.takeWhile isW, ?_, hB, fun rest hr => ?_⟩
  ·rw [← htw]
   unfold wordS
   cases isK ((c :: r).takeWhile isW) <;> simp
  ·rw [← htw]
   have hall : ∀ x ∈ (c :: r).takeWhile isW, isW x = true := tw_digits _ _
   obtain ⟨e1, e2⟩ := tw_app (p := isW) (by decide) hr hall
   unfold lexS lexW
   rw [if_pos (show onHd isL ((c :: r).takeWhile isW ++ rest) = true by rw [htw]; exact hL), e1, e2, if_neg h2]
theorem ofNat48 : ∀ n : Fin 10, (UInt8.ofNat (48 + n.val)).toNat = 48 + n.val := by decide +kernel
theorem dec_digits : ∀ (n : Nat), ∀ c ∈ Lib.decDigits n, isD c = true := by
 intro n
 induction n using Nat.strongRecOn with
 | _ n ih =>
  intro c hc
  have hd : ∀ k, k < 10 → isD (UInt8.ofNat (48 + k)) = true := fun k hk => by
   have := ofNat48 ⟨k, hk⟩
   simp only at this
   unfold isD
   rw [this]
   simp
   omega
  by_cases h : n < 10
  ·rw [dec_small h, List.mem_singleton] at hc
   rw [hc]; exact hd n h
  ·rw [dec_big h, List.mem_append, List.mem_singleton] at hc
   rcases hc with hc | hc
   ·exact ih (n / 10) (by omega) c hc
   ·rw [hc]; exact hd _ (by omega)
theorem dval_snoc (c : UInt8) : ∀ (l : List UInt8) (acc : Nat), dval acc (l ++ [c]) = 10 * dval acc l + (c.toNat - 48)
 | [], acc => rfl
 | x :: r, acc => by
  rw [List.cons_append]
  unfold dval
  exact dval_snoc c r _
theorem dval_dec : ∀ (n : Nat), dval 0 (Lib.decDigits n) = n := by
 intro n
 induction n using Nat.strongRecOn with
 | _ n ih =>
  by_cases h : n < 10
  ·have := ofNat48 ⟨n, h⟩
   simp only at this
   rw [dec_small h]
   show dval (10 * 0 + ((UInt8.ofNat (48 + n)).toNat - 48)) [] = n
   rw [this]
   show 10 * 0 + (48 + n - 48) = n
   omega
  ·have := ofNat48 ⟨n % 10, by omega⟩
   simp only at this
   rw [dec_big h, dval_snoc, ih (n / 10) (by omega), this]
   omega
theorem dec_first : ∀ (n : Nat), ∃ c w, Lib.decDigits n = c :: w ∧ isD c = true ∧ (c.toNat = 48 → w = []) ∧ (0 < n → c.toNat ≠ 48) := by
 intro n
 induction n using Nat.strongRecOn with
 | _ n ih =>
  by_cases h : n < 10
  ·refine ⟨_, [], dec_small h, dec_digits n _ (by rw [dec_small h]; exact .head _), fun _ => rfl, fun h0 => ?_⟩
   have := ofNat48 ⟨n, h⟩
   simp only at this
   omega
  ·obtain ⟨c, w, h1, h2, h3, h4⟩ := ih (n / 10) (by omega)
   refine ⟨c, w ++ [UInt8.ofNat (48 + n % 10)], by rw [dec_big h, h1]; rfl, h2, fun hc => absurd hc (h4 (by omega)), fun _ => h4 (by omega)⟩
theorem again_num {n : Nat} (hn : n ≤ 9223372036854775807) : Again ⟨3, 0, [], (n : Int)⟩ := by
 obtain ⟨c, w, h1, h2, h3, h4⟩ := dec_first n
 have hit : Lib.itoa (n : Int) = c :: w := by
  unfold Lib.itoa
  rw [if_neg (by omega), Int.toNat_natCast, h1]
 have h2' : 48 ≤ c.toNat ∧ c.toNat ≤ 57 := by simpa [isD] using h2
 have hall := dec_digits n
 have hdv := dval_dec n
 rw [h1] at hall hdv
 have hL : isL c = false := by
  simp [isL]
  omega
 have hB : isB c = false := by
  simp [isB]
  omega
 refine ⟨c, w, ?_, hB, fun rest hr => ?_⟩
 ·unfold wordS
  rw [if_neg (by simp), if_pos rfl, hit]
 ·obtain ⟨e1, e2⟩ := tw_app (p := isD) (by decide) hr hall
  obtain ⟨g1, g2⟩ := pi_digits (l := c :: w) (by simp) hall
  have hb : badN (c :: w ++ rest) = false := by
   unfold badN
   rw [e1, e2, (sep_tw (p := isL) (by decide) hr).2.2]
   by_cases h48 : c.toNat = 48
   ·rw [h3 h48]; simp
   ·simp [onHd, h48]
  unfold lexS lexN
  rw [if_neg (show ¬ onHd isL (c :: w ++ rest) = true by show ¬ isL c = true; rw [hL]; decide), if_pos (show onHd isD (c :: w ++ rest) = true from h2), if_neg (by rw [hb]; decide), e1, e2, if_pos (by rw [g1, hdv]; exact decide_eq_true hn), g2 (by rw [hdv]; exact hn), hdv]
theorem again_text {s : List UInt8} (h : s.length ≤ 4096) : Again ⟨4, 0, s, 0⟩ := by
 refine ⟨34, s.flatMap enc ++ [34], ?_, by decide, fun rest hr => ?_⟩
 ·unfold wordS
  rw [if_neg (by simp), if_neg (by simp), if_pos rfl]
  rfl
 ·exact lex_quo h
theorem again_sign {s : List UInt8} (hn : signN s ≠ 0) : Again ⟨5, 0, s.take (signN s), 0⟩ := by
 cases s with
 | nil => exact absurd rfl hn
 | cons c r =>
  have hdef : ∀ r', signN (c :: r') = (if c.toNat ∈ sg2 then (if hd r' = 61 then 2 else if c.toNat ≠ 33 then 1 else 0) else if c.toNat ∈ sg1 then 1 else 0) := fun _ => rfl
  have hc : c.toNat ∈ sg1 ∨ c.toNat ∈ sg2 := by
   rw [hdef] at hn
   by_cases h2 : c.toNat ∈ sg2
   ·exact .inr h2
   ·by_cases h1 : c.toNat ∈ sg1
    ·exact .inl h1
    ·rw [if_neg h2, if_neg h1] at hn; exact absurd rfl hn
  have hv : isL c = false ∧ isD c = false ∧ isB c = false ∧ c.toNat ≠ 34 := by
   simp only [sg1, sg2, List.mem_cons, List.not_mem_nil, or_false] at hc
   simp [isL, isD, isB]
   omega
  obtain ⟨v1, v2, v3, v4⟩ := hv
  -- two bytes or one
  have main : ∀ w' : List UInt8, (c :: r).take (signN (c :: r)) = c :: w' → (∀ rest, Sep rest → signN (c :: w' ++ rest) = (c :: w').length) → Again ⟨5, 0, (c :: r).take (signN (c :: r)), 0⟩ := fun w' ht hs => by
   refine ⟨c, w', ?_, v3, fun rest hr => ?_⟩
   ·unfold wordS
    rw [if_pos (by simp), ht]
   ·have e := hs rest hr
    unfold lexS
    rw [if_neg (show ¬ onHd isL (c :: w' ++ rest) = true by show ¬ isL c = true; rw [v1]; decide), if_neg (show ¬ onHd isD (c :: w' ++ rest) = true by show ¬ isD c = true; rw [v2]; decide), if_neg (show ¬ hd (c :: w' ++ rest) = 34 by show ¬ (c.toNat : Int) = 34; omega), e, if_neg (by simp), List.take_left', List.drop_left', ht]
    ·rfl
    ·rfl
  by_cases h2 : c.toNat ∈ sg2
  ·by_cases h61 : hd r = 61
   ·cases r with
    | nil => cases h61
    | cons d r2 =>
     have hd61 : d.toNat = 61 := by have : (d.toNat : Int) = 61 := h61; omega
     refine main [d] ?_ fun rest hr => ?_
     ·rw [hdef, if_pos h2, if_pos h61]; rfl
     ·show signN (c :: (d :: rest)) = 2
      rw [hdef, if_pos h2, if_pos (show hd (d :: rest) = 61 from h61)]
   ·by_cases h33 : c.toNat ≠ 33
    ·refine main [] ?_ fun rest hr => ?_
     ·rw [hdef, if_pos h2, if_neg h61, if_pos h33]; rfl
     ·show signN (c :: rest) = 1
      rw [hdef, if_pos h2, if_neg (by rcases hr with rfl | ⟨r', rfl⟩ <;> simp [hd]), if_pos h33]
    ·rw [hdef, if_pos h2, if_neg h61, if_neg h33] at hn
     exact absurd rfl hn
  ·by_cases h1 : c.toNat ∈ sg1
   ·refine main [] ?_ fun rest hr => ?_
    ·rw [hdef, if_neg h2, if_pos h1]; rfl
    ·show signN (c :: rest) = 1
     rw [hdef, if_neg h2, if_pos h1]
   ·rw [hdef, if_neg h2, if_neg h1] at hn
    exact absurd rfl hn
theorem litS_le (acc s : List UInt8) : ∀ t r, litS acc s = .ok (t, r) → t.length ≤ 4096 := by
 fun_induction litS acc s <;> intro t r h
 all_goals first | cases h; done | (cases h; omega) | (rename_i ih; exact ih t r h)
def Good (t : api_Token) : Prop := Again t ∧ Fine t
theorem lex_good {s rest : List UInt8} {t : api_Token} (h : lexS s = .ok (t, rest)) : Good t := by
 unfold lexS at h
 by_cases h1 : onHd isL s = true
 ·rw [if_pos h1] at h
  unfold lexW at h
  by_cases h2 : 64 < (s.takeWhile isW).length
  ·rw [if_pos h2] at h; cases h
  ·rw [if_neg h2] at h
   cases h
   exact ⟨again_word h1 h2, (show (s.takeWhile isW).length ≤ 5000 by omega), by show (-9223372036854775808 : Int) ≤ 0; decide, by show (0 : Int) ≤ 9223372036854775807; decide⟩
 ·rw [if_neg h1] at h
  by_cases h2 : onHd isD s = true
  ·rw [if_pos h2] at h
   unfold lexN at h
   by_cases h3 : badN s = true
   ·rw [if_pos h3] at h; cases h
   ·rw [if_neg h3] at h
    by_cases h4 : piOk (s.takeWhile isD) = true
    ·rw [if_pos h4] at h
     cases h
     have hne : s.takeWhile isD ≠ [] := by
      have := tw_pos h2
      intro h0; rw [h0] at this; exact absurd this (by simp)
     obtain ⟨g1, g2⟩ := pi_digits hne (tw_digits s isD)
     rw [g1] at h4
     have h4 := of_decide_eq_true h4
     rw [g2 h4]
     exact ⟨again_num h4, (show 0 ≤ 5000 by decide), by show (-9223372036854775808 : Int) ≤ ((dval 0 (s.takeWhile isD) : Nat) : Int); omega, by show ((dval 0 (s.takeWhile isD) : Nat) : Int) ≤ (9223372036854775807 : Int); omega⟩
    ·rw [if_neg h4] at h; cases h
  ·rw [if_neg h2] at h
   by_cases h3 : hd s = 34
   ·rw [if_pos h3] at h
    cases hl : litS [] s.tail with
    | error e => rw [hl] at h; cases h
    | ok p =>
     obtain ⟨x, y⟩ := p
     rw [hl] at h
     cases h
     have := litS_le _ _ _ _ hl
     exact ⟨again_text this, (show x.length ≤ 5000 by omega), by show (-9223372036854775808 : Int) ≤ 0; decide, by show (0 : Int) ≤ 9223372036854775807; decide⟩
   ·rw [if_neg h3] at h
    by_cases h4 : signN s = 0
    ·rw [if_pos h4] at h; cases h
    ·rw [if_neg h4] at h
     cases h
     have h2 : signN s ≤ 2 := by
      cases s with
      | nil => simp [signN]
      | cons c r =>
       rw [show signN (c :: r) = (if c.toNat ∈ sg2 then (if hd r = 61 then 2 else if c.toNat ≠ 33 then 1 else 0) else if c.toNat ∈ sg1 then 1 else 0) from rfl]
       repeat' split
       all_goals omega
     exact ⟨again_sign h4, (show (s.take (signN s)).length ≤ 5000 by rw [List.length_take]; omega), by show (-9223372036854775808 : Int) ≤ 0; decide, by show (0 : Int) ≤ 9223372036854775807; decide⟩
theorem scan_good : ∀ (f : Nat) (s : List UInt8) (i : Nat) (acc l : List api_Token), scanS f s i acc = .ok l → (∀ t ∈ acc, Good t) → ∃ l1 n, l = l1 ++ [⟨0, n, [], 0⟩] ∧ ∀ t ∈ l1, Good t
 | 0, s, i, acc, l, h, _ => by cases h
 | f + 1, s, i, acc, l, h, ha => by
  unfold scanS at h
  cases hs : s.dropWhile isB with
  | nil =>
   rw [hs] at h
   cases h
   exact ⟨acc, _, rfl, ha⟩
  | cons c r =>
   rw [hs] at h
   simp only at h
   cases hl : lexS (c :: r) with
   | error e => rw [hl] at h; cases h
   | ok p =>
    obtain ⟨t, rest⟩ := p
    rw [hl] at h
    refine scan_good f rest _ _ l h fun x hx => ?_
    rcases List.mem_append.1 hx with hx | hx
    ·exact ha x hx
    ·rw [List.mem_singleton] at hx
     rw [hx]
     have g : Good t := lex_good hl
     exact ⟨g.1, g.2⟩
def key (t : api_Token) : Int × List UInt8 × Int := (t.Kind, t.Text, t.Int)
theorem tail_cons (w : List UInt8) (ws : List (List UInt8)) : Lib.joinTail [32] (w :: ws) = 32 :: (w ++ Lib.joinTail [32] ws) := by simp [Lib.joinTail]
theorem tail_sep (ws : List (List UInt8)) : Sep (Lib.joinTail [32] ws) := by
 cases ws with
 | nil => exact .inl rfl
 | cons w r => exact .inr ⟨_, tail_cons w r⟩
theorem scan_word {t : api_Token} {c : UInt8} {w rest : List UInt8} (f i : Nat) (acc : List api_Token) (hB : isB c = false) (hl : lexS (c :: w ++ rest) = .ok (⟨t.Kind, 0, t.Text, t.Int⟩, rest)) :
  ∃ j a, scanS (f + 1) (c :: w ++ rest) i acc = scanS f rest j (acc ++ [⟨t.Kind, a, t.Text, t.Int⟩]) := by
 refine ⟨i + (c :: w ++ rest).length - rest.length, ((i + ((c :: w ++ rest).takeWhile isB).length : Nat) : Int), ?_⟩
 conv => lhs; unfold scanS
 rw [List.cons_append] at hl ⊢
 rw [List.dropWhile_cons_of_neg (by rw [hB]; decide)]
 simp only [hl]
theorem scan_tail : ∀ (l : List api_Token), (∀ t ∈ l, Again t) → ∀ (f i : Nat) (acc : List api_Token), (Lib.joinTail [32] (l.filterMap wordS)).length < f →
  ∃ l2 n, scanS f (Lib.joinTail [32] (l.filterMap wordS)) i acc = .ok (acc ++ l2 ++ [⟨0, n, [], 0⟩]) ∧ l2.map key = l.map key
 | _, _, 0, _, _, h => by omega
 | [], _, f + 1, i, acc, _ => ⟨[], _, by rw [List.append_nil]; rfl, rfl⟩
 | t :: l, h, f + 1, i, acc, hf => by
  obtain ⟨c, w, hw, hB, hx⟩ := h t (.head _)
  rw [List.filterMap_cons, hw] at hf ⊢
  simp only at hf ⊢
  rw [tail_cons] at hf ⊢
  rw [scanS_blank _ _ _ _ _ (by decide)]
  obtain ⟨j, a, e⟩ := scan_word (t := t) f (i + 1) acc hB (hx _ (tail_sep _))
  rw [e]
  obtain ⟨l2, n, e2, e3⟩ := scan_tail l (fun x hx => h x (.tail _ hx)) f j (acc ++ [⟨t.Kind, a, t.Text, t.Int⟩]) (by rw [List.length_cons, List.length_append, List.length_cons] at hf; omega)
  refine ⟨⟨t.Kind, a, t.Text, t.Int⟩ :: l2, n, ?_, ?_⟩
  ·rw [e2]; simp
  ·rw [List.map_cons, List.map_cons, e3]; rfl
theorem scan_again (l : List api_Token) (h : ∀ t ∈ l, Again t) (f : Nat) (hf : (Lib.join (l.filterMap wordS) [32]).length < f) :
  ∃ l2 n, scanS f (Lib.join (l.filterMap wordS) [32]) 0 [] = .ok (l2 ++ [⟨0, n, [], 0⟩]) ∧ l2.map key = l.map key := by
 cases f with
 | zero => omega
 | succ f =>
  cases l with
  | nil => exact ⟨[], _, rfl, rfl⟩
  | cons t l =>
   obtain ⟨c, w, hw, hB, hx⟩ := h t (.head _)
   rw [List.filterMap_cons, hw] at hf ⊢
   simp only at hf ⊢
   rw [Lib.join_cons] at hf ⊢
   obtain ⟨j, a, e⟩ := scan_word (t := t) f 0 [] hB (hx _ (tail_sep _))
   rw [e]
   obtain ⟨l2, n, e2, e3⟩ := scan_tail l (fun x hx => h x (.tail _ hx)) f j ([] ++ [⟨t.Kind, a, t.Text, t.Int⟩]) (by rw [List.length_append, List.length_cons] at hf; omega)
   refine ⟨⟨t.Kind, a, t.Text, t.Int⟩ :: l2, n, ?_, ?_⟩
   ·rw [e2]; simp
   ·rw [List.map_cons, List.map_cons, e3]; rfl
theorem word_key (l : List api_Token) : l.filterMap wordS = (l.map key).filterMap fun x => wordS ⟨x.1, 0, x.2.1, x.2.2⟩ := by
 rw [List.filterMap_map]
 rfl
theorem spell_key {l m : List api_Token} (h : l.map key = m.map key) : spellS l = spellS m := by
 unfold spellS
 rw [word_key l, word_key m, h]
theorem law_again (p0 : List UInt8) : workflowlaw07_TokenAgain 100000 p0 = some true := by
 unfold workflowlaw07_TokenAgain
 rw [works_ok]
 by_cases h : (p0.length : Int) > 400
 ·rw [if_pos h]; rfl
 ·have hts : token_Scan 100000 p0 = some (ans (scanS (p0.length + 1) p0 0 [])) := tscan_eq (by omega) (by omega) (by omega)
  have hrs : workflowref07_Scan 100000 p0 = some (ans (scanS (p0.length + 1) p0 0 [])) := rscan_eq (by omega) (by omega) (by omega)
  have hlen := @ans_len p0.length p0
  rw [if_neg h, hts, hrs]
  cases hq : scanS (p0.length + 1) p0 0 [] with
  | error p =>
   obtain ⟨a, e⟩ := p
   obtain ⟨he, _, _⟩ := scanS_err _ _ _ _ _ _ (by omega) (by omega) hq
   simp only [ans, Option.bind_some]
   rw [if_pos he, if_pos trivial]
  | ok l =>
   rw [hq] at hlen
   simp only [ans] at hlen
   obtain ⟨l1, n, rfl, hg⟩ := scan_good _ _ _ _ _ hq fun t ht => by cases ht
   have hf : ∀ t ∈ l1 ++ [(⟨0, n, [], 0⟩ : api_Token)], Fine t := fun t ht => by
    rcases List.mem_append.1 ht with ht | ht
    ·exact (hg t ht).2
    ·rw [List.mem_singleton] at ht
     rw [ht]
     exact ⟨(show 0 ≤ 5000 by decide), by show (-9223372036854775808 : Int) ≤ 0; decide, by show (0 : Int) ≤ 9223372036854775807; decide⟩
   have hsp : spellS (l1 ++ [(⟨0, n, [], 0⟩ : api_Token)]) = Lib.join (l1.filterMap wordS) [32] := by
    unfold spellS
    rw [List.filterMap_append]
    simp [wordS]
   simp only [ans, Option.bind_some]
   rw [if_neg (show ¬ (0 : Int) ≠ 0 by decide), tspell_eq (by omega) (by omega) hf (by omega), Option.bind_some]
   by_cases hbig : ((spellS (l1 ++ [(⟨0, n, [], 0⟩ : api_Token)])).length : Int) > 16384
   ·rw [if_pos hbig]
   ·obtain ⟨l2, m, e1, e2⟩ := scan_again l1 (fun t ht => (hg t ht).1) ((spellS (l1 ++ [(⟨0, n, [], 0⟩ : api_Token)])).length + 1) (by rw [hsp]; omega)
    rw [← hsp] at e1
    have hk : (l2 ++ [(⟨0, m, [], 0⟩ : api_Token)]).map key = (l1 ++ [(⟨0, n, [], 0⟩ : api_Token)]).map key := by
     rw [List.map_append, List.map_append, e2]
     rfl
    have hll : (l1 ++ [(⟨0, n, [], 0⟩ : api_Token)]).length = (l2 ++ [(⟨0, m, [], 0⟩ : api_Token)]).length := by
     have := congrArg List.length hk
     simpa using this.symm
    have hf2 : ∀ t ∈ l2 ++ [(⟨0, m, [], 0⟩ : api_Token)], Fine t := fun t ht => by
     have : key t ∈ (l1 ++ [(⟨0, n, [], 0⟩ : api_Token)]).map key := by rw [← hk]; exact List.mem_map_of_mem ht
     obtain ⟨t', ht', e⟩ := List.mem_map.1 this
     have hf' := hf t' ht'
     simp only [key, Prod.mk.injEq] at e
     unfold Fine at hf' ⊢
     rw [← e.2.1, ← e.2.2]
     exact hf'
    rw [if_neg hbig, tscan_eq (by omega) (by omega) (by omega), e1]
    simp only [ans, Option.bind_some]
    rw [if_pos trivial, same_eq hll (fun i h1 h2 => by
     have e : ((l2 ++ [(⟨0, m, [], 0⟩ : api_Token)]).map key)[i]'(by rw [List.length_map]; exact h2) = ((l1 ++ [(⟨0, n, [], 0⟩ : api_Token)]).map key)[i]'(by rw [List.length_map]; exact h1) := by simp only [hk]
     rw [List.getElem_map, List.getElem_map] at e
     simp only [key, Prod.mk.injEq] at e
     exact ⟨e.1.symm, e.2.1.symm, e.2.2.symm⟩) (by omega) (by omega), Option.bind_some, if_pos rfl, tspell_eq (by omega) (by omega) hf2 (by omega), Option.bind_some, if_pos (spell_key hk)]
end Go.Proofs.YtahpbjjfpbmaiaaDoor
