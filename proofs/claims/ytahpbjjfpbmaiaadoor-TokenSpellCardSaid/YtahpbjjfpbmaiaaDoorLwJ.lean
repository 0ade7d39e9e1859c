/- The law. -/
import Derived.Test.YtahpbjjfpbmaiaaDoorLwI
set_option linter.unusedVariables false
set_option linter.unusedSimpArgs false
set_option maxHeartbeats 4000000
namespace Go.Proofs.YtahpbjjfpbmaiaaDoor
open Eng
theorem dig_eq : ∀ n : Fin 10, slc ([48, 49, 50, 51, 52, 53, 54, 55, 56, 57] : List UInt8) ((n.val : Nat) : Int) ((n.val + 1 : Nat) : Int) = [UInt8.ofNat (48 + n.val)] := by decide +kernel
theorem dec_small {u : Nat} (h : u < 10) : Lib.decDigits u = [UInt8.ofNat (48 + u)] := by rw [Lib.decDigits, dif_pos h]
theorem dec_big {u : Nat} (h : ¬ u < 10) : Lib.decDigits u = Lib.decDigits (u / 10) ++ [UInt8.ofNat (48 + u % 10)] := by rw [Lib.decDigits, dif_neg h]
theorem decimal_l9 (K : Nat) : ∀ (j k : Nat) (u : Nat) (n : Int) (acc : List UInt8), (n = (u : Int) ∨ n = -(u : Int)) → u ≤ 9223372036854775808 → (n = (u : Int) → u ≤ 9223372036854775807) → u < 10 ^ (j + 1) → j + 1 ≤ k → acc.length + j < 1000 →
  workflowref07_decimal.l9 K k acc n = some (Lib.decDigits u ++ acc)
 | j, 0, u, n, acc, _, _, _, _, h, _ => by omega
 | j, k + 1, u, n, acc, hn, hu, hu2, hj, hk, ha => by
  have hm : Int.tmod n 10 = ((u % 10 : Nat) : Int) ∨ Int.tmod n 10 = -((u % 10 : Nat) : Int) := by
   rcases hn with rfl | rfl
   ·exact .inl (Int.ofNat_tmod u 10).symm
   ·right; rw [Int.neg_tmod]; congr 1
  have hd : (n = (u : Int) → Int.tdiv n 10 = ((u / 10 : Nat) : Int)) ∧ (n = -(u : Int) → Int.tdiv n 10 = -((u / 10 : Nat) : Int)) := by
   refine ⟨fun h => ?_, fun h => ?_⟩
   ·rw [h]; exact (Int.ofNat_tdiv u 10).symm
   ·rw [h, Int.neg_tdiv]; congr 1
  have hdr : -(u / 10 : Nat) ≤ Int.tdiv n 10 ∧ Int.tdiv n 10 ≤ (u / 10 : Nat) ∧ (Int.tdiv n 10 = 0 ↔ u < 10) := by
   rcases hn with h | h
   ·have := hd.1 h; omega
   ·have := hd.2 h; omega
  unfold workflowref07_decimal.l9
  have hx : (if Int.tmod n 10 < 0 then some (IntKind.i64.wrap (0 - Int.tmod n 10)) else some (Int.tmod n 10) : Option Int) = some ((u % 10 : Nat) : Int) := by
   rcases hm with h | h
   ·rw [h, if_neg (by omega)]
   ·by_cases h0 : Int.tmod n 10 < 0
    ·rw [if_pos h0, Eng.wrap_small (by omega) (by omega)]; congr 1; omega
    ·rw [if_neg h0]; congr 1; omega
  have hw1 : IntKind.i64.wrap (((u % 10 : Nat) : Int) + 1) = ((u % 10 + 1 : Nat) : Int) := wrapS (by omega)
  have hw2 : IntKind.i64.wrap (Int.tdiv n 10) = Int.tdiv n 10 := Eng.wrap_small (by omega) (by omega)
  have hs := dig_eq ⟨u % 10, by omega⟩
  simp only at hs
  rw [hx, Option.bind_some, hw1, hw2, hs, if_pos (by simp only [List.length_cons, List.length_nil]; omega), if_pos (by simp only [List.length_cons, List.length_nil]; omega)]
  by_cases h10 : u < 10
  ·rw [if_pos (hdr.2.2.2 h10), dec_small h10, Nat.mod_eq_of_lt h10]
  ·rw [if_neg (fun h => h10 (hdr.2.2.1 h)), dec_big h10]
   cases j with
   | zero => omega
   | succ j =>
    rw [Nat.pow_succ] at hj
    rw [decimal_l9 K j k (u / 10) (Int.tdiv n 10) _ (hn.elim (fun h => .inl (hd.1 h)) (fun h => .inr (hd.2 h))) (by omega) (by omega) (by omega) (by omega) (by simp only [List.length_append, List.length_cons, List.length_nil]; omega), List.append_assoc]
theorem dec_len : ∀ (j u : Nat), u < 10 ^ (j + 1) → (Lib.decDigits u).length ≤ j + 1
 | 0, u, h => by rw [dec_small (by omega)]; simp
 | j + 1, u, h => by
  by_cases h10 : u < 10
  ·rw [dec_small h10]; simp
  ·rw [Nat.pow_succ] at h
   have := dec_len j (u / 10) (by omega)
   rw [dec_big h10, List.length_append, List.length_cons, List.length_nil]; omega
theorem itoa_len {n : Int} (h1 : -9223372036854775808 ≤ n) (h2 : n ≤ 9223372036854775807) : (Lib.itoa n).length ≤ 21 := by
 unfold Lib.itoa
 split
 ·have := dec_len 19 n.natAbs (by omega)
  rw [List.length_cons]; omega
 ·have := dec_len 19 n.toNat (by omega)
  omega
theorem decimal_eq {K : Nat} (hK : 100 ≤ K) {n : Int} (h1 : -9223372036854775808 ≤ n) (h2 : n ≤ 9223372036854775807) : workflowref07_decimal K n = some (Lib.itoa n) := by
 have hl := decimal_l9 K 19 K n.natAbs n [] (by omega) (by omega) (by omega) (by omega) (by omega) (by simp)
 have hlen := dec_len 19 n.natAbs (by omega)
 unfold workflowref07_decimal Lib.itoa
 rw [hl, Option.bind_some, List.append_nil]
 by_cases h : n < 0
 ·rw [if_pos h, if_pos (by simp only [List.length_cons, List.length_nil]; omega), if_pos h]; rfl
 ·rw [if_neg h, if_neg h, show n.natAbs = n.toNat by omega]
def wordS (t : api_Token) : Option (List UInt8) :=
 if t.Kind = 1 ∨ t.Kind = 2 ∨ t.Kind = 5 then some t.Text else if t.Kind = 3 then some (Lib.itoa t.Int) else if t.Kind = 4 then some (quo t.Text) else none
def spellS (l : List api_Token) : List UInt8 := Lib.join (l.filterMap wordS) [32]
def Fine (t : api_Token) : Prop := t.Text.length ≤ 5000 ∧ -9223372036854775808 ≤ t.Int ∧ t.Int ≤ 9223372036854775807
theorem wordS_len {t : api_Token} {w : List UInt8} (h : Fine t) (hw : wordS t = some w) : w.length ≤ 20002 := by
 obtain ⟨h1, h2, h3⟩ := h
 unfold wordS at hw
 split at hw
 ·cases hw; omega
 ·split at hw
  ·cases hw; have := itoa_len h2 h3; omega
  ·split at hw
   ·cases hw
    have := flat_len t.Text
    unfold quo
    rw [List.length_cons, List.length_append, List.length_cons, List.length_nil]; omega
   ·cases hw
theorem kinds_eq (n : Int) : (if n = 1 then some (decide (n = 1)) else (if n = 2 then some (decide (n = 2)) else some (decide (n = 5))) : Option Bool) = some (decide (n = 1 ∨ n = 2 ∨ n = 5)) := by
 by_cases h1 : n = 1
 ·simp [h1]
 ·by_cases h2 : n = 2
  ·simp [h2]
  ·simp [h1, h2]
theorem getT {p0 : List api_Token} {i : Nat} {c : api_Token} {r : List api_Token} (h : p0.drop i = c :: r) : p0.getD (Int.toNat (i : Int)) z_api_Token = c := by
 rw [Int.toNat_natCast]; exact (getD_drop _ _ c r _ h).1
theorem tspell_l9 {K : Nat} (hK : 6000 < K) (hK2 : K < 8000000) (p0 : List api_Token) (hf : ∀ t ∈ p0, Fine t) : ∀ (k i : Nat) (acc : List (List UInt8)), (p0.drop i).length < k → i + k < 9000000 → acc.length + (p0.drop i).length < 1000000 →
  token_Spell.l9 K p0 k (i : Int) acc = some (acc ++ (p0.drop i).filterMap wordS)
 | 0, i, acc, h, _, _ => by omega
 | k + 1, i, acc, h, hk, ha => by
  unfold token_Spell.l9
  cases hs : p0.drop i with
  | nil =>
   have : p0.length ≤ i := List.drop_eq_nil_iff.1 hs
   rw [if_neg (by omega)]; simp
  | cons c r =>
   obtain ⟨_, hlt, hr⟩ := getD_drop _ _ c r c hs
   have hc : Fine c := hf c (List.mem_of_mem_drop (by rw [hs]; exact .head _))
   rw [hs] at h ha
   simp only [List.length_cons] at h ha
   have ih : ∀ x : List (List UInt8), x.length ≤ 1 → token_Spell.l9 K p0 k ((i + 1 : Nat) : Int) (acc ++ x) = some (acc ++ x ++ r.filterMap wordS) := fun x hx => by
    rw [tspell_l9 hK hK2 p0 hf k (i + 1) _ (by rw [hr]; omega) (by omega) (by rw [hr, List.length_append]; omega), hr]
   have hz : ∀ w : List UInt8, (acc.length + ([w] : List (List UInt8)).length) * 16 ≤ 140737488355328 := fun w => by simp only [List.length_cons, List.length_nil]; omega
   rw [if_pos (show (i : Int) < (p0.length : Int) by omega), if_pos (show (0 : Int) ≤ (i : Int) ∧ (i : Int) < (p0.length : Int) by omega), getT hs, wrapS (show i < 9223372036854775807 by omega), kinds_eq, Option.bind_some]
   have key : ∀ w : List UInt8, wordS c = some w → token_Spell.l9 K p0 k ((i + 1 : Nat) : Int) (acc ++ [w]) = some (acc ++ (c :: r).filterMap wordS) := fun w hw => by
    rw [ih _ (by simp), List.filterMap_cons, hw, List.append_assoc]; rfl
   by_cases hk1 : c.Kind = 1 ∨ c.Kind = 2 ∨ c.Kind = 5
   ·have hw : wordS c = some c.Text := by unfold wordS; rw [if_pos hk1]
    rw [if_pos (decide_eq_true hk1), if_pos (hz _), key _ hw]
   ·rw [if_neg (show ¬ (decide (c.Kind = 1 ∨ c.Kind = 2 ∨ c.Kind = 5) = true) by simpa using hk1)]
    by_cases hk3 : c.Kind = 3
    ·have hw : wordS c = some (Lib.itoa c.Int) := by unfold wordS; rw [if_neg hk1, if_pos hk3]
     rw [if_pos hk3, if_pos (show (-9223372036854775808 : Int) ≤ c.Int ∧ c.Int ≤ 9223372036854775807 from hc.2), if_pos (hz _), key _ hw]
    ·rw [if_neg hk3]
     by_cases hk4 : c.Kind = 4
     ·have hw : wordS c = some (quo c.Text) := by unfold wordS; rw [if_neg hk1, if_neg hk3, if_pos hk4]
      rw [if_pos hk4, quote_eq (by have := hc.1; omega) (by have := hc.1; omega) hK2, Option.bind_some, if_pos (hz _), key _ hw]
     ·have hw : wordS c = none := by unfold wordS; rw [if_neg hk1, if_neg hk3, if_neg hk4]
      have := ih [] (by simp)
      rw [List.append_nil] at this
      rw [if_neg hk4, this, List.filterMap_cons, hw]
theorem lens_le : ∀ (ws : List (List UInt8)), (∀ w ∈ ws, w.length ≤ 20002) → Lib.lens ws ≤ 20002 * ws.length
 | [], _ => by simp [Lib.lens]
 | w :: r, h => by
  have h1 := h w (.head _)
  have h2 := lens_le r fun x hx => h x (.tail _ hx)
  have e : Lib.lens (w :: r) = w.length + Lib.lens r := by simp [Lib.lens]
  rw [e, List.length_cons]; omega
theorem words_len {l : List api_Token} (hf : ∀ t ∈ l, Fine t) : ∀ w ∈ l.filterMap wordS, w.length ≤ 20002 := fun w hw => by
 obtain ⟨t, ht, hw⟩ := List.mem_filterMap.1 hw
 exact wordS_len (hf t ht) hw
theorem spellS_len {l : List api_Token} (hf : ∀ t ∈ l, Fine t) : (spellS l).length ≤ 20003 * l.length := by
 have hw := words_len hf
 have hn := List.length_filterMap_le wordS l
 unfold spellS
 cases he : l.filterMap wordS with
 | nil => simp [Lib.join_nil]
 | cons x r =>
  rw [he] at hw hn
  have := lens_le _ hw
  rw [Lib.join_length]
  simp only [List.length_cons, List.length_nil] at this hn ⊢
  omega
theorem tspell_eq {K : Nat} (hK : 6000 < K) (hK2 : K < 8000000) {l : List api_Token} (hf : ∀ t ∈ l, Fine t) (hl : l.length ≤ 1000) : token_Spell K l = some (spellS l) := by
 have h := tspell_l9 hK hK2 l hf K 0 [] (by simp; omega) (by omega) (by simp; omega)
 have h' : token_Spell.l9 K l K 0 [] = some (l.filterMap wordS) := by simpa using h
 have hn := List.length_filterMap_le wordS l
 have hs := spellS_len hf
 unfold token_Spell
 rw [h', Option.bind_some]
 exact if_pos ⟨by omega, by have : (Lib.join (l.filterMap wordS) [32]).length = (spellS l).length := rfl; omega⟩
def tlS (b : Bool) (ws : List (List UInt8)) : List UInt8 := if b = true then Lib.join ws [32] else Lib.joinTail [32] ws
theorem tlS_nil (b : Bool) : tlS b [] = [] := by cases b <;> rfl
theorem tlS_cons (b : Bool) (w : List UInt8) (r : List (List UInt8)) : tlS b (w :: r) = (if b = true then w else [32] ++ w) ++ tlS false r := by
 cases b
 ·simp [tlS, Lib.joinTail]
 ·simp [tlS, Lib.join_cons]
theorem add_eq {F : List UInt8 → Bool → Option (List UInt8)} {acc w : List UInt8} {b : Bool} (h : acc.length + w.length < 9000000000) :
  (if b = true then (if acc.length + w.length ≤ 9223372036854775807 then F (acc ++ w) false else none) else (if acc.length + ([32] : List UInt8).length ≤ 9223372036854775807 then (if (acc ++ ([32] : List UInt8)).length + w.length ≤ 9223372036854775807 then F ((acc ++ ([32] : List UInt8)) ++ w) false else none) else none)) = F (acc ++ (if b = true then w else [32] ++ w)) false := by
 cases b
 ·rw [if_neg (show ¬ (false = true) by decide), if_pos (show acc.length + ([32] : List UInt8).length ≤ 9223372036854775807 by simp only [List.length_cons, List.length_nil]; omega), if_pos (show (acc ++ ([32] : List UInt8)).length + w.length ≤ 9223372036854775807 by simp only [List.length_append, List.length_cons, List.length_nil]; omega), if_neg (show ¬ (false = true) by decide), List.append_assoc]
 ·rw [if_pos rfl, if_pos (by omega), if_pos rfl]
theorem rspell_l11 {K : Nat} (hK : 6000 < K) (hK2 : K < 8000000) (p0 : List api_Token) (hf : ∀ t ∈ p0, Fine t) : ∀ (k i : Nat) (acc : List UInt8) (b : Bool), (p0.drop i).length < k → i + k < 9000000 → acc.length + 21000 * (p0.drop i).length < 8000000000 →
  workflowref07_Spell.l11 K p0 k acc b (i : Int) = some (acc ++ tlS b ((p0.drop i).filterMap wordS))
 | 0, i, acc, b, h, _, _ => by omega
 | k + 1, i, acc, b, h, hk, ha => by
  unfold workflowref07_Spell.l11
  cases hs : p0.drop i with
  | nil =>
   have : p0.length ≤ i := List.drop_eq_nil_iff.1 hs
   rw [if_neg (by omega), List.filterMap_nil, tlS_nil, List.append_nil]
  | cons c r =>
   obtain ⟨_, hlt, hr⟩ := getD_drop _ _ c r c hs
   have hc : Fine c := hf c (List.mem_of_mem_drop (by rw [hs]; exact .head _))
   rw [hs] at h ha
   simp only [List.length_cons] at h ha
   have ih : ∀ (x : List UInt8) (b' : Bool), x.length ≤ 20003 → workflowref07_Spell.l11 K p0 k (acc ++ x) b' ((i + 1 : Nat) : Int) = some (acc ++ x ++ tlS b' (r.filterMap wordS)) := fun x b' hx => by
    rw [rspell_l11 hK hK2 p0 hf k (i + 1) _ b' (by rw [hr]; omega) (by omega) (by rw [hr, List.length_append]; omega), hr]
   have key : ∀ w : List UInt8, wordS c = some w → workflowref07_Spell.l11 K p0 k (acc ++ (if b = true then w else [32] ++ w)) false ((i + 1 : Nat) : Int) = some (acc ++ tlS b ((c :: r).filterMap wordS)) := fun w hw => by
    have hwl := wordS_len hc hw
    rw [ih _ _ (by cases b <;> simp <;> omega), List.filterMap_cons, hw, tlS_cons, List.append_assoc]
   have hal : ∀ w : List UInt8, wordS c = some w → acc.length + w.length < 9000000000 := fun w hw => by have := wordS_len hc hw; omega
   rw [if_pos (show (i : Int) < (p0.length : Int) by omega), if_pos (show (0 : Int) ≤ (i : Int) ∧ (i : Int) < (p0.length : Int) by omega), getT hs, wrapS (show i < 9223372036854775807 by omega), kinds_eq, Option.bind_some]
   by_cases hk1 : c.Kind = 1 ∨ c.Kind = 2 ∨ c.Kind = 5
   ·have hw : wordS c = some c.Text := by unfold wordS; rw [if_pos hk1]
    rw [if_pos (decide_eq_true hk1), add_eq (F := fun x y => workflowref07_Spell.l11 K p0 k x y ((i + 1 : Nat) : Int)) (hal _ hw), key _ hw]
   ·rw [if_neg (show ¬ (decide (c.Kind = 1 ∨ c.Kind = 2 ∨ c.Kind = 5) = true) by simpa using hk1)]
    by_cases hk3 : c.Kind = 3
    ·have hw : wordS c = some (Lib.itoa c.Int) := by unfold wordS; rw [if_neg hk1, if_pos hk3]
     rw [if_pos hk3, decimal_eq (by omega) hc.2.1 hc.2.2, Option.bind_some, add_eq (F := fun x y => workflowref07_Spell.l11 K p0 k x y ((i + 1 : Nat) : Int)) (hal _ hw), key _ hw]
    ·rw [if_neg hk3]
     by_cases hk4 : c.Kind = 4
     ·have hw : wordS c = some (quo c.Text) := by unfold wordS; rw [if_neg hk1, if_neg hk3, if_pos hk4]
      rw [if_pos hk4, rquote_eq (by have := hc.1; omega) (by have := hc.1; omega) hK2, Option.bind_some, add_eq (F := fun x y => workflowref07_Spell.l11 K p0 k x y ((i + 1 : Nat) : Int)) (hal _ hw), key _ hw]
     ·have hw : wordS c = none := by unfold wordS; rw [if_neg hk1, if_neg hk3, if_neg hk4]
      have := ih [] b (by simp)
      rw [List.append_nil] at this
      rw [if_neg hk4, this, List.filterMap_cons, hw]
theorem rspell_eq {K : Nat} (hK : 6000 < K) (hK2 : K < 8000000) {l : List api_Token} (hf : ∀ t ∈ l, Fine t) (hl : l.length ≤ 1000) : workflowref07_Spell K l = some (spellS l) := by
 have h := rspell_l11 hK hK2 l hf K 0 [] true (by simp; omega) (by omega) (by simp; omega)
 have h' : workflowref07_Spell.l11 K l K [] true 0 = some (spellS l) := by
  show _ = some (Lib.join (l.filterMap wordS) [32])
  simpa [tlS] using h
 unfold workflowref07_Spell
 rw [h']
 rfl
theorem spell_l15 (p0 : List api_Token) : ∀ (k i : Nat), (p0.drop i).length < k → i + k < 9000000 →
  workflowlaw07_TokenSpell.l15 100000 p0 k (i : Int) = some (.done true) ∨ (workflowlaw07_TokenSpell.l15 100000 p0 k (i : Int) = some (.go ()) ∧ ∀ t ∈ p0.drop i, t.Text.length ≤ 200)
 | 0, i, h, _ => by omega
 | k + 1, i, h, hk => by
  unfold workflowlaw07_TokenSpell.l15
  cases hs : p0.drop i with
  | nil =>
   have : p0.length ≤ i := List.drop_eq_nil_iff.1 hs
   right
   rw [if_neg (by omega)]
   exact ⟨rfl, fun t ht => by cases ht⟩
  | cons c r =>
   obtain ⟨_, hlt, hr⟩ := getD_drop _ _ c r c hs
   rw [hs] at h
   simp only [List.length_cons] at h
   rw [if_pos (show (i : Int) < (p0.length : Int) by omega), if_pos (show (0 : Int) ≤ (i : Int) ∧ (i : Int) < (p0.length : Int) by omega), getT hs, wrapS (show i < 9223372036854775807 by omega)]
   by_cases hl : (c.Text.length : Int) > 200
   ·left; rw [if_pos hl, works_ok]; rfl
   ·rw [if_neg hl]
    rcases spell_l15 p0 k (i + 1) (by rw [hr]; omega) (by omega) with h1 | ⟨h1, h2⟩
    ·exact .inl h1
    ·refine .inr ⟨h1, fun t ht => ?_⟩
     rcases List.mem_cons.1 ht with rfl | ht
     ·omega
     ·rw [hr] at h2; exact h2 t ht
theorem law_spell (p0 : List api_Token) (p1 : List UInt8) (hi : ∀ t ∈ p0, -9223372036854775808 ≤ t.Int ∧ t.Int ≤ 9223372036854775807) : workflowlaw07_TokenSpell 100000 p0 p1 = some true := by
 unfold workflowlaw07_TokenSpell
 by_cases h1 : (p0.length : Int) > 100
 ·rw [if_pos h1, Option.bind_some, if_pos rfl, works_ok]; rfl
 ·rw [if_neg h1, Option.bind_some]
  by_cases h2 : (p1.length : Int) > 500
  ·rw [if_pos (decide_eq_true h2), works_ok]; rfl
  ·rw [if_neg (show ¬ (decide ((p1.length : Int) > 500) = true) by simpa using h2)]
   rcases spell_l15 p0 100000 0 (by simp; omega) (by omega) with h | ⟨h, ht⟩
   ·have h' : workflowlaw07_TokenSpell.l15 100000 p0 100000 0 = some (.done true) := h
    rw [h']; rfl
   ·have h' : workflowlaw07_TokenSpell.l15 100000 p0 100000 0 = some (.go ()) := h
    have hf : ∀ t ∈ p0, Fine t := fun t hm => ⟨by have := ht t (by simpa using hm); omega, hi t hm⟩
    rw [h']
    simp only [obind]
    rw [tspell_eq (by omega) (by omega) hf (by omega), Option.bind_some, rspell_eq (by omega) (by omega) hf (by omega), Option.bind_some, if_pos rfl, quote_eq (by omega) (by omega) (by omega), Option.bind_some, rquote_eq (by omega) (by omega) (by omega), Option.bind_some, if_pos rfl, works_ok]
    rfl
end Go.Proofs.YtahpbjjfpbmaiaaDoor
