/- The law. -/
import Derived.Test.YtahpbjjfpbmaiaaDoorLwG
set_option linter.unusedVariables false
set_option linter.unusedSimpArgs false
set_option maxHeartbeats 4000000
namespace Go.Proofs.YtahpbjjfpbmaiaaDoor
open Eng
theorem blanks_l19 (K : Nat) (p1 : Int) (n : Nat) (hn : Int.tmod (IntKind.i64.wrap p1) 20 = (n : Int)) (hn2 : n < 20) : ∀ (k j : Nat), n - j < k → j ≤ n → workflowlaw07_TokenBlanks.l19 K p1 k (List.replicate j 32) (j : Int) = some (List.replicate n 32)
 | 0, j, h, _ => by omega
 | k + 1, j, h, hj => by
  unfold workflowlaw07_TokenBlanks.l19
  rw [hn]
  by_cases hlt : j < n
  ·rw [if_pos (by omega), if_pos (by simp only [List.length_replicate, List.length_cons, List.length_nil]; omega), wrapS (by omega), show List.replicate j (32 : UInt8) ++ [32] = List.replicate (j + 1) 32 by rw [List.replicate_succ']]
   exact blanks_l19 K p1 n hn hn2 k (j + 1) (by omega) (by omega)
  ·have : j = n := by omega
   subst this
   rw [if_neg (by omega)]
theorem scanS_blanks (f : Nat) (s : List UInt8) : ∀ (n i : Nat) (acc : List api_Token), scanS (f + 1) (List.replicate n 32 ++ s) i acc = scanS (f + 1) s (i + n) acc
 | 0, i, acc => rfl
 | n + 1, i, acc => by
  rw [List.replicate_succ, List.cons_append, scanS_blank f 32 _ i acc (by decide), scanS_blanks f s n (i + 1) acc, show i + 1 + n = i + (n + 1) by omega]
theorem offs_bound {src : List UInt8} : ∀ {l : List api_Token} {lo : Int}, Offs src lo l → -1 ≤ lo → ∀ t ∈ l, 0 ≤ t.At + 1 ∧ t.At ≤ (src.length : Int)
 | [], lo, h, _ => h.elim
 | [t], lo, h, hlo => by
  intro t' ht
  obtain rfl := List.mem_singleton.1 ht
  obtain ⟨_, h2, h3⟩ := h
  omega
 | t :: t2 :: r, lo, h, hlo => by
  obtain ⟨_, h2, ⟨a, h3, h4, _⟩, h5⟩ := h
  intro t' ht
  rcases List.mem_cons.1 ht with rfl | ht
  ·omega
  ·exact offs_bound h5 (by omega) t' ht
theorem same_l15 (K : Nat) (l m : List api_Token) (hlm : l.length = m.length) (hs : ∀ i (h1 : i < l.length) (h2 : i < m.length), l[i].Kind = m[i].Kind ∧ l[i].Text = m[i].Text ∧ l[i].Int = m[i].Int) (hl : l.length < 9000000) : ∀ (k i : Nat), l.length - i < k → i ≤ l.length → workflowlaw07_same.l15 K l m k (i : Int) = some (.go ())
 | 0, i, h, _ => by omega
 | k + 1, i, h, hi => by
  unfold workflowlaw07_same.l15
  by_cases hlt : i < l.length
  ·have hlt2 : i < m.length := by omega
   have g1 : l.getD (Int.toNat (i : Int)) z_api_Token = l[i] := by rw [Int.toNat_natCast]; simp [List.getD, hlt]
   have g2 : m.getD (Int.toNat (i : Int)) z_api_Token = m[i] := by rw [Int.toNat_natCast]; simp [List.getD, hlt2]
   obtain ⟨e1, e2, e3⟩ := hs i hlt hlt2
   rw [if_pos (by omega), if_pos ⟨by omega, by omega⟩, if_pos (by omega), g1, g2, if_neg (by simp [e1]), if_neg (by simp [e2]), if_neg (by simp [e3]), wrapS (by omega)]
   exact same_l15 K l m hlm hs hl k (i + 1) (by omega) (by omega)
  ·rw [if_neg (by omega)]
theorem same_eq {K : Nat} {l m : List api_Token} (hlm : l.length = m.length) (hs : ∀ i (h1 : i < l.length) (h2 : i < m.length), l[i].Kind = m[i].Kind ∧ l[i].Text = m[i].Text ∧ l[i].Int = m[i].Int) (h : l.length < K) (hl : l.length < 9000000) : workflowlaw07_same K l m = some true := by
 unfold workflowlaw07_same
 rw [if_neg (by omega)]
 have h' : workflowlaw07_same.l15 K l m K 0 = some (.go ()) := same_l15 K l m hlm hs hl K 0 (by omega) (by omega)
 rw [h']
 rfl
theorem moved_l46 (K : Nat) (p1 : Int) (n : Nat) (hn : Int.tmod (IntKind.i64.wrap p1) 20 = (n : Int)) (hn2 : n < 20) (l : List api_Token) (hl : l.length < 9000000) (hb : ∀ t ∈ l, -1 ≤ t.At ∧ t.At < 9000000) : ∀ (k i : Nat), l.length - i < k → i ≤ l.length → workflowlaw07_TokenBlanks.l46 K p1 l (l.map (sh n)) k (i : Int) = some (.go ())
 | 0, i, h, _ => by omega
 | k + 1, i, h, hi => by
  unfold workflowlaw07_TokenBlanks.l46
  rw [hn, List.length_map]
  by_cases hlt : i < l.length
  ·have g1 : l.getD (Int.toNat (i : Int)) z_api_Token = l[i] := by rw [Int.toNat_natCast]; simp [List.getD, hlt]
   have g2 : (l.map (sh n)).getD (Int.toNat (i : Int)) z_api_Token = sh n l[i] := by rw [Int.toNat_natCast]; simp [List.getD, hlt]
   have hb1 := hb l[i] (List.getElem_mem hlt)
   rw [if_pos (by omega), if_pos ⟨by omega, by omega⟩, if_pos (by omega), g1, g2]
   have e : IntKind.i64.wrap ((sh n l[i]).At - (n : Int)) = l[i].At := by
    show IntKind.i64.wrap (l[i].At + (n : Int) - (n : Int)) = l[i].At
    rw [Int.add_sub_cancel]
    exact Eng.wrap_small (by omega) (by omega)
   rw [e, if_neg (by simp), wrapS (by omega)]
   exact moved_l46 K p1 n hn hn2 l hl hb k (i + 1) (by omega) (by omega)
  ·rw [if_neg (by omega)]
theorem scanS_err : ∀ (f : Nat) (s : List UInt8) (i : Nat) (acc : List api_Token) (a e : Int), s.length < f → s.length < 4000000 → scanS f s i acc = .error (a, e) → e ≠ 0 ∧ (i : Int) ≤ a ∧ a ≤ ((i + s.length : Nat) : Int)
 | 0, s, i, acc, a, e, h, _, _ => by omega
 | f + 1, s, i, acc, a, e, h, hb, hx => by
  unfold scanS at hx
  cases hs : s.dropWhile isB with
  | nil => rw [hs] at hx; cases hx
  | cons c r =>
   rw [hs] at hx
   simp only at hx
   have hsl : s.length = (s.takeWhile isB).length + (c :: r).length := by
    have := congrArg List.length (dw_len s c r hs)
    rw [List.length_append] at this
    exact this
   cases hl : lexS (c :: r) with
   | error e2 =>
    rw [hl] at hx
    cases hx
    exact ⟨lexS_error hl (by simp) (by omega), by omega, by omega⟩
   | ok p =>
    obtain ⟨t, rest⟩ := p
    rw [hl] at hx
    obtain ⟨n, h1, h2, h3, h4, h5⟩ := step_len hs hl hb
    obtain ⟨g1, g2, g3⟩ := scanS_err f rest _ _ a e (by omega) (by omega) hx
    exact ⟨g1, by omega, by omega⟩
theorem law_blanks (p0 : List UInt8) (p1 : Int) (h0 : 0 ≤ p1) (h1 : p1 < 256) : workflowlaw07_TokenBlanks 100000 p0 p1 = some true := by
 unfold workflowlaw07_TokenBlanks
 rw [works_ok]
 by_cases h : (p0.length : Int) > 400
 ·rw [if_pos h]; rfl
 ·obtain ⟨q, hq⟩ : ∃ q : Nat, p1 = (q : Int) := ⟨p1.toNat, by omega⟩
  have hn : Int.tmod (IntKind.i64.wrap p1) 20 = ((q % 20 : Nat) : Int) := by
   rw [hq, wrapN (by omega)]
   rfl
  have hn2 : q % 20 < 20 := Nat.mod_lt _ (by omega)
  generalize q % 20 = n at hn hn2
  have hbl : workflowlaw07_TokenBlanks.l19 100000 p1 100000 [] 0 = some (List.replicate n 32) := blanks_l19 100000 p1 n hn hn2 100000 0 (by omega) (by omega)
  have hlen : (List.replicate n (32 : UInt8) ++ p0).length = n + p0.length := by simp
  have t1 : token_Scan 100000 p0 = some (ans (scanS 1000 p0 0 [])) := tscan_any (by omega) (by omega) (by omega) 1000 (by omega)
  have t2 : token_Scan 100000 (List.replicate n 32 ++ p0) = some (ans (shR n (scanS 1000 p0 0 []))) := by
   rw [tscan_any (by omega) (by omega) (by omega) 1000 (by omega), scanS_blanks 999 p0 n 0 []]
   have := scanS_shift n 1000 p0 0 [] (by omega) (by omega)
   rw [List.map_nil] at this
   rw [this]
  rw [if_neg h, hbl, Option.bind_some, t1, Option.bind_some]
  simp only
  rw [if_pos (by simp only [List.length_replicate]; omega), t2, Option.bind_some, hn]
  cases hs : scanS 1000 p0 0 [] with
  | error p =>
   obtain ⟨a, e⟩ := p
   obtain ⟨g1, g2, g3⟩ := scanS_err _ _ _ _ _ _ (by omega) (by omega) hs
   simp only [ans, shR]
   have e1 : IntKind.i64.wrap a = a := Eng.wrap_small (by omega) (by omega)
   have hl46 : workflowlaw07_TokenBlanks.l46 100000 p1 [] [] 100000 0 = some (.go ()) := by
    have := moved_l46 100000 p1 n hn hn2 [] (by simp) (by simp) 100000 0 (by simp) (by simp)
    simpa using this
   simp [g1, e1, obind, hl46]
  | ok l =>
   have hll := scanS_len _ _ _ _ _ hs
   simp only [List.length_nil] at hll
   have ho : Offs p0 (-1) l := scanS_offs p0 (by omega) 1000 0 (-1) l (by simp; omega) (by omega) (by omega) (by simpa using hs)
   have hbd : ∀ t ∈ l, -1 ≤ t.At ∧ t.At < 9000000 := fun t ht => by have := offs_bound ho (by omega) t ht; omega
   simp only [ans, shR]
   have hsame : workflowlaw07_same 100000 l (l.map (sh n)) = some true := same_eq (by simp) (fun i h1 h2 => by simp [sh]) (by omega) (by omega)
   have hl46 : workflowlaw07_TokenBlanks.l46 100000 p1 l (l.map (sh n)) 100000 0 = some (.go ()) := moved_l46 100000 p1 n hn hn2 l (by omega) hbd 100000 0 (by omega) (by omega)
   simp [obind, hsame, hl46]
end Go.Proofs.YtahpbjjfpbmaiaaDoor
