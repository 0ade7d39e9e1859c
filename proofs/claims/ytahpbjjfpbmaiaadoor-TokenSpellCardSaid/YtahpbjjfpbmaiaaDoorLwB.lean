/- The law. -/
import Derived.Test.YtahpbjjfpbmaiaaDoorLwA
set_option linter.unusedVariables false
set_option linter.unusedSimpArgs false
set_option maxHeartbeats 4000000
namespace Go.Proofs.YtahpbjjfpbmaiaaDoor
open Eng
def hx (c : UInt8) : Int := if isD c = true then (c.toNat : Int) - 48 else if 97 ≤ c.toNat ∧ c.toNat ≤ 102 then (c.toNat : Int) - 87 else -1
def litS (acc : List UInt8) : List UInt8 → Except Int (List UInt8 × List UInt8)
 | [] => .error 4
 | c :: r =>
  if c.toNat = 34 then (if 4096 < acc.length then .error 6 else .ok (acc, r))
  else if c.toNat = 92 then
   (match r with
   | [] => .error 4
   | d :: r2 =>
    if d.toNat = 34 ∨ d.toNat = 92 then litS (acc ++ [d]) r2
    else if d.toNat = 110 then litS (acc ++ [10]) r2
    else if d.toNat = 116 then litS (acc ++ [9]) r2
    else if d.toNat = 120 then
     (match r2 with
     | [] => .error 4
     | x :: r3 =>
      if hx x < 0 then .error 3
      else
       (match r3 with
       | [] => .error 4
       | y :: r4 => if hx y < 0 then .error 3 else litS (acc ++ [UInt8.ofNat (16 * hx x + hx y).toNat]) r4))
    else .error 3)
  else if 32 ≤ c.toNat ∧ c.toNat ≤ 126 then litS (acc ++ [c]) r
  else .error 3
def lexW (s : List UInt8) : Except Int (api_Token × List UInt8) :=
 if 64 < (s.takeWhile isW).length then .error 8 else .ok (⟨if isK (s.takeWhile isW) then 2 else 1, 0, s.takeWhile isW, 0⟩, s.dropWhile isW)
def badN (s : List UInt8) : Bool := (decide (1 < (s.takeWhile isD).length) && onHd (fun c => decide (c.toNat = 48)) s) || onHd isL (s.dropWhile isD)
def lexN (s : List UInt8) : Except Int (api_Token × List UInt8) :=
 if badN s = true then .error 3 else if piOk (s.takeWhile isD) = true then .ok (⟨3, 0, [], piVal (s.takeWhile isD)⟩, s.dropWhile isD) else .error 14
def sg1 : List Nat := [40, 41, 123, 125, 91, 93, 44, 59, 46, 58, 43, 45, 42, 47, 37]
def sg2 : List Nat := [61, 60, 62, 33]
def signN : List UInt8 → Nat
 | [] => 0
 | c :: r => if c.toNat ∈ sg2 then (if hd r = 61 then 2 else if c.toNat ≠ 33 then 1 else 0) else if c.toNat ∈ sg1 then 1 else 0
def lexS (s : List UInt8) : Except Int (api_Token × List UInt8) :=
 if onHd isL s = true then lexW s
 else if onHd isD s = true then lexN s
 else if hd s = 34 then (match litS [] s.tail with | .ok (t, r) => .ok (⟨4, 0, t, 0⟩, r) | .error e => .error e)
 else if signN s = 0 then .error 3 else .ok (⟨5, 0, s.take (signN s), 0⟩, s.drop (signN s))
theorem dw_drop {α : Type} (p : α → Bool) : ∀ s : List α, s.dropWhile p = s.drop (s.takeWhile p).length
 | [] => rfl
 | c :: r => by
  rw [List.dropWhile_cons, List.takeWhile_cons]
  by_cases h : p c = true
  ·rw [if_pos h, if_pos h, List.length_cons, List.drop_succ_cons]; exact dw_drop p r
  ·rw [if_neg h, if_neg h]; rfl
theorem hexI : ∀ n : Fin 256, Lib.indexByte ([48, 49, 50, 51, 52, 53, 54, 55, 56, 57, 97, 98, 99, 100, 101, 102] : List UInt8) (Int.toNat (IntKind.u8.wrap (n.val : Int))).toUInt8 = hx (UInt8.ofNat n.val) := by decide +kernel
theorem hex_idx (c : UInt8) : Lib.indexByte ([48, 49, 50, 51, 52, 53, 54, 55, 56, 57, 97, 98, 99, 100, 101, 102] : List UInt8) (Int.toNat (IntKind.u8.wrap (c.toNat : Int))).toUInt8 = hx c := by
 have h := hexI ⟨c.toNat, byte_lt c⟩
 rw [h]
 simp
theorem hx_range (c : UInt8) : -1 ≤ hx c ∧ hx c ≤ 15 := by
 unfold hx isD
 split
 ·rename_i h; simp at h; omega
 ·split <;> omega
theorem hex_eq (K : Nat) (src : List UInt8) (i : Nat) (hi : i < 9000000000) :
  token_scanner_hex_v2 K ⟨src, (i : Int)⟩ = some (match src.drop i with
   | [] => (0, 4, ⟨src, (i : Int)⟩)
   | c :: _ => if hx c < 0 then (0, 3, ⟨src, ((i + 1 : Nat) : Int)⟩) else (hx c, 0, ⟨src, ((i + 1 : Nat) : Int)⟩)) := by
 unfold token_scanner_hex_v2
 rw [peek0 _ _ _ (by omega), Option.bind_some]
 cases hs : src.drop i with
 | nil => simp [hd]
 | cons c r =>
  simp only [show hd (c :: r) = (c.toNat : Int) from rfl, hex_idx, wrapS (show i < 9223372036854775807 by omega)]
  rw [if_neg (by omega)]
  by_cases h : hx c < 0
  ·rw [if_pos h, if_pos h]
  ·rw [if_neg h, if_neg h]
theorem ofNat_toNat (c : UInt8) : UInt8.ofNat c.toNat = c := UInt8.ofNat_toNat
theorem mapid (l : List UInt8) : l.map (fun b => b) = l := List.map_id _
def okT (src : List UInt8) (i : Nat) (r : Except Int (List UInt8 × List UInt8)) (x : Option (Out (api_Token × Int × token_scanner) Unit)) : Prop :=
 match r with
 | .ok (t, rest) => ∃ j : Nat, i < j ∧ j ≤ src.length ∧ rest = src.drop j ∧ x = some (.done (⟨4, 0, t, 0⟩, 0, ⟨src, (j : Int)⟩))
 | .error e => e ≠ 0 ∧ ∃ t q, x = some (.done (t, e, q))
theorem okT.err {src : List UInt8} {i : Nat} {e : Int} {t : api_Token} {q : token_scanner} (h : e ≠ 0) : okT src i (.error e) (some (.done (t, e, q))) := ⟨h, t, q, rfl⟩
theorem okT.ok {src : List UInt8} {i j : Nat} {t : List UInt8} (h1 : i < j) (h2 : j ≤ src.length) : okT src i (.ok (t, src.drop j)) (some (.done (⟨4, 0, t, 0⟩, 0, ⟨src, (j : Int)⟩))) := ⟨j, h1, h2, rfl, rfl⟩
theorem okT.le {src : List UInt8} {i i' : Nat} {r : Except Int (List UInt8 × List UInt8)} {x : Option (Out (api_Token × Int × token_scanner) Unit)} (h : okT src i' r x) (hi : i ≤ i') : okT src i r x := by
 unfold okT at h ⊢
 split at h
 ·obtain ⟨j, h1, h2⟩ := h; exact ⟨j, by omega, h2⟩
 ·exact h
theorem text_l8 (K : Nat) (src : List UInt8) (hsrc : src.length < 9000000) : ∀ (k i : Nat) (acc : List UInt8), (src.drop i).length < k → i ≤ src.length → acc.length + (src.drop i).length < 9000000 →
  okT src i (litS acc (src.drop i)) (token_scanner_text_v2.l8 K k src (i : Int) acc)
 | 0, i, acc, h, _, _ => by omega
 | k + 1, i, acc, h, hi, ha => by
  unfold token_scanner_text_v2.l8
  rw [peek0 _ _ _ (by omega), Option.bind_some]
  cases hs : src.drop i with
  | nil =>
   unfold litS
   rw [if_pos (show hd ([] : List UInt8) < 0 by decide)]
   exact .err (by decide)
  | cons c r =>
   obtain ⟨_, hlt, hr⟩ := getD_drop _ _ c r c hs
   rw [hs] at h ha
   simp only [List.length_cons] at h ha
   have ih : ∀ (m : Nat) (s : List UInt8) (b : UInt8), src.drop m = s → i < m → m ≤ src.length → s.length < k → acc.length + 1 + s.length < 9000000 → okT src i (litS (acc ++ [b]) s) (token_scanner_text_v2.l8 K k src (m : Int) (acc ++ [b])) := fun m s b h1 h2 h3 h4 h5 => by
    subst h1
    exact (text_l8 K src hsrc k m (acc ++ [b]) h4 h3 (by simp only [List.length_append, List.length_cons, List.length_nil]; omega)).le (by omega)
   unfold litS
   simp only [show hd (c :: r) = (c.toNat : Int) from rfl]
   rw [if_neg (show ¬ (c.toNat : Int) < 0 by omega), wrapS (show i < 9223372036854775807 by omega)]
   by_cases h34 : c.toNat = 34
   ·rw [if_pos (show (c.toNat : Int) = 34 by omega), if_pos h34]
    by_cases hm : 4096 < acc.length
    ·rw [if_pos hm, if_pos (show (acc.length : Int) > 4096 by omega)]
     exact .err (by decide)
    ·rw [if_neg hm, if_neg (show ¬ (acc.length : Int) > 4096 by omega), mapid, ← hr]
     exact .ok (by omega) (by omega)
   ·rw [if_neg (show ¬ (c.toNat : Int) = 34 by omega), if_neg h34]
    by_cases h92 : c.toNat = 92
    ·rw [if_pos (show (c.toNat : Int) = 92 by omega), if_pos h92]
     unfold token_scanner_escape_v2
     rw [peek0 _ _ _ (by omega), Option.bind_some, hr]
     cases r with
     | nil =>
      rw [show hd ([] : List UInt8) = -1 from rfl, if_pos (show (-1 : Int) = -1 from rfl), Option.bind_some]
      simp only
      rw [if_pos (show (4 : Int) ≠ 0 by decide)]
      exact .err (by decide)
     | cons d r2 =>
      obtain ⟨_, hlt2, hr2⟩ := getD_drop _ _ d r2 d hr
      simp only [List.length_cons] at h ha
      have hdb := byte_lt d
      simp only [show hd (d :: r2) = (d.toNat : Int) from rfl, wrapS (show i + 1 < 9223372036854775807 by omega)]
      rw [if_neg (show ¬ (d.toNat : Int) = -1 by omega)]
      have hb : (if (d.toNat : Int) = 34 then some (decide ((d.toNat : Int) = 34)) else some (decide ((d.toNat : Int) = 92)) : Option Bool) = some (decide (d.toNat = 34 ∨ d.toNat = 92)) := by
       by_cases h1 : d.toNat = 34
       ·rw [if_pos (by omega)]; simp [h1]
       ·rw [if_neg (by omega)]; simp [h1]; omega
      rw [hb, Option.bind_some]
      have hroom : ∀ b : UInt8, (acc.length + ([b] : List UInt8).length) * 1 ≤ 140737488355328 := fun b => by simp only [List.length_cons, List.length_nil]; omega
      by_cases hq : d.toNat = 34 ∨ d.toNat = 92
      ·rw [if_pos (decide_eq_true hq), if_pos hq, wrap_u8, Option.bind_some]
       simp only
       rw [if_neg (show ¬ (0 : Int) ≠ 0 by decide), if_pos (show 0 ≤ (d.toNat : Int) ∧ (d.toNat : Int) < 256 by omega), if_pos (hroom _), Int.toNat_natCast, ofNat_toNat]
       exact ih _ _ d hr2 (by omega) (by omega) (by omega) (by omega)
      ·rw [if_neg (show ¬ (decide (d.toNat = 34 ∨ d.toNat = 92) = true) by simpa using hq), if_neg hq]
       by_cases h110 : d.toNat = 110
       ·rw [if_pos (show (d.toNat : Int) = 110 by omega), if_pos h110, Option.bind_some]
        simp only
        rw [if_neg (show ¬ (0 : Int) ≠ 0 by decide), if_pos (show (0 : Int) ≤ 10 ∧ (10 : Int) < 256 by omega), if_pos (hroom _)]
        exact ih _ _ 10 hr2 (by omega) (by omega) (by omega) (by omega)
       ·rw [if_neg (show ¬ (d.toNat : Int) = 110 by omega), if_neg h110]
        by_cases h116 : d.toNat = 116
        ·rw [if_pos (show (d.toNat : Int) = 116 by omega), if_pos h116, Option.bind_some]
         simp only
         rw [if_neg (show ¬ (0 : Int) ≠ 0 by decide), if_pos (show (0 : Int) ≤ 9 ∧ (9 : Int) < 256 by omega), if_pos (hroom _)]
         exact ih _ _ 9 hr2 (by omega) (by omega) (by omega) (by omega)
        ·rw [if_neg (show ¬ (d.toNat : Int) = 116 by omega), if_neg h116]
         by_cases h120 : d.toNat = 120
         ·rw [if_pos (show (d.toNat : Int) = 120 by omega), if_pos h120, hex_eq _ _ _ (by omega), Option.bind_some, hr2]
          cases r2 with
          | nil =>
           simp only
           rw [if_pos (show (4 : Int) ≠ 0 by decide), Option.bind_some]
           simp only
           rw [if_pos (show (4 : Int) ≠ 0 by decide)]
           exact .err (by decide)
          | cons x r3 =>
           obtain ⟨_, hlt3, hr3⟩ := getD_drop _ _ x r3 x hr2
           simp only [List.length_cons] at h ha
           simp only
           by_cases hx0 : hx x < 0
           ·rw [if_pos hx0, if_pos hx0]
            simp only
            rw [if_pos (show (3 : Int) ≠ 0 by decide), Option.bind_some]
            simp only
            rw [if_pos (show (3 : Int) ≠ 0 by decide)]
            exact .err (by decide)
           ·rw [if_neg hx0, if_neg hx0]
            simp only
            rw [if_neg (show ¬ (0 : Int) ≠ 0 by decide), hex_eq _ _ _ (by omega), Option.bind_some, hr3]
            cases r3 with
            | nil =>
             simp only [Option.bind_some]
             rw [if_pos (show (4 : Int) ≠ 0 by decide)]
             exact .err (by decide)
            | cons y r4 =>
             obtain ⟨_, hlt4, hr4⟩ := getD_drop _ _ y r4 y hr3
             simp only [List.length_cons] at h ha
             simp only
             by_cases hy0 : hx y < 0
             ·rw [if_pos hy0, if_pos hy0]
              simp only [Option.bind_some]
              rw [if_pos (show (3 : Int) ≠ 0 by decide)]
              exact .err (by decide)
             ·rw [if_neg hy0, if_neg hy0]
              have b1 := hx_range x
              have b2 := hx_range y
              have e1 : IntKind.i64.wrap (16 * hx x) = 16 * hx x := Eng.wrap_small (by omega) (by omega)
              have e2 : IntKind.i64.wrap (16 * hx x + hx y) = 16 * hx x + hx y := Eng.wrap_small (by omega) (by omega)
              have e3 : IntKind.u8.wrap (16 * hx x + hx y) = 16 * hx x + hx y := by
               obtain ⟨m, hm⟩ : ∃ m : Nat, 16 * hx x + hx y = (m : Int) := ⟨(16 * hx x + hx y).toNat, by omega⟩
               rw [hm]
               unfold IntKind.wrap
               simp [IntKind.bits, IntKind.signed]
               omega
              simp only [Option.bind_some]
              rw [if_neg (show ¬ (0 : Int) ≠ 0 by decide), e1, e2, e3, if_pos (show 0 ≤ 16 * hx x + hx y ∧ 16 * hx x + hx y < 256 by omega), if_pos (hroom _)]
              exact ih _ _ _ hr4 (by omega) (by omega) (by omega) (by omega)
         ·rw [if_neg (show ¬ (d.toNat : Int) = 120 by omega), if_neg h120, Option.bind_some]
          simp only
          rw [if_pos (show (3 : Int) ≠ 0 by decide)]
          exact .err (by decide)
    ·rw [if_neg (show ¬ (c.toNat : Int) = 92 by omega), if_neg h92]
     have hcb := byte_lt c
     have hb : (if (c.toNat : Int) ≥ 32 then some (decide ((c.toNat : Int) ≤ 126)) else some false : Option Bool) = some (decide (32 ≤ c.toNat ∧ c.toNat ≤ 126)) := by
      by_cases h1 : 32 ≤ c.toNat
      ·rw [if_pos (by omega)]; simp [h1]; omega
      ·rw [if_neg (by omega)]; simp [h1]
     rw [hb, Option.bind_some]
     by_cases hp : 32 ≤ c.toNat ∧ c.toNat ≤ 126
     ·rw [if_pos (decide_eq_true hp), if_pos hp, wrap_u8, if_pos (show 0 ≤ (c.toNat : Int) ∧ (c.toNat : Int) < 256 by omega), if_pos (show (acc.length + ([UInt8.ofNat (Int.toNat (c.toNat : Int))] : List UInt8).length) * 1 ≤ 140737488355328 by simp only [List.length_cons, List.length_nil]; omega), Int.toNat_natCast, ofNat_toNat]
      exact ih _ _ c hr (by omega) (by omega) (by omega) (by omega)
     ·rw [if_neg (show ¬ (decide (32 ≤ c.toNat ∧ c.toNat ≤ 126) = true) by simpa using hp), if_neg hp]
      exact .err (by decide)
end Go.Proofs.YtahpbjjfpbmaiaaDoor
