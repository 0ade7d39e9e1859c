/- The law. -/
import Derived.Test.YtahpbjjfpbmaiaaDoorLwF
set_option linter.unusedVariables false
set_option linter.unusedSimpArgs false
set_option maxHeartbeats 4000000
namespace Go.Proofs.YtahpbjjfpbmaiaaDoor
open Eng
theorem lexS_suffix {s rest : List UInt8} {t : api_Token} (h : lexS s = .ok (t, rest)) (hne : s ≠ []) (hs : s.length < 4000000) : ∃ n, 0 < n ∧ n ≤ s.length ∧ rest = s.drop n := by
 have ho := one_ok (K := s.length + 1001) (by omega) hne (by omega) (by omega)
 rw [h] at ho
 obtain ⟨n, h1, h2, h3, _⟩ := ho
 exact ⟨n, h1, h2, h3⟩
theorem lexS_error {s : List UInt8} {e : Int} (h : lexS s = .error e) (hne : s ≠ []) (hs : s.length < 4000000) : e ≠ 0 := by
 have ho := one_ok (K := s.length + 1001) (by omega) hne (by omega) (by omega)
 rw [h] at ho
 exact ho.1
theorem lexS_kind {s rest : List UInt8} {t : api_Token} (h : lexS s = .ok (t, rest)) : 1 ≤ t.Kind ∧ t.Kind ≤ 5 ∧ t.At = 0 := by
 unfold lexS at h
 by_cases h1 : onHd isL s = true
 ·rw [if_pos h1] at h
  unfold lexW at h
  split at h
  ·cases h
  ·cases h
   simp only
   split <;> simp
 ·rw [if_neg h1] at h
  by_cases h2 : onHd isD s = true
  ·rw [if_pos h2] at h
   unfold lexN at h
   split at h
   ·cases h
   ·split at h
    ·cases h; simp
    ·cases h
  ·rw [if_neg h2] at h
   by_cases h3 : hd s = 34
   ·rw [if_pos h3] at h
    split at h
    ·cases h; simp
    ·cases h
   ·rw [if_neg h3] at h
    split at h
    ·cases h
    ·cases h; simp
theorem dw_len (s : List UInt8) (c : UInt8) (r : List UInt8) (h : s.dropWhile isB = c :: r) : s = s.takeWhile isB ++ c :: r := by
 rw [← h]; exact List.takeWhile_append_dropWhile.symm
theorem scanS_acc : ∀ (f : Nat) (s : List UInt8) (i : Nat) (acc : List api_Token), scanS f s i acc = (match scanS f s i [] with | .ok l => .ok (acc ++ l) | .error e => .error e)
 | 0, s, i, acc => rfl
 | f + 1, s, i, acc => by
  unfold scanS
  split
  ·simp
  ·split
   ·rfl
   ·rename_i t rest _
    rw [scanS_acc f rest _ (acc ++ _), scanS_acc f rest _ ([] ++ _)]
    cases scanS f rest (i + s.length - rest.length) [] with
    | error e => rfl
    | ok l => simp
def sh (d : Nat) (t : api_Token) : api_Token := ⟨t.Kind, t.At + (d : Int), t.Text, t.Int⟩
def shR (d : Nat) : Except (Int × Int) (List api_Token) → Except (Int × Int) (List api_Token)
 | .ok l => .ok (l.map (sh d))
 | .error (a, e) => .error (a + (d : Int), e)
theorem step_len {s : List UInt8} {c : UInt8} {r rest : List UInt8} {t : api_Token} (hs : s.dropWhile isB = c :: r) (hl : lexS (c :: r) = .ok (t, rest)) (hb : s.length < 4000000) :
  ∃ n, 0 < n ∧ n ≤ (c :: r).length ∧ rest = (c :: r).drop n ∧ rest.length + n = (c :: r).length ∧ s.length = (s.takeWhile isB).length + (c :: r).length := by
 have e1 := dw_len s c r hs
 have hsl : s.length = (s.takeWhile isB).length + (c :: r).length := by
  have := congrArg List.length e1
  rw [List.length_append] at this
  exact this
 obtain ⟨n, h1, h2, rfl⟩ := lexS_suffix hl (by simp) (by omega)
 exact ⟨n, h1, h2, rfl, by rw [List.length_drop]; omega, hsl⟩
theorem scanS_shift (d : Nat) : ∀ (f : Nat) (s : List UInt8) (i : Nat) (acc : List api_Token), s.length < f → s.length < 4000000 → scanS f s (i + d) (acc.map (sh d)) = shR d (scanS f s i acc)
 | 0, s, i, acc, h, _ => by omega
 | f + 1, s, i, acc, h, hb => by
  unfold scanS
  cases hs : s.dropWhile isB with
  | nil =>
   simp only [shR, List.map_append, List.map_cons, List.map_nil, sh]
   congr 4
   omega
  | cons c r =>
   simp only
   cases hl : lexS (c :: r) with
   | error e =>
    simp only [shR]
    congr 2
    omega
   | ok p =>
    obtain ⟨t, rest⟩ := p
    obtain ⟨n, h1, h2, h3, h4, h5⟩ := step_len hs hl hb
    simp only
    rw [← scanS_shift d f rest (i + s.length - rest.length) _ (by omega) (by omega)]
    have e2 : i + d + s.length - rest.length = i + s.length - rest.length + d := by omega
    have e3 : acc.map (sh d) ++ [(⟨t.Kind, ((i + d + (s.takeWhile isB).length : Nat) : Int), t.Text, t.Int⟩ : api_Token)] = (acc ++ [(⟨t.Kind, ((i + (s.takeWhile isB).length : Nat) : Int), t.Text, t.Int⟩ : api_Token)]).map (sh d) := by
     rw [List.map_append]
     simp only [List.map_cons, List.map_nil, sh]
     congr 3
     omega
    rw [e2, e3]
theorem tscan_any {K : Nat} {src : List UInt8} (hs : src.length ≤ 16384) (hK : 20000 ≤ K) (hb : K < 8000000) (f : Nat) (hf : src.length < f) : token_Scan K src = some (ans (scanS f src 0 [])) := by
 have h := tscan_l16 (K := K) (src := src) (by omega) (by omega) (by omega) K f 0 [] (by simp; omega) (by simpa using hf) (by omega) (by simp; omega)
 have h' : token_Scan.l16 K src K src 0 [] = some (.done (ans (scanS f src 0 []))) := h
 unfold token_Scan
 rw [if_neg (by omega), h']
 rfl
def Offs (src : List UInt8) (lo : Int) : List api_Token → Prop
 | [] => False
 | [t] => t.Kind = 0 ∧ t.At = (src.length : Int) ∧ lo ≤ t.At
 | t :: r => t.Kind ≠ 0 ∧ lo < t.At ∧ (∃ a : Nat, t.At = (a : Int) ∧ a < src.length ∧ isB (src.getD a 0) = false) ∧ Offs src t.At r
theorem scanS_offs (src : List UInt8) (hb : src.length < 4000000) : ∀ (f i : Nat) (lo : Int) (l : List api_Token), (src.drop i).length < f → i ≤ src.length → lo < (i : Int) → scanS f (src.drop i) i [] = .ok l → Offs src lo l
 | 0, i, lo, l, h, _, _, _ => by omega
 | f + 1, i, lo, l, h, hi, hlo, he => by
  have hlen : (src.drop i).length = src.length - i := List.length_drop
  unfold scanS at he
  cases hs : (src.drop i).dropWhile isB with
  | nil =>
   rw [hs] at he
   simp only [List.nil_append] at he
   cases he
   refine ⟨rfl, ?_, ?_⟩
   ·show ((i + (src.drop i).length : Nat) : Int) = _; omega
   ·show lo ≤ ((i + (src.drop i).length : Nat) : Int); omega
  | cons c r =>
   rw [hs] at he
   simp only at he
   cases hl : lexS (c :: r) with
   | error e => rw [hl] at he; cases he
   | ok p =>
    obtain ⟨t, rest⟩ := p
    rw [hl] at he
    simp only [List.nil_append] at he
    obtain ⟨n, h1, h2, h3, h4, h5⟩ := step_len hs hl (by omega)
    rw [scanS_acc] at he
    have hd1 : src.drop (i + ((src.drop i).takeWhile isB).length) = c :: r := by rw [← dw_eq, hs]
    have hrest : rest = src.drop (i + ((src.drop i).takeWhile isB).length + n) := by rw [h3, ← hd1, List.drop_drop]
    have hpos : i + (src.drop i).length - rest.length = i + ((src.drop i).takeWhile isB).length + n := by omega
    rw [hpos, hrest] at he
    cases hq : scanS f (src.drop (i + ((src.drop i).takeWhile isB).length + n)) (i + ((src.drop i).takeWhile isB).length + n) [] with
    | error e => rw [hq] at he; cases he
    | ok l2 =>
     rw [hq] at he
     cases he
     have hlr : rest.length = src.length - (i + ((src.drop i).takeWhile isB).length + n) := by rw [hrest, List.length_drop]
     have ih := scanS_offs src hb f _ (((i + ((src.drop i).takeWhile isB).length : Nat)) : Int) l2 (by rw [List.length_drop]; omega) (by omega) (by omega) hq
     have hk := lexS_kind hl
     have hcb : isB c = false := by
      have := List.head?_dropWhile_not isB (src.drop i)
      rw [hs] at this
      simpa using this
     obtain ⟨hg, _, _⟩ := getD_drop _ _ c r 0 hd1
     cases l2 with
     | nil => exact ih.elim
     | cons t2 r2 =>
      refine ⟨by show t.Kind ≠ 0; omega, by show lo < ((i + ((src.drop i).takeWhile isB).length : Nat) : Int); omega, ⟨_, rfl, by omega, by rw [hg]; exact hcb⟩, ih⟩
theorem offs_ne {src : List UInt8} {lo : Int} {l : List api_Token} (h : Offs src lo l) : l ≠ [] := by
 intro e; subst e; exact h
theorem offs_l27 (K : Nat) (src : List UInt8) (hsrc : src.length < 4000000) (all : List api_Token) (hall : all.length < 9000000) : ∀ (k i : Nat) (lo : Int), all.length - i < k → i < all.length → Offs src lo (all.drop i) → workflowlaw07_TokenOffsets.l27 K src all k lo (i : Int) = some (.go ())
 | 0, i, lo, h, _, _ => by omega
 | k + 1, i, lo, h, hi, ho => by
  have hd1 : all.drop i = all[i] :: all.drop (i + 1) := List.drop_eq_getElem_cons hi
  have hg : all.getD (Int.toNat (i : Int)) z_api_Token = all[i] := by rw [Int.toNat_natCast]; simp [List.getD, hi]
  have hw : IntKind.i64.wrap ((all.length : Int) - 1) = ((all.length - 1 : Nat) : Int) := by rw [Eng.wrap_small (by omega) (by omega)]; omega
  unfold workflowlaw07_TokenOffsets.l27
  rw [if_pos (show (i : Int) < (all.length : Int) by omega), if_pos (show (0 : Int) ≤ (i : Int) ∧ (i : Int) < (all.length : Int) by omega), hg, hw, wrapS (show i < 9223372036854775807 by omega)]
  rw [hd1] at ho
  by_cases hend : i + 1 = all.length
  ·have hnil : all.drop (i + 1) = [] := List.drop_eq_nil_of_le (by omega)
   rw [hnil] at ho
   obtain ⟨h1, h2, h3⟩ := ho
   have hie : (i : Int) = ((all.length - 1 : Nat) : Int) := by omega
   have hmid : ((if all[i].At ≤ lo then (if (i : Int) = ((all.length - 1 : Nat) : Int) then (if all[i].At < lo then some (Out.done false) else (if ((decide ((i : Int) = ((all.length - 1 : Nat) : Int))) == (decide (all[i].Kind = 0))) = true then (if all[i].At ≠ (src.length : Int) then some (Out.done false) else some (Out.go ())) else some (Out.done false))) else some (Out.done false)) else (if all[i].At < lo then some (Out.done false) else (if ((decide ((i : Int) = ((all.length - 1 : Nat) : Int))) == (decide (all[i].Kind = 0))) = true then (if (i : Int) = ((all.length - 1 : Nat) : Int) then (if all[i].At ≠ (src.length : Int) then some (Out.done false) else some (Out.go ())) else some (Out.go ())) else some (Out.done false)))) : Option (Out Bool Unit)) = some (Out.go ()) := by
    have e1 : ¬ all[i].At < lo := by omega
    have e2 : (decide ((i : Int) = ((all.length - 1 : Nat) : Int)) == decide (all[i].Kind = 0)) = true := by simp [hie, h1]
    by_cases hle : all[i].At ≤ lo
    ·rw [if_pos hle, if_pos hie, if_neg e1, if_pos e2, if_neg (by omega)]
    ·rw [if_neg hle, if_neg e1, if_pos e2, if_pos hie, if_neg (by omega)]
   rw [hmid]
   simp only [obind]
   rw [if_pos hie]
   obtain ⟨q, rfl⟩ : ∃ q, k = q + 1 := ⟨k - 1, by omega⟩
   unfold workflowlaw07_TokenOffsets.l27
   rw [if_neg (show ¬ ((i + 1 : Nat) : Int) < (all.length : Int) by omega)]
  ·have hi2 : i + 1 < all.length := by omega
   have hd2 : all.drop (i + 1) = all[i + 1] :: all.drop (i + 2) := List.drop_eq_getElem_cons hi2
   rw [hd2] at ho
   obtain ⟨h1, h2, ⟨a, h3, h4, h5⟩, h6⟩ := ho
   rw [← hd2] at h6
   have hie : ¬ (i : Int) = ((all.length - 1 : Nat) : Int) := by omega
   have hmid : ((if all[i].At ≤ lo then (if (i : Int) = ((all.length - 1 : Nat) : Int) then (if all[i].At < lo then some (Out.done false) else (if ((decide ((i : Int) = ((all.length - 1 : Nat) : Int))) == (decide (all[i].Kind = 0))) = true then (if all[i].At ≠ (src.length : Int) then some (Out.done false) else some (Out.go ())) else some (Out.done false))) else some (Out.done false)) else (if all[i].At < lo then some (Out.done false) else (if ((decide ((i : Int) = ((all.length - 1 : Nat) : Int))) == (decide (all[i].Kind = 0))) = true then (if (i : Int) = ((all.length - 1 : Nat) : Int) then (if all[i].At ≠ (src.length : Int) then some (Out.done false) else some (Out.go ())) else some (Out.go ())) else some (Out.done false)))) : Option (Out Bool Unit)) = some (Out.go ()) := by
    have e2 : (decide ((i : Int) = ((all.length - 1 : Nat) : Int)) == decide (all[i].Kind = 0)) = true := by simp [hie, h1]
    rw [if_neg (by omega), if_neg (by omega), if_pos e2, if_neg hie]
   rw [hmid]
   simp only [obind]
   rw [if_neg hie, h3, if_neg (show ¬ (a : Int) ≥ (src.length : Int) by omega), if_pos (show (0 : Int) ≤ (a : Int) ∧ (a : Int) < (src.length : Int) by omega), Int.toNat_natCast]
   have hnb : (src.getD a 0).toNat ≠ 32 ∧ (src.getD a 0).toNat ≠ 9 ∧ (src.getD a 0).toNat ≠ 10 := by
    simp [isB] at h5
    exact ⟨h5.1.1, h5.1.2, h5.2⟩
   rw [if_neg (by omega), if_neg (by omega), if_neg (by omega)]
   rw [h3] at h6
   exact offs_l27 K src hsrc all hall k (i + 1) _ (by omega) hi2 h6
theorem law_offsets (p0 : List UInt8) : workflowlaw07_TokenOffsets 100000 p0 = some true := by
 unfold workflowlaw07_TokenOffsets
 rw [works_ok]
 by_cases h : (p0.length : Int) > 400
 ·rw [if_pos h]; rfl
 ·have hts : token_Scan 100000 p0 = some (ans (scanS (p0.length + 1) p0 0 [])) := tscan_eq (by omega) (by omega) (by omega)
  have hlen := @ans_len p0.length p0
  cases hq : scanS (p0.length + 1) p0 0 [] with
  | error p =>
   obtain ⟨a, e⟩ := p
   rw [hq] at hts
   simp only [ans] at hts
   rw [if_neg h, hts, Option.bind_some]
   simp only
   by_cases he : e = 0
   ·exfalso
    -- an error is never nothing
    have : ∀ (f : Nat) (s : List UInt8) (i : Nat) (acc : List api_Token) (a e : Int), s.length < f → s.length < 4000000 → scanS f s i acc = .error (a, e) → e ≠ 0 := by
     intro f
     induction f with
     | zero => intro s i acc a e h; omega
     | succ f ih =>
      intro s i acc a e h hb hx
      unfold scanS at hx
      cases hs : s.dropWhile isB with
      | nil => rw [hs] at hx; cases hx
      | cons c r =>
       rw [hs] at hx
       simp only at hx
       have hcl : (c :: r).length ≤ s.length := by rw [← hs]; exact (List.dropWhile_sublist _).length_le
       cases hl : lexS (c :: r) with
       | error e2 =>
        rw [hl] at hx
        cases hx
        exact lexS_error hl (by simp) (by omega)
       | ok p =>
        obtain ⟨t, rest⟩ := p
        rw [hl] at hx
        obtain ⟨n, h1, h2, h3, h4, h5⟩ := step_len hs hl hb
        exact ih rest _ _ a e (by omega) (by omega) hx
    exact this _ _ _ _ _ _ (by omega) (by omega) hq he
   ·rw [if_pos he]; rfl
  | ok l =>
   rw [hq] at hlen hts
   simp only [ans] at hlen hts
   rw [if_neg h, hts, Option.bind_some]
   simp only
   have ho : Offs p0 (-1) l := scanS_offs p0 (by omega) (p0.length + 1) 0 (-1) l (by simp) (by omega) (by omega) (by simpa using hq)
   have hne := offs_ne ho
   have hpos : 0 < l.length := List.length_pos_iff.2 hne
   have hl := offs_l27 100000 p0 (by omega) l (by omega) 100000 0 (-1) (by omega) hpos (by simpa using ho)
   have hl' : workflowlaw07_TokenOffsets.l27 100000 p0 l 100000 (-1) 0 = some (.go ()) := hl
   rw [if_neg (show ¬ (0 : Int) ≠ 0 by decide), hl']
   simp only [obind]
   rw [if_pos (by omega)]
   rfl
end Go.Proofs.YtahpbjjfpbmaiaaDoor
