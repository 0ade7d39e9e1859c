/- The law. -/
import Derived.Test.YtmafcdkdcfaajaaGreatLwH
set_option linter.unusedVariables false
set_option linter.unusedSimpArgs false
namespace Go.Proofs.YtmafcdkdcfaajaaGreat
open Eng
theorem okL_up {xs : List aEnt} : ∀ {lo top top' : Int}, top ≤ top' → okL xs lo top = true → okL xs lo top' = true := by
 induction xs with
 | nil => intros; rfl
 | cons e es ih =>
  intro lo top top' h h0
  unfold okL at h0 ⊢
  simp only [Bool.and_eq_true, decide_eq_true_eq] at h0 ⊢
  exact ⟨⟨h0.1.1, by omega⟩, h0.2.1, ih h h0.2.2⟩
theorem logB_cases {l es : List aEnt} {q : Nat} (hq : q ≤ l.length) :
  logB l es q = l.take q ++ es ∨ (logB l es q = l ∧ q + es.length ≤ l.length ∧ (l.drop q).take es.length = es) := by
 by_cases h : common es (l.drop q) < es.length ∧ q + common es (l.drop q) < l.length
 ·left; unfold logB; rw [if_pos h]
 ·obtain ⟨l1, l2⟩ := logB_ref hq h
  by_cases h2 : l.length > q + es.length
  ·right
   have h3 := common_le es (l.drop q)
   have h4 := common_take es (l.drop q)
   rw [List.length_drop] at h3
   have e : common es (l.drop q) = es.length := by omega
   rw [e, List.take_length] at h4
   refine ⟨?_, by omega, h4.symm⟩
   unfold logB
   rw [if_neg h, e, List.drop_length, List.append_nil]
  ·left; exact (l2 h2).symm
theorem logB_mid {l es : List aEnt} {q : Nat} (hq : q ≤ l.length) : ((logB l es q).drop q).take es.length = es ∧ q + es.length ≤ (logB l es q).length := by
 rcases logB_cases (es := es) hq with h | ⟨h, h2, h3⟩
 ·rw [h, List.drop_append_of_le_length (by rw [List.length_take]; omega), List.drop_take, Nat.sub_self, List.take_zero, List.nil_append, List.take_length, List.length_append, List.length_take]
  exact ⟨rfl, by omega⟩
 ·rw [h]; exact ⟨h3, h2⟩
theorem common_ge : ∀ (n : Nat) {xs ys : List aEnt}, xs.take n = ys.take n → n ≤ xs.length → n ≤ ys.length → n ≤ common xs ys
 | 0, _, _, _, _, _ => Nat.zero_le _
 | n + 1, [], _, _, h, _ => by simp at h
 | n + 1, _ :: _, [], _, _, h => by simp at h
 | n + 1, x :: xs, y :: ys, h, h1, h2 => by
  simp only [List.take_succ_cons, List.cons.injEq] at h
  unfold common
  rw [if_pos h.1]
  have := common_ge n h.2 (by simpa using h1) (by simpa using h2)
  omega
theorem logB_common {l es : List aEnt} {q : Nat} {cm : Int} (hq : q ≤ l.length) (hcm : cm ≤ l.length)
  (h : ¬ ((common es (l.drop q) < es.length ∧ q + common es (l.drop q) < l.length) ∧ ((q + common es (l.drop q) : Nat) : Int) < cm)) : cm ≤ common l (logB l es q) := by
 have h1 := common_le es (l.drop q)
 have h2 := common_take es (l.drop q)
 rw [List.length_drop] at h1
 unfold logB
 generalize common es (l.drop q) = c at *
 by_cases a : c < es.length ∧ q + c < l.length
 ·rw [if_pos a]
  have : q + c ≤ common l (l.take q ++ es) := by
   refine common_ge _ ?_ (by omega) (by rw [List.length_append, List.length_take]; omega)
   rw [List.take_append, List.length_take, Nat.min_eq_left hq, List.take_take, show min (q + c) q = q from by omega, show q + c - q = c from by omega, h2, List.take_add]
  have h3 : ¬ ((q + c : Nat) : Int) < cm := fun hh => h ⟨a, hh⟩
  omega
 ·rw [if_neg a]
  have : l.length ≤ common l (l ++ es.drop c) := by
   refine common_ge _ ?_ (Nat.le_refl _) (by rw [List.length_append]; omega)
   rw [List.take_length, List.take_left]
  omega
def lastOr (lo : Int) (xs : List aEnt) : Int := match xs.getLast? with | some x => x.Epoch | none => lo
theorem okL_append : ∀ (xs ys : List aEnt) (lo top : Int), okL (xs ++ ys) lo top = (okL xs lo top && okL ys (lastOr lo xs) top)
 | [], ys, lo, top => by simp [okL, lastOr]
 | x :: xs, ys, lo, top => by
  rw [List.cons_append]
  show (decide (lo ≤ x.Epoch ∧ x.Epoch ≤ top) && (decide (x.Data.length ≤ 65536) && okL (xs ++ ys) x.Epoch top)) = ((decide (lo ≤ x.Epoch ∧ x.Epoch ≤ top) && (decide (x.Data.length ≤ 65536) && okL xs x.Epoch top)) && okL ys (lastOr lo (x :: xs)) top)
  rw [okL_append xs ys x.Epoch top]
  have e : lastOr x.Epoch xs = lastOr lo (x :: xs) := by
   unfold lastOr
   cases xs with
   | nil => rfl
   | cons y ys =>
    rw [List.getLast?_cons_cons]
    cases h : (y :: ys).getLast? with
    | none => simp at h
    | some z => rfl
  rw [e]
  simp only [Bool.and_assoc]
theorem okL_take {xs : List aEnt} {lo top : Int} (n : Nat) (h : okL xs lo top = true) : okL (xs.take n) lo top = true := by
 rw [← List.take_append_drop n xs, okL_append, Bool.and_eq_true] at h
 exact h.1
theorem okL_bounds {xs : List aEnt} : ∀ {lo top : Int}, okL xs lo top = true → ∀ x ∈ xs, lo ≤ x.Epoch ∧ x.Epoch ≤ top := by
 induction xs with
 | nil => intro lo top _ x hx; cases hx
 | cons e es ih =>
  intro lo top h x hx
  unfold okL at h
  simp only [Bool.and_eq_true, decide_eq_true_eq] at h
  rcases List.mem_cons.1 hx with rfl | hx
  ·exact h.1
  ·have := ih h.2.2 x hx; omega
theorem risingB_okL {es : List aEnt} {lo top : Int} (h : risingB es lo top = true) : okL es (if (1 : Int) > lo then 1 else lo) top = true := by
 by_cases hle : lo ≤ top
 ·rw [okL_rise hle]; exact h
 ·unfold risingB at h
  split at h
  ·cases h
  ·rename_i m hm
   have := riseL_le hm
   simp only [decide_eq_true_eq] at h
   omega
structure Acc (r : aRep) (e p pe : Int) (es : List aEnt) (cm : Int) (a : aRep) : Prop where
 eq : a = ⟨e, if e > r.Epoch then -1 else r.Vote, commB r p cm es.length, logB r.Log es p.toNat⟩
 suits : suitsB r e p pe es cm = true
 epoch : r.Epoch ≤ e
 len : p.toNat ≤ r.Log.length
 prev : ¬ (p > 0 ∧ (r.Log.getD (Int.toNat (p - 1)) z_aEnt).Epoch ≠ pe)
 comm : ¬ ((common es (r.Log.drop p.toNat) < es.length ∧ p.toNat + common es (r.Log.drop p.toNat) < r.Log.length) ∧ ((p.toNat + common es (r.Log.drop p.toNat) : Nat) : Int) < r.Commit)
 room : ¬ (es.length : Int) > 5000 - p
theorem accept_ok {r : aRep} {e p pe : Int} {es : List aEnt} {cm : Int} (h : (acceptB r e p pe es cm).2 = 0) : Acc r e p pe es cm (acceptB r e p pe es cm).1 := by
 by_cases h0 : suitsB r e p pe es cm = true
 ·by_cases h1 : e < r.Epoch
  ·exfalso; unfold acceptB at h; rw [if_pos h0, if_pos h1] at h; cases h
  by_cases h2 : (r.Log.length : Int) < p
  ·exfalso; unfold acceptB at h; rw [if_pos h0, if_neg h1, if_pos h2] at h; cases h
  by_cases h3 : p > 0 ∧ (r.Log.getD (Int.toNat (p - 1)) z_aEnt).Epoch ≠ pe
  ·exfalso; unfold acceptB at h; rw [if_pos h0, if_neg h1, if_neg h2, if_pos h3] at h; cases h
  by_cases h4 : (common es (r.Log.drop p.toNat) < es.length ∧ p.toNat + common es (r.Log.drop p.toNat) < r.Log.length) ∧ ((p.toNat + common es (r.Log.drop p.toNat) : Nat) : Int) < r.Commit
  ·exfalso; unfold acceptB at h; rw [if_pos h0, if_neg h1, if_neg h2, if_neg h3, if_pos h4] at h; cases h
  by_cases h5 : (es.length : Int) > 5000 - p
  ·exfalso; unfold acceptB at h; rw [if_pos h0, if_neg h1, if_neg h2, if_neg h3, if_neg h4, if_pos h5] at h; cases h
  refine ⟨?_, h0, by omega, by omega, h3, h4, h5⟩
  unfold acceptB
  rw [if_pos h0, if_neg h1, if_neg h2, if_neg h3, if_neg h4, if_neg h5]
 ·exfalso; unfold acceptB at h; rw [if_neg h0] at h; cases h
theorem Acc.right {r : aRep} {e p pe : Int} {es : List aEnt} {cm : Int} {a : aRep} (h : Acc r e p pe es cm a) : rightB a = true := by
 obtain ⟨heq, hs, hge, hlen, hprev, hcomm, hroom⟩ := h
 obtain ⟨hr, he, hp, hpe, hpp, hcm, hri⟩ := suitsB_iff.1 hs
 obtain ⟨r1, r2, r3, r4, r5⟩ := rightB_iff.1 hr
 have hmid := logB_mid (es := es) hlen
 rw [rightB_iff, heq]
 refine ⟨⟨by show 0 ≤ e; omega, he.2⟩, ?_, logB_len hlen r3 (by omega), ?_, ?_⟩
 ·show -1 ≤ (if e > r.Epoch then (-1 : Int) else r.Vote) ∧ (if e > r.Epoch then (-1 : Int) else r.Vote) ≤ 8
  split <;> omega
 ·have hc1 := logB_common hlen r4.2 hcomm
  have hc2 := (common_le r.Log (logB r.Log es p.toNat)).2
  show 0 ≤ commB r p cm es.length ∧ commB r p cm es.length ≤ ((logB r.Log es p.toNat).length : Int)
  unfold commB
  simp only
  split <;> split <;> omega
 ·show okL (logB r.Log es p.toNat) 1 e = true
  rcases logB_cases (es := es) hlen with hl | ⟨hl, _⟩
  ·rw [hl, okL_append, Bool.and_eq_true]
   refine ⟨okL_up hge (okL_take _ r5), ?_⟩
   have h1 := risingB_okL hri
   by_cases hp0 : p = 0
   ·have : pe = 0 := by
     have := hpp; simp [hp0] at this; exact this
    subst hp0; subst this
    simpa [lastOr] using h1
   ·have hpe2 : (r.Log.getD (Int.toNat (p - 1)) z_aEnt).Epoch = pe := by
     refine Classical.byContradiction fun hh => hprev ⟨by omega, hh⟩
    have hlt : p.toNat - 1 < r.Log.length := by omega
    have hlast : lastOr 1 (r.Log.take p.toNat) = pe := by
     unfold lastOr
     rw [List.getLast?_eq_getElem?, List.length_take, Nat.min_eq_left hlen, List.getElem?_take, if_pos (by omega), List.getElem?_eq_getElem hlt]
     rw [← hpe2, show Int.toNat (p - 1) = p.toNat - 1 from by omega, List.getD_eq_getElem?_getD, List.getElem?_eq_getElem hlt]
     rfl
    rw [hlast]
    have hge1 : 1 ≤ pe := by
     rw [← hpe2]
     exact (okL_bounds r5 _ (getD_mem (by omega) _)).1
    rw [if_neg (by omega)] at h1
    exact h1
  ·rw [hl]; exact okL_up hge r5
end Go.Proofs.YtmafcdkdcfaajaaGreat
