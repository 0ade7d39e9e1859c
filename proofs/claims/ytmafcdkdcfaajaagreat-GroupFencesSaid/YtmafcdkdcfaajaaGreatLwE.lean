/- The law. -/
import Derived.Test.YtmafcdkdcfaajaaGreatLwD
set_option linter.unusedVariables false
set_option linter.unusedSimpArgs false
namespace Go.Proofs.YtmafcdkdcfaajaaGreat
open Eng
theorem Fit.held {r : aRep} (h : Fit r) : Held r 65536 := h
theorem castL_get (os : List Nat) (p : Nat) (h : p < os.length) : (castL os).getD p (0 : Int) = ((os.getD p 0 : Nat) : Int) := by
 simp [castL, List.getD_eq_getElem?_getD, h]
theorem castL_len (os : List Nat) : (castL os).length = os.length := by simp [castL]
theorem castL_append (xs ys : List Nat) : castL (xs ++ ys) = castL xs ++ castL ys := by simp [castL]
theorem getD_set_ne {α : Type} (R : List α) (m j : Nat) (a d : α) (h : m ≠ j) : (R.set m a).getD j d = R.getD j d := by
 simp [List.getD_eq_getElem?_getD, List.getElem?_set_ne h]
theorem getD_set_eq {α : Type} (R : List α) (m : Nat) (a d : α) (h : m < R.length) : (R.set m a).getD m d = a := by
 simp [List.getD_eq_getElem?_getD, h]
theorem fit_getD {R : List aRep} (hf : ∀ r ∈ R, Fit r) {j : Nat} (h : j < R.length) : Fit (R.getD j ZR) := hf _ (getD_mem h ZR)
theorem fit_set {R : List aRep} (hf : ∀ r ∈ R, Fit r) {j : Nat} {a : aRep} (ha : Fit a) : ∀ r ∈ R.set j a, Fit r := fun r hr => by
 rcases List.mem_or_eq_of_mem_set hr with h | rfl
 ·exact hf r h
 ·exact ha
def stepE (e c li le : Int) (st : Int × List aRep) (j : Nat) : Int × List aRep :=
 if (askB (st.2.getD j ZR) e c li le).2.2 = 0 then ((if (askB (st.2.getD j ZR) e c li le).2.1 = true then st.1 + 1 else st.1), st.2.set j (askB (st.2.getD j ZR) e c li le).1) else st
theorem stepE_inv {e c li le : Int} : ∀ (os : List Nat) (st : Int × List aRep), (∀ r ∈ st.2, Fit r) → (os.foldl (stepE e c li le) st).2.length = st.2.length ∧ ∀ r ∈ (os.foldl (stepE e c li le) st).2, Fit r
 | [], st, h => ⟨rfl, h⟩
 | j :: os, st, h => by
  rw [List.foldl_cons]
  have h1 : (stepE e c li le st j).2.length = st.2.length ∧ ∀ r ∈ (stepE e c li le st j).2, Fit r := by
   unfold stepE
   split
   ·exact ⟨by simp, fit_set h (askB_fit _ _ _ _)⟩
   ·exact ⟨rfl, h⟩
  obtain ⟨h2, h3⟩ := stepE_inv os _ h1.2
  exact ⟨h2.trans h1.1, h3⟩
theorem gelect (K : Nat) (c : Int) (s : aRep) (li le : Int) (os : List Nat) (n : Nat) (hos : os.length ≤ 9) (hm : ∀ j ∈ os, j < n) (hK : 5001 ≤ K) : ∀ (k p : Nat) (v : Int) (R : List aRep), os.length - p < k → p ≤ os.length → R.length = n → 0 ≤ v → v ≤ p + 1 →
  group_Elect.l41 K c s li le (castL os) k v (p : Int) R = some ((os.drop p).foldl (stepE s.Epoch c li le) (v, R)) := by
 intro k
 induction k with
 | zero => intro p v R h; omega
 | succ k ih =>
  intro p v R h hp hR h0 h1
  unfold group_Elect.l41
  rw [castL_len]
  by_cases hlt : p < os.length
  ·have hj := hm _ (getD_mem hlt 0)
   rw [drop_step hlt 0]
   simp only [Int.toNat_natCast, castL_get os p hlt]
   generalize os.getD p 0 = j at hj
   have q1 : (p : Int) < os.length := by omega
   have q2 : (0 : Int) ≤ p ∧ (p : Int) < os.length := by omega
   have q4 : (0 : Int) ≤ j ∧ (j : Int) < R.length := by omega
   have q5 : j < R.length := by omega
   simp only [if_pos q1, if_pos q2, if_pos hlt, if_pos q4, if_pos q5]
   rw [Ask_eq K _ _ _ _ _ hK, wrap_succ (by omega), List.foldl_cons]
   simp only [Option.bind_some]
   have hst : stepE s.Epoch c li le (v, R) j = if (askB (R.getD j ZR) s.Epoch c li le).2.2 = 0 then ((if (askB (R.getD j ZR) s.Epoch c li le).2.1 = true then v + 1 else v), R.set j (askB (R.getD j ZR) s.Epoch c li le).1) else (v, R) := rfl
   rw [hst]
   rcases hA : askB (R.getD j ZR) s.Epoch c li le with ⟨ar, ay, ae⟩
   simp only
   by_cases he : ae = 0
   ·rw [if_neg (by simpa using he), if_pos he, Eng.wrap_small (by omega) (by omega)]
    by_cases hy : ay = true
    ·rw [if_pos hy, if_pos hy]
     exact ih (p + 1) (v + 1) _ (by omega) (by omega) (by simpa using hR) (by omega) (by omega)
    ·rw [if_neg hy, if_neg hy]
     exact ih (p + 1) v _ (by omega) (by omega) (by simpa using hR) (by omega) (by omega)
   ·rw [if_pos he, if_neg he]
    exact ih (p + 1) v R (by omega) (by omega) hR (by omega) (by omega)
  ·rw [if_neg (by omega), drop_end hlt]
   rfl
theorem relect (K : Nat) (f : wr55_Group) (c : Int) (s : aRep) (li le : Int) (inn : List Bool) (P : Nat → Bool) (n : Nat) (hn : n ≤ 9) (hf : f.Replicas.length = n) (hin : inn.length = n) (hP : ∀ j, j < n → inn.getD j false = P j) (hK : 5001 ≤ K) :
  ∀ (d k m : Nat) (v : Int) (R : List aRep), m + d = n → d < k → R.length = n → (∀ j, m ≤ j → j < n → P j = true → R.getD j ZR = f.Replicas.getD j ZR) → 0 ≤ v → v ≤ m + 1 →
  wr55_Elect.l37 K f c s inn li le k v (m : Int) R = some ((fl P d m).foldl (stepE s.Epoch c li le) (v, R)) := by
 intro d
 induction d with
 | zero =>
  intro k m v R hm hk hR hinv h0 h1
  cases k with
  | zero => omega
  | succ k =>
   unfold wr55_Elect.l37
   rw [if_neg (by omega)]
   rfl
 | succ d ih =>
  intro k m v R hm hk hR hinv h0 h1
  cases k with
  | zero => omega
  | succ k =>
   unfold wr55_Elect.l37
   have q1 : (m : Int) < inn.length := by omega
   have q2 : (0 : Int) ≤ m ∧ (m : Int) < inn.length := by omega
   have q3 : (m : Int) < f.Replicas.length := by omega
   have q4 : (m : Int) < R.length := by omega
   have q5 : m < R.length := by omega
   simp only [if_pos q1, if_pos q2, if_pos q3, Int.toNat_natCast, if_pos q4, if_pos q5]
   rw [hP m (by omega), wrap_succ (by omega), show fl P (d + 1) m = if P m = true then m :: fl P d (m + 1) else fl P d (m + 1) from rfl]
   by_cases hp : P m = true
   ·rw [if_pos hp, if_pos hp, ← hinv m (by omega) (by omega) hp, rAsk_eq K _ _ _ _ _ hK, List.foldl_cons]
    simp only [Option.bind_some]
    have hst : stepE s.Epoch c li le (v, R) m = if (askB (R.getD m ZR) s.Epoch c li le).2.2 = 0 then ((if (askB (R.getD m ZR) s.Epoch c li le).2.1 = true then v + 1 else v), R.set m (askB (R.getD m ZR) s.Epoch c li le).1) else (v, R) := rfl
    rw [hst]
    have hset : ∀ a, ∀ j, m + 1 ≤ j → j < n → P j = true → (R.set m a).getD j ZR = f.Replicas.getD j ZR := fun a j h2 h3 h4 => by
     rw [getD_set_ne _ _ _ _ _ (by omega)]; exact hinv j (by omega) h3 h4
    rcases hA : askB (R.getD m ZR) s.Epoch c li le with ⟨ar, ay, ae⟩
    simp only
    by_cases he : ae = 0
    ·rw [if_pos he, if_pos he, Eng.wrap_small (by omega) (by omega)]
     by_cases hy : ay = true
     ·rw [if_pos hy, if_pos hy]
      exact ih k (m + 1) (v + 1) _ (by omega) (by omega) (by simpa using hR) (hset _) (by omega) (by omega)
     ·rw [if_neg hy, if_neg hy]
      exact ih k (m + 1) v _ (by omega) (by omega) (by simpa using hR) (hset _) (by omega) (by omega)
    ·rw [if_neg he, if_neg he]
     exact ih k (m + 1) v R (by omega) (by omega) hR (fun j h2 h3 h4 => hinv j (by omega) h3 h4) (by omega) (by omega)
   ·rw [if_neg hp, if_neg hp]
    exact ih k (m + 1) v R (by omega) (by omega) hR (fun j h2 h3 h4 => hinv j (by omega) h3 h4) (by omega) (by omega)
theorem suitB_spec {R : List aRep} {U : List Bool} {ld ep i : Int} {l : List Int} (h : suitB R U ld ep i l = true) : (1 ≤ R.length ∧ R.length ≤ 9 ∧ U.length = R.length ∧ 0 ≤ i ∧ i < (R.length : Int)) ∧ (∀ r ∈ R, Fit r) ∧ l.all (memB · R.length) = true := by
 unfold suitB at h
 simp only [Bool.and_eq_true] at h
 obtain ⟨h1, h2, h3⟩ := h
 obtain ⟨h4, h5⟩ := okG_spec h1
 have hi : 0 ≤ i ∧ i < (R.length : Int) := of_decide_eq_true h2
 exact ⟨by omega, fun r hr => rightB_fit (h5 r hr), h3⟩
theorem Pb_ne {U : List Bool} {me : Int} {l : List Int} {j : Nat} (h : Pb U me l j = true) : (j : Int) ≠ me := by
 unfold Pb at h
 simp only [Bool.and_eq_true, decide_eq_true_eq] at h
 exact h.2.1
def ElectOf (R : List aRep) (U : List Bool) (ld ep i : Int) (l : List Int) (x : group_Group × Int) : Prop :=
 (x.2 ≠ 0 ∧ x.2 ≠ 27) ∨ (suitB R U ld ep i l = true ∧ ∃ s st, standB (R.getD i.toNat z_aRep) i = (s, 0) ∧ st = (fl (Pb U i l) R.length 0).foldl (stepE s.Epoch i (s.Log.length : Int) (lastE s)) (1, R.set i.toNat s) ∧
  x = if won st.1 (R.length : Int) = true then (⟨st.2, U, i, s.Epoch⟩, 0) else (⟨st.2, U, ld, ep⟩, 27))
theorem standB_err (r : aRep) (me : Int) : (standB r me).2 ≠ 27 := by
 unfold standB
 repeat' split
 all_goals simp
theorem elect_both (K : Nat) (R : List aRep) (U : List Bool) (ld ep i : Int) (l : List Int) (hl : l.length ≤ 30) (hK : 100000 ≤ K) : ∃ x y, group_Elect K ⟨R, U, ld, ep⟩ i l = some x ∧ wr55_Elect K ⟨R, U, ld, ep⟩ i l = some y ∧ Both x y ∧ ElectOf R U ld ep i l x := by
 unfold group_Elect wr55_Elect
 rw [suits_eqG K _ _ _ hl (by omega), rargs_eq K _ _ _ hl (by omega)]
 simp only [Option.bind_some]
 cases hs : suitB R U ld ep i l with
 | false => exact ⟨_, _, rfl, rfl, .zero _, .inl ⟨by show (2 : Int) ≠ 0; omega, by show (2 : Int) ≠ 27; omega⟩⟩
 | true =>
  obtain ⟨hb, hf, hall⟩ := suitB_spec hs
  have q1 : (0 : Int) ≤ i ∧ i < (U.length : Int) := by omega
  have q2 : (0 : Int) ≤ i ∧ i < (R.length : Int) := by omega
  simp only [if_true, if_pos q1, if_pos q2, if_pos q2.2]
  by_cases hu : U.getD i.toNat false = true
  ·simp only [if_pos hu, ne_eq, not_true_eq_false, if_false]
   rw [Stand_eq K _ _ (by omega), rStand_eq K _ _ (by omega)]
   simp only [Option.bind_some]
   have hsf := standB_fit (R.getD i.toNat z_aRep) i
   rcases hA : standB (R.getD i.toNat z_aRep) i with ⟨s, e⟩
   rw [hA] at hsf
   replace hsf : Fit s := hsf
   simp only
   by_cases he : e ≠ 0
   ·rw [if_pos he, if_pos he]
    exact ⟨_, _, rfl, rfl, .zero _, .inl ⟨he, by have := standB_err (R.getD i.toNat z_aRep) i; rw [hA] at this; exact this⟩⟩
   ·rw [if_neg he, if_neg he, clone2_eq K _ (by show R.length ≤ 9; omega) (by show U.length ≤ 9; omega) hf (by omega), cloned2_eq K _ (by show R.length ≤ 9; omega) (by show U.length ≤ 9; omega)]
    simp only [Option.bind_some]
    have q3 : i.toNat < R.length := by omega
    simp only [if_pos q2.2, if_pos q3]
    rw [Last_eq K s (by have := hsf.1; omega), rLast_eq K s (by have := hsf.1; omega), others2_eq K _ _ _ hl (by omega) (by show (R.set i.toNat s).length ≤ 9; rw [List.length_set]; omega) (by show U.length = (R.set i.toNat s).length; rw [List.length_set]; omega),
     partakes_eq K _ _ _ hl (by omega) (by show R.length ≤ 9; omega) (by show U.length = R.length; omega) hall]
    simp only [Option.bind_some]
    rw [List.length_set]
    have hsetf : ∀ r ∈ R.set i.toNat s, Fit r := fit_set hf hsf
    have e1 := gelect K i s (s.Log.length : Int) (lastE s) (fl (Pb U i l) R.length 0) R.length (Nat.le_trans (fl_len _ _) (by omega)) (fun j hj => by have := (fl_mem _ _ _).1 hj; omega) (by omega) K 0 1 (R.set i.toNat s) (by have := fl_len (P := Pb U i l) R.length 0; omega) (by omega) (by simp) (by omega) (by omega)
    have e2 := relect K ⟨R, U, ld, ep⟩ i s (s.Log.length : Int) (lastE s) (inL U i l R.length) (Pb U i l) R.length (by omega) rfl (inL_len _ _ _ _) (fun j hj => inL_get _ _ _ _ _ hj) (by omega) R.length K 0 1 (R.set i.toNat s) (by omega) (by omega) (by simp)
     (fun j _ hj hp => getD_set_ne _ _ _ _ _ (by have := Pb_ne hp; omega)) (by omega) (by omega)
    rw [show ((0 : Nat) : Int) = 0 from rfl] at e1 e2
    simp only [List.drop_zero] at e1
    rw [e1, e2]
    simp only [Option.bind_some]
    obtain ⟨i1, i2⟩ := stepE_inv (e := s.Epoch) (c := i) (li := (s.Log.length : Int)) (le := lastE s) (fl (Pb U i l) R.length 0) (1, R.set i.toNat s) hsetf
    rcases hS : (fl (Pb U i l) R.length 0).foldl (stepE s.Epoch i (s.Log.length : Int) (lastE s)) (1, R.set i.toNat s) with ⟨v, R'⟩
    rw [hS] at i1 i2
    simp only [List.length_set] at i1 i2
    simp only
    rw [inL_len, i1, won_eq K _ _ (by unfold I64; omega), rwon_eq K _ _ (by unfold I64; omega)]
    simp only [Option.bind_some]
    have he0 : e = 0 := by simpa using he
    split
    ·rename_i hw
     exact ⟨_, _, rfl, rfl, .mk' (by omega) (by omega) i2, .inr ⟨hs, s, (v, R'), by rw [hA, he0], hS.symm, by rw [if_pos hw]⟩⟩
    ·rename_i hw
     exact ⟨_, _, rfl, rfl, .mk' (by omega) (by omega) i2, .inr ⟨hs, s, (v, R'), by rw [hA, he0], hS.symm, by rw [if_neg hw]⟩⟩
  ·have hu' := hu
   simp only [Bool.not_eq_true] at hu'
   simp only [hu', Bool.false_eq_true, if_false]
   exact ⟨_, _, rfl, rfl, .zero _, .inl ⟨by show (28 : Int) ≠ 0; omega, by show (28 : Int) ≠ 27; omega⟩⟩
end Go.Proofs.YtmafcdkdcfaajaaGreat
