/- The law. -/
import Derived.Test.YtmafcdkdcfaajaaGreatLwJ
import Derived.Test.YtmafcdkdcfaajaaGreatLwG
set_option linter.unusedVariables false
set_option linter.unusedSimpArgs false
namespace Go.Proofs.YtmafcdkdcfaajaaGreat
open Eng
variable {R R' : List aRep} {ld ep : Int} {n w : Nat} {P : Log}
def Up2 (n : Nat) (R R' : List aRep) : Prop := ∀ j, j < n → (rg R j).Commit ≤ (rg R' j).Commit
theorem Up2.refl : Up2 n R R := fun _ _ => Int.le_refl _
theorem Up2.trans {R1 R2 R3 : List aRep} (h : Up2 n R1 R2) (h' : Up2 n R2 R3) : Up2 n R1 R3 := fun j hj => Int.le_trans (h j hj) (h' j hj)
theorem Up2.set {i : Nat} {a : aRep} (hi : i < R.length) (ha : (rg R i).Commit ≤ a.Commit) : Up2 n R (R.set i a) := fun j hj => by
 rw [rg_set _ _ _ _ hi]
 split
 ·subst_vars; exact ha
 ·exact Int.le_refl _
theorem acc_up {s r : aRep} {p : Nat} {es : Log} {cm : Int} (h : (accB s r p es cm).2 = 0) : r.Commit ≤ (accB s r p es cm).1.Commit := by
 unfold accB at h ⊢
 rw [(accept_ok h).eq]
 show r.Commit ≤ commB r (p : Int) cm es.length
 unfold commB
 dsimp only
 repeat' split
 all_goals omega
theorem stepR_up {s : aRep} : ∀ (os : List Nat) (st : RS), (∀ j ∈ os, j < st.1.length) → Up2 n st.1 (os.foldl (stepR s) st).1
 | [], st, _ => Up2.refl
 | j :: os, st, h => by
  rw [List.foldl_cons]
  have hj := h j List.mem_cons_self
  have h1 : Up2 n st.1 (stepR s st j).1 ∧ (stepR s st j).1.length = st.1.length := by
   unfold stepR
   split
   ·rename_i hok; exact ⟨Up2.set hj (acc_up hok), by simp⟩
   ·exact ⟨Up2.refl, rfl⟩
  exact h1.1.trans (stepR_up os _ fun k hk => by rw [h1.2]; exact h k (List.mem_cons_of_mem _ hk))
theorem stepS_up {s : aRep} : ∀ (os : List Nat) (R : List aRep), (∀ j ∈ os, j < R.length) → Up2 n R (os.foldl (stepS s) R)
 | [], R, _ => Up2.refl
 | j :: os, R, h => by
  rw [List.foldl_cons]
  have hj := h j List.mem_cons_self
  have h1 : Up2 n R (stepS s R j) ∧ (stepS s R j).length = R.length := by
   unfold stepS
   split
   ·rename_i hok; exact ⟨Up2.set hj (acc_up hok), by simp⟩
   ·exact ⟨Up2.refl, rfl⟩
  exact h1.1.trans (stepS_up os _ fun k hk => by rw [h1.2]; exact h k (List.mem_cons_of_mem _ hk))
theorem ReplOf.inv {U : List Bool} {l : List Int} (hr : ReplOf R U ld l R') (h : Inv R ld ep n w P) (h0 : 0 ≤ ld) (hep : (rg R ld.toNat).Epoch = ep) (hn : n ≤ 9) : ∃ P', P <+: P' ∧ Inv R' ld ep n w P' ∧ Up2 n R R' := by
 obtain ⟨s, st, c, hs, hst, hg, hR'⟩ := hr
 have hl : ld.toNat < n := by have := h.ldn; omega
 have hse : s.Epoch = ep := by rw [hs]; exact hep
 have hom : ∀ j ∈ fl (Pb U ld l) R.length 0, j < n ∧ j ≠ ld.toNat := fun j hj => by
  have h1 := (fl_mem _ _ _).1 hj
  have h2 := Pb_ne h1.2.2
  have := h.len
  exact ⟨by omega, by omega⟩
 have hM : ((List.replicate (Int.toNat (R.length : Int)) (0 : Int)).set ld.toNat (s.Log.length : Int)).length = n := by simp [h.len]
 have hinit : RInv s ld ep n w P (R, (List.replicate (Int.toNat (R.length : Int)) (0 : Int)).set ld.toNat (s.Log.length : Int), []) := {
  inv := h
  lead := hs.symm
  ml := hM
  m := fun j hj => by
   by_cases e : j = ld.toNat
   ·right
    rw [e]
    refine ⟨getD_set_eq _ _ _ _ (by simp [h.len]; exact hl), ?_⟩
    rw [hs]; exact List.prefix_rfl
   ·left
    show ((List.replicate (Int.toNat (R.length : Int)) (0 : Int)).set ld.toNat (s.Log.length : Int)).getD j 0 = 0
    rw [getD_set_ne _ _ _ _ _ (Ne.symm e)]
    simp [List.getD_eq_getElem?_getD, List.getElem?_replicate]
    split <;> rfl
  held := fun j hj => by cases hj }
 have hf := RInv.fold h0 hse _ _ hom hinit
 rw [← hst] at hf
 have hup1 : Up2 n R st.1 := by
  have := stepR_up (n := n) (s := s) (fl (Pb U ld l) R.length 0) (R, (List.replicate (Int.toNat (R.length : Int)) (0 : Int)).set ld.toNat (s.Log.length : Int), []) (fun j hj => by have := (fl_mem _ _ _).1 hj; show j < R.length; omega)
  rw [← hst] at this
  exact this
 obtain ⟨P', hP, hi, hlead⟩ := hf.commit h0 hse hn hg
 have hlR : ld.toNat < st.1.length := by rw [hf.inv.len]; exact hl
 have hup2 : Up2 n st.1 (st.1.set ld.toNat ⟨s.Epoch, s.Vote, c, s.Log⟩) := Up2.set hlR (by
  rw [hf.lead]
  show s.Commit ≤ c
  rcases hg.is with h1 | h1
  ·omega
  ·omega)
 refine ⟨P', hP, ?_⟩
 rw [hR']
 split
 ·exact ⟨hi, hup1.trans hup2⟩
 ·have hheld : ∀ j ∈ st.2.2, j < n ∧ j ≠ ld.toNat ∧ (⟨s.Epoch, s.Vote, c, s.Log⟩ : aRep).Log <+: (rg (st.1.set ld.toNat ⟨s.Epoch, s.Vote, c, s.Log⟩) j).Log := fun j hj => by
   obtain ⟨q1, q2, q3⟩ := hf.held j hj
   refine ⟨q1, q2, ?_⟩
   rw [rg_set _ _ _ _ hlR, if_neg q2]
   exact q3
  obtain ⟨g1, _⟩ := Inv.foldS (s := ⟨s.Epoch, s.Vote, c, s.Log⟩) h0 hse st.2.2 _ hheld hi hlead
  exact ⟨g1, hup1.trans (hup2.trans (stepS_up _ _ fun j hj => by rw [List.length_set, hf.inv.len]; exact (hf.held j hj).1))⟩
theorem right_to {r : aRep} (h : rightB r = true) {e v : Int} (he : r.Epoch ≤ e) (he2 : e ≤ 1099511627776) (hv : -1 ≤ v ∧ v ≤ 8) : rightB ⟨e, v, r.Commit, r.Log⟩ = true := by
 rw [rightB_iff] at h ⊢
 exact ⟨⟨by show 0 ≤ e; omega, he2⟩, hv, h.2.2.1, h.2.2.2.1, okL_up he h.2.2.2.2⟩
theorem obs_ge {r : aRep} {e : Int} (he : r.Epoch ≤ e) : (obs r e).Epoch = e := by
 unfold obs
 split
 ·rfl
 ·omega
theorem obs_right {r : aRep} (h : rightB r = true) {e : Int} (he : r.Epoch ≤ e) (he2 : e ≤ 1099511627776) : rightB (obs r e) = true := by
 unfold obs
 split
 ·exact right_to h he he2 (by omega)
 ·exact h
theorem ask_cases {r : aRep} {e c li le : Int} (h : (askB r e c li le).2.2 = 0) : rightB r = true ∧ r.Epoch ≤ e ∧ e ≤ 1099511627776 ∧ (0 ≤ c ∧ c < 9) ∧
  ((askB r e c li le = (⟨e, c, r.Commit, r.Log⟩, true, 0) ∧ ((obs r e).Vote = -1 ∨ (obs r e).Vote = c) ∧ (le > lastE r ∨ (le = lastE r ∧ li ≥ r.Log.length))) ∨ askB r e c li le = (obs r e, false, 0)) := by
 by_cases h0 : rightB r = true ∧ 1 ≤ e ∧ e ≤ 1099511627776 ∧ (0 ≤ c ∧ c < 9) ∧ 0 ≤ li ∧ 0 ≤ le
 ·by_cases h1 : e < r.Epoch
  ·exfalso
   unfold askB at h
   rw [if_pos h0, if_pos h1] at h
   cases h
  ·have hge : r.Epoch ≤ e := by omega
   obtain ⟨hr, he1, he2, hc, hli, hle⟩ := h0
   refine ⟨hr, hge, he2, hc, ?_⟩
   by_cases h2 : ((obs r e).Vote = -1 ∨ (obs r e).Vote = c) ∧ (le > lastE r ∨ (le = lastE r ∧ li ≥ r.Log.length))
   ·left
    refine ⟨?_, h2.1, h2.2⟩
    unfold askB
    rw [if_pos ⟨hr, he1, he2, hc, hli, hle⟩, if_neg h1, if_pos h2, obs_ge hge]
   ·right
    unfold askB
    rw [if_pos ⟨hr, he1, he2, hc, hli, hle⟩, if_neg h1, if_neg h2]
 ·exfalso
  unfold askB at h
  rw [if_neg h0] at h
  cases h
def grantB (R0 : List aRep) (P : Nat → Bool) (e c li le : Int) (j : Nat) : Bool := P j && (decide ((askB (rg R0 j) e c li le).2.2 = 0) && (askB (rg R0 j) e c li le).2.1)
theorem stepE_val (R0 : List aRep) (P : Nat → Bool) (e c li le : Int) : ∀ (d m : Nat) (v : Int) (R : List aRep), m + d ≤ R.length → (∀ j, m ≤ j → j < m + d → P j = true → rg R j = rg R0 j) →
  ((fl P d m).foldl (stepE e c li le) (v, R)).1 = v + ((fl (grantB R0 P e c li le) d m).length : Int) ∧
  ∀ j, rg ((fl P d m).foldl (stepE e c li le) (v, R)).2 j = if m ≤ j ∧ j < m + d ∧ P j = true ∧ (askB (rg R0 j) e c li le).2.2 = 0 then (askB (rg R0 j) e c li le).1 else rg R j
 | 0, m, v, R, _, _ => ⟨by simp [fl], fun j => by rw [if_neg (by omega)]; rfl⟩
 | d + 1, m, v, R, hlen, hinv => by
  rw [show fl P (d + 1) m = if P m = true then m :: fl P d (m + 1) else fl P d (m + 1) from rfl, show fl (grantB R0 P e c li le) (d + 1) m = if grantB R0 P e c li le m = true then m :: fl (grantB R0 P e c li le) d (m + 1) else fl (grantB R0 P e c li le) d (m + 1) from rfl]
  by_cases hp : P m = true
  ·rw [if_pos hp, List.foldl_cons]
   have hm : rg R m = rg R0 m := hinv m (by omega) (by omega) hp
   by_cases hok : (askB (rg R0 m) e c li le).2.2 = 0
   ·have hst : stepE e c li le (v, R) m = ((if (askB (rg R0 m) e c li le).2.1 = true then v + 1 else v), R.set m (askB (rg R0 m) e c li le).1) := by
     show (if (askB (rg R m) e c li le).2.2 = 0 then ((if (askB (rg R m) e c li le).2.1 = true then v + 1 else v), R.set m (askB (rg R m) e c li le).1) else (v, R)) = _
     rw [hm, if_pos hok]
    rw [hst]
    obtain ⟨i1, i2⟩ := stepE_val R0 P e c li le d (m + 1) (if (askB (rg R0 m) e c li le).2.1 = true then v + 1 else v) (R.set m (askB (rg R0 m) e c li le).1) (by rw [List.length_set]; omega) (fun j h1 h2 h3 => by
     rw [rg_set _ _ _ _ (by omega), if_neg (by omega)]; exact hinv j (by omega) (by omega) h3)
    refine ⟨?_, fun j => ?_⟩
    ·rw [i1]
     have hg : grantB R0 P e c li le m = (askB (rg R0 m) e c li le).2.1 := by unfold grantB; rw [hp, decide_eq_true hok]; rfl
     rw [hg]
     split
     ·rw [List.length_cons]; omega
     ·rfl
    ·rw [i2 j, rg_set _ _ _ _ (by omega)]
     by_cases ej : j = m
     ·subst ej
      rw [if_neg (by omega), if_pos rfl, if_pos ⟨by omega, by omega, hp, hok⟩]
     ·rw [if_neg ej]
      by_cases hc : m + 1 ≤ j ∧ j < m + 1 + d ∧ P j = true ∧ (askB (rg R0 j) e c li le).2.2 = 0
      ·rw [if_pos hc, if_pos ⟨by omega, by omega, hc.2.2⟩]
      ·rw [if_neg hc, if_neg (fun hh => hc ⟨by omega, by omega, hh.2.2⟩)]
   ·have hst : stepE e c li le (v, R) m = (v, R) := by
     show (if (askB (rg R m) e c li le).2.2 = 0 then _ else (v, R)) = _
     rw [hm, if_neg hok]
    rw [hst]
    obtain ⟨i1, i2⟩ := stepE_val R0 P e c li le d (m + 1) v R (by omega) (fun j h1 h2 h3 => hinv j (by omega) (by omega) h3)
    refine ⟨?_, fun j => ?_⟩
    ·rw [i1]
     have hg : grantB R0 P e c li le m = false := by unfold grantB; rw [decide_eq_false hok, Bool.false_and, Bool.and_false]
     rw [hg]
     rfl
    ·rw [i2 j]
     by_cases hc : m + 1 ≤ j ∧ j < m + 1 + d ∧ P j = true ∧ (askB (rg R0 j) e c li le).2.2 = 0
     ·rw [if_pos hc, if_pos ⟨by omega, by omega, hc.2.2⟩]
     ·rw [if_neg hc, if_neg (fun hh => hc ⟨by
       have : j ≠ m := fun e => by subst e; exact hok hh.2.2.2
       omega, by omega, hh.2.2⟩)]
  ·rw [if_neg hp]
   obtain ⟨i1, i2⟩ := stepE_val R0 P e c li le d (m + 1) v R (by omega) (fun j h1 h2 h3 => hinv j (by omega) (by omega) h3)
   refine ⟨?_, fun j => ?_⟩
   ·rw [i1]
    have hg : grantB R0 P e c li le m = false := by
     unfold grantB
     simp only [Bool.not_eq_true] at hp
     rw [hp, Bool.false_and]
    rw [hg]
    rfl
   ·rw [i2 j]
    by_cases hc : m + 1 ≤ j ∧ j < m + 1 + d ∧ P j = true ∧ (askB (rg R0 j) e c li le).2.2 = 0
    ·rw [if_pos hc, if_pos ⟨by omega, by omega, hc.2.2⟩]
    ·rw [if_neg hc, if_neg (fun hh => hc ⟨by
      have : j ≠ m := fun e => by subst e; exact hp hh.2.2.1
      omega, by omega, hh.2.2⟩)]
theorem fl_countP (G : Nat → Bool) : ∀ (d m : Nat), (fl G d m).length = (List.range' m d).countP G
 | 0, m => by simp [fl]
 | d + 1, m => by
  rw [show fl G (d + 1) m = if G m = true then m :: fl G d (m + 1) else fl G d (m + 1) from rfl, List.range'_succ, List.countP_cons]
  have ih := fl_countP G d (m + 1)
  split
  ·rw [List.length_cons, ih]
  ·rw [ih]; rfl
theorem countP_or_one (G : Nat → Bool) (c : Nat) (hG : G c = false) : ∀ (d m : Nat), m ≤ c → c < m + d → (List.range' m d).countP (fun j => decide (j = c) || G j) = (List.range' m d).countP G + 1
 | 0, m, h1, h2 => by omega
 | d + 1, m, h1, h2 => by
  rw [List.range'_succ, List.countP_cons, List.countP_cons]
  by_cases e : m = c
  ·subst e
   have : (List.range' (m + 1) d).countP (fun j => decide (j = m) || G j) = (List.range' (m + 1) d).countP G := by
    refine List.countP_congr fun j hj => ?_
    have := (List.mem_range'_1.1 hj).1
    have hne : ¬ j = m := by omega
    simp [hne]
   rw [this, hG]
   simp
  ·rw [countP_or_one G c hG d (m + 1) (by omega) (by omega)]
   have : (decide (m = c) || G m) = G m := by rw [decide_eq_false e, Bool.false_or]
   rw [this]
   omega
end Go.Proofs.YtmafcdkdcfaajaaGreat
