/- The law. -/
import Derived.Test.YtmafcdkdcfaajaaGreatLwK
set_option linter.unusedVariables false
set_option linter.unusedSimpArgs false
namespace Go.Proofs.YtmafcdkdcfaajaaGreat
open Eng
variable {R R' : List aRep} {ld ep : Int} {n w : Nat} {P : Log}
theorem elect_inv (h : Inv R ld ep n w P) {U : List Bool} {i : Int} {l : List Int} {x : group_Group × Int} (hx : ElectOf R U ld ep i l x) (hn : n ≤ 9) :
  (x.2 ≠ 0 ∧ x.2 ≠ 27) ∨ ((x.2 = 0 ∨ x.2 = 27) ∧ x.1.Up = U ∧ ∃ w', Inv x.1.Replicas x.1.Leader x.1.Epoch n w' P ∧ Up2 n R x.1.Replicas) := by
 rcases hx with hx | ⟨hs, s, st, hA, hst, hx⟩
 ·exact .inl hx
 right
 obtain ⟨hb, hf, hall⟩ := suitB_spec hs
 have hRn := h.len
 have hc : i.toNat < n := by omega
 have hic : ((i.toNat : Nat) : Int) = i := by omega
 have hr0 := h.right _ hc
 -- the candidate
 have hse : (rg R i.toNat).Epoch < 1099511627776 ∧ s = ⟨(rg R i.toNat).Epoch + 1, i, (rg R i.toNat).Commit, (rg R i.toNat).Log⟩ ∧ 0 ≤ i ∧ i < 9 := by
  unfold standB at hA
  split at hA
  ·rename_i hh
   split at hA
   ·cases hA
   ·rename_i hlt
    have he := (rightB_iff.1 hr0).1
    simp only [Prod.mk.injEq] at hA
    refine ⟨by show (R.getD i.toNat z_aRep).Epoch < _; omega, ?_, hh.2⟩
    rw [← hA.1, Eng.wrap_small (by show _ ≤ (R.getD i.toNat z_aRep).Epoch + 1; have : 0 ≤ (R.getD i.toNat z_aRep).Epoch := he.1; omega) (by omega)]
  ·cases hA
 obtain ⟨hlt, hs2, hi0, hi9⟩ := hse
 have he' : s.Epoch = (rg R i.toNat).Epoch + 1 := by rw [hs2]
 have hcR : i.toNat < R.length := by omega
 have hPc : Pb U i l i.toNat = false := by
  cases hh : Pb U i l i.toNat with
  | false => rfl
  | true => exact absurd hic (Pb_ne hh)
 have hne : ∀ j, Pb U i l j = true → j ≠ i.toNat := fun j hj e => by subst e; rw [hPc] at hj; cases hj
 obtain ⟨v1, v2⟩ := stepE_val R (Pb U i l) s.Epoch i (s.Log.length : Int) (lastE s) R.length 0 1 (R.set i.toNat s) (by rw [List.length_set]; omega) (fun j _ _ hp => by rw [rg_set _ _ _ _ hcR, if_neg (hne j hp)])
 rw [← hst] at v1 v2
 obtain ⟨l1, _⟩ := stepE_inv (e := s.Epoch) (c := i) (li := (s.Log.length : Int)) (le := lastE s) (fl (Pb U i l) R.length 0) (1, R.set i.toNat s) (fit_set hf (by
  rw [hs2]
  have := rightB_fit hr0
  exact this))
 rw [← hst] at l1
 simp only [List.length_set] at l1
 have hR'c : rg st.2 i.toNat = s := by
  rw [v2, if_neg (by rw [hPc]; simp), rg_set _ _ _ _ hcR, if_pos rfl]
 have hj2 : ∀ j, j < n → j ≠ i.toNat → (rg st.2 j = rg R j) ∨ (Pb U i l j = true ∧ (askB (rg R j) s.Epoch i (s.Log.length : Int) (lastE s)).2.2 = 0 ∧ rg st.2 j = (askB (rg R j) s.Epoch i (s.Log.length : Int) (lastE s)).1) := fun j hj hjc => by
  rw [v2]
  by_cases hh : 0 ≤ j ∧ j < 0 + R.length ∧ Pb U i l j = true ∧ (askB (rg R j) s.Epoch i (s.Log.length : Int) (lastE s)).2.2 = 0
  ·rw [if_pos hh]; exact .inr ⟨hh.2.2.1, hh.2.2.2, rfl⟩
  ·rw [if_neg hh, rg_set _ _ _ _ hcR, if_neg hjc]; exact .inl rfl
 -- each replica behind
 have hall2 : ∀ j, j < n → rightB (rg st.2 j) = true ∧ (rg st.2 j).Log = (rg R j).Log ∧ (rg st.2 j).Commit = (rg R j).Commit ∧ ((rg st.2 j).Epoch > (rg R j).Epoch ∨ ((rg st.2 j).Epoch = (rg R j).Epoch ∧ ((rg st.2 j).Vote = (rg R j).Vote ∨ (rg R j).Vote = -1))) := fun j hj => by
  by_cases e : j = i.toNat
  ·subst e
   rw [hR'c, hs2]
   refine ⟨right_to hr0 (by omega) (by omega) (by omega), rfl, rfl, .inl ?_⟩
   show (rg R i.toNat).Epoch + 1 > _
   omega
  ·rcases hj2 j hj e with h1 | ⟨h1, h2, h3⟩
   ·rw [h1]; exact ⟨h.right j hj, rfl, rfl, .inr ⟨rfl, .inl rfl⟩⟩
   ·obtain ⟨k1, k2, k3, k4, k5⟩ := ask_cases h2
    rw [h3]
    rcases k5 with ⟨k5, k6, k7⟩ | k5
    ·rw [k5]
     refine ⟨right_to k1 k2 k3 (by omega), rfl, rfl, ?_⟩
     show s.Epoch > _ ∨ (s.Epoch = _ ∧ (i = _ ∨ _))
     by_cases hh : s.Epoch > (rg R j).Epoch
     ·exact .inl hh
     ·right
      unfold obs at k6
      rw [if_neg hh] at k6
      exact ⟨by omega, by omega⟩
    ·rw [k5]
     refine ⟨obs_right k1 k2 k3, obs_log _ _, obs_commit _ _, ?_⟩
     show (obs (rg R j) s.Epoch).Epoch > _ ∨ ((obs (rg R j) s.Epoch).Epoch = _ ∧ _)
     unfold obs
     split
     ·left; assumption
     ·exact .inr ⟨rfl, .inl rfl⟩
 have hup : Up2 n R st.2 := fun j hj => by rw [(hall2 j hj).2.2.1]; exact Int.le_refl _
 have hlen : st.2.length = n := by omega
 rw [hx]
 by_cases hw : won st.1 (R.length : Int) = true
 ·rw [if_pos hw]
  refine ⟨.inl rfl, rfl, i.toNat, ?_, hup⟩
  have hgc : grantB R (Pb U i l) s.Epoch i (s.Log.length : Int) (lastE s) i.toNat = false := by unfold grantB; rw [hPc, Bool.false_and]
  have hm : Maj n (fun j => decide (j = i.toNat) || grantB R (Pb U i l) s.Epoch i (s.Log.length : Int) (lastE s) j) := by
   unfold Maj
   have h1 := countP_or_one (grantB R (Pb U i l) s.Epoch i (s.Log.length : Int) (lastE s)) i.toNat hgc n 0 (by omega) (by omega)
   rw [List.range_eq_range', h1, ← fl_countP]
   unfold won maj at hw
   simp only [decide_eq_true_eq] at hw
   rw [hRn] at v1 hw
   rw [v1] at hw
   split at hw <;> omega
  have := h.elected hlen (fun j hj => (hall2 j hj).1) (fun j hj => (hall2 j hj).2.1) (fun j hj => (hall2 j hj).2.2.1) (fun j hj => (hall2 j hj).2.2.2) hc he' (by rw [hR'c]) (by omega) hm (fun j hj hg => by
   by_cases e : j = i.toNat
   ·subst e
    rw [hR'c]
    exact ⟨rfl, by rw [hs2]; exact hic.symm, .inl rfl⟩
   ·rw [decide_eq_false e, Bool.false_or] at hg
    unfold grantB at hg
    simp only [Bool.and_eq_true, decide_eq_true_eq] at hg
    obtain ⟨g1, g2, g3⟩ := hg
    obtain ⟨k1, k2, k3, k4, k5⟩ := ask_cases g2
    have hrg : rg st.2 j = (askB (rg R j) s.Epoch i (s.Log.length : Int) (lastE s)).1 := by
     rw [v2, if_pos ⟨by omega, by omega, g1, g2⟩]
    rcases k5 with ⟨k5, k6, k7⟩ | k5
    ·rw [hrg, k5]
     refine ⟨rfl, hic.symm, .inr ⟨?_, ?_⟩⟩
     ·have hsl : lastE s = lastL (rg R i.toNat).Log := by rw [hs2]; rfl
      have hsn : s.Log = (rg R i.toNat).Log := by rw [hs2]
      rw [hsl, hsn, lastE_eq] at k7
      unfold le2
      omega
     ·by_cases hh : s.Epoch > (rg R j).Epoch
      ·exact .inl hh
      ·right
       unfold obs at k6
       rw [if_neg hh] at k6
       exact ⟨by omega, by rw [hic]; exact k6⟩
    ·rw [k5] at g3
     cases g3)
  rw [hic] at this
  exact this.2
 ·rw [if_neg hw]
  exact ⟨.inr rfl, rfl, w, h.votes hlen (fun j hj => (hall2 j hj).1) (fun j hj => (hall2 j hj).2.1) (fun j hj => (hall2 j hj).2.2.1) (fun j hj => (hall2 j hj).2.2.2), hup⟩
end Go.Proofs.YtmafcdkdcfaajaaGreat
