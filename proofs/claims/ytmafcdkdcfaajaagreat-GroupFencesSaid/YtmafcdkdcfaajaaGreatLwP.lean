/- The law. -/
import Derived.Test.YtmafcdkdcfaajaaGreatLwO
set_option linter.unusedVariables false
set_option linter.unusedSimpArgs false
namespace Go.Proofs.YtmafcdkdcfaajaaGreat
open Eng
variable {R R' : List aRep} {ld ep : Int} {n w : Nat} {P : Log}
theorem fold_all {s : aRep} {Q : Nat → Bool} (h0 : 0 ≤ ld) (h1 : 1 ≤ ep) (hse : s.Epoch = ep) : ∀ (d m : Nat) (st : RS), m + d ≤ n → RInv s ld ep n w P st → (∀ j, m ≤ j → j < n → Q j = true → (rg st.1 j).Epoch ≤ ep ∧ j ≠ ld.toNat) →
  ∀ j, ((fl Q d m).foldl (stepR s) st).2.1.getD j 0 = if m ≤ j ∧ j < m + d ∧ Q j = true then (s.Log.length : Int) else st.2.1.getD j 0
 | 0, m, st, _, _, _, j => by rw [if_neg (by omega)]; rfl
 | d + 1, m, st, hm, h, hq, j => by
  rw [show fl Q (d + 1) m = if Q m = true then m :: fl Q d (m + 1) else fl Q d (m + 1) from rfl]
  by_cases hp : Q m = true
  ·rw [if_pos hp, List.foldl_cons]
   obtain ⟨q1, q2⟩ := hq m (by omega) (by omega) hp
   have hok := accept_all h.inv h0 h1 (j := m) (by omega) h.lead hse q1
   have hst : stepR s st m = (st.1.set m (accB s (rg st.1 m) (common s.Log (rg st.1 m).Log) (s.Log.drop (common s.Log (rg st.1 m).Log)) s.Commit).1, st.2.1.set m (s.Log.length : Int), st.2.2 ++ [m]) := by
    unfold stepR
    rw [if_pos hok]
   have hR := h.step h0 hse (j := m) (by omega) q2
   have hml : m < st.2.1.length := by rw [h.ml]; omega
   have hmR : m < st.1.length := by rw [h.inv.len]; omega
   have ih := fold_all h0 h1 hse d (m + 1) (stepR s st m) (by omega) hR (fun k k1 k2 k3 => by
    obtain ⟨a, b⟩ := hq k (by omega) k2 k3
    refine ⟨?_, b⟩
    rw [hst]
    show (rg (st.1.set m _) k).Epoch ≤ ep
    rw [rg_set _ _ _ _ hmR, if_neg (by omega)]
    exact a) j
   rw [ih, hst]
   show (if m + 1 ≤ j ∧ j < m + 1 + d ∧ Q j = true then (s.Log.length : Int) else (st.2.1.set m (s.Log.length : Int)).getD j 0) = _
   by_cases e : j = m
   ·subst e
    rw [if_neg (by omega), getD_set_eq _ _ _ _ hml, if_pos ⟨by omega, by omega, hp⟩]
   ·rw [getD_set_ne _ _ _ _ _ (Ne.symm e)]
    by_cases c : m + 1 ≤ j ∧ j < m + 1 + d ∧ Q j = true
    ·rw [if_pos c, if_pos ⟨by omega, by omega, c.2.2⟩]
    ·rw [if_neg c, if_neg (fun hh => c ⟨by omega, by omega, hh.2.2⟩)]
  ·rw [if_neg hp, fold_all h0 h1 hse d (m + 1) st (by omega) h (fun k k1 k2 k3 => hq k (by omega) k2 k3) j]
   by_cases c : m + 1 ≤ j ∧ j < m + 1 + d ∧ Q j = true
   ·rw [if_pos c, if_pos ⟨by omega, by omega, c.2.2⟩]
   ·rw [if_neg c, if_neg (fun hh => c ⟨by
     have : j ≠ m := fun e => by subst e; exact hp hh.2.2
     omega, by omega, hh.2.2⟩)]
theorem commit_iff {s : aRep} {M : List Int} {c : Int} {up : Nat} (hg : Good s (idx M) c) (hn : M.length ≤ 9) (h1n : 1 ≤ M.length) (hM : ∀ j, j < M.length → M.getD j 0 = 0 ∨ M.getD j 0 = (s.Log.length : Int)) (hup : M.countP (fun v => decide ((s.Log.length : Int) ≤ v)) = up)
  (hpos : 0 < s.Log.length) (hlast : (s.Log.getD (s.Log.length - 1) z_aEnt).Epoch = s.Epoch) (hcm : s.Commit < (s.Log.length : Int)) : c = (s.Log.length : Int) ↔ M.length < 2 * up := by
 have hMne : M ≠ [] := fun e => by rw [e] at h1n; simp at h1n
 obtain ⟨v, hv, _⟩ := index_eq 0 M hMne (by omega)
 have hidx := idx_med M hMne (by omega) hv
 have hcnt : cnt M (s.Log.length : Int) = up := hup
 have hval : ∀ x ∈ M, x = 0 ∨ x = (s.Log.length : Int) := fun x hx => by
  obtain ⟨j, hj, rfl⟩ := List.mem_iff_getElem.1 hx
  have := hM j hj
  simpa [List.getD_eq_getElem?_getD, hj] using this
 have hmaj : maj (M.length : Int) = (M.length : Int) / 2 + 1 := by unfold maj; rw [if_neg (by omega)]
 constructor
 ·intro hc
  -- the index is the log's length
  rcases hg.is with h1 | ⟨h1, h2, h3, h4, h5⟩
  ·omega
  ·have hvl : v = (s.Log.length : Int) := by
    rw [hidx] at h4
    rcases hval v hv.mem with e | e
    ·rw [e] at h4; simp at h4; omega
    ·exact e
   have := hv.ge
   rw [hvl, hcnt, hmaj] at this
   omega
 ·intro hmj
  have hvl : v = (s.Log.length : Int) := by
   rcases hval v hv.mem with e | e
   ·have := hv.lt (s.Log.length : Int) (by omega)
    rw [hcnt, hmaj] at this
    omega
   ·exact e
  have h2 := hg.most (s.Log.length : Int) hcm (by omega) (Int.le_refl _) (by rw [hidx, if_neg (by omega)]; omega) (by
   unfold Go.Proofs.YtmafcdkdcfaajaaGreat.ep
   rw [show ((s.Log.length : Int) - 1).toNat = s.Log.length - 1 from by omega]
   exact hlast)
  rcases hg.is with h1 | ⟨_, _, h3, _, _⟩
  ·omega
  ·omega
end Go.Proofs.YtmafcdkdcfaajaaGreat
