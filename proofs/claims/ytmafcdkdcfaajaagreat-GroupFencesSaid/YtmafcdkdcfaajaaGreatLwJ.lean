/- The law. -/
import Derived.Test.YtmafcdkdcfaajaaGreatLwI
set_option linter.unusedVariables false
set_option linter.unusedSimpArgs false
namespace Go.Proofs.YtmafcdkdcfaajaaGreat
open Eng
variable {R R' : List aRep} {ld ep : Int} {n w : Nat} {P : Log}
theorem common_drop : ∀ (xs ys : Log), common (xs.drop (common xs ys)) (ys.drop (common xs ys)) = 0
 | [], ys => by simp [common]
 | x :: xs, [] => by simp [common]
 | x :: xs, y :: ys => by
  by_cases h : x = y
  ·have e : common (x :: xs) (y :: ys) = common xs ys + 1 := by show (if x = y then _ else _) = _; rw [if_pos h]
   rw [e]
   simp only [List.drop_succ_cons]
   exact common_drop xs ys
  ·have e : common (x :: xs) (y :: ys) = 0 := by show (if x = y then _ else _) = _; rw [if_neg h]
   rw [e]
   exact e
theorem logB_over (s l : Log) : logB l (s.drop (common s l)) (common s l) = s ∨ (logB l (s.drop (common s l)) (common s l) = l ∧ s <+: l) := by
 have h1 := common_le s l
 have h2 := common_take s l
 have h3 := common_drop s l
 unfold logB
 rw [h3]
 generalize common s l = p at *
 by_cases h : 0 < (s.drop p).length ∧ p + 0 < l.length
 ·rw [if_pos h, ← h2, List.take_append_drop]; exact .inl rfl
 ·rw [if_neg h, List.drop_zero]
  by_cases hs : (s.drop p).length = 0
  ·right
   have hsd : s.drop p = [] := List.length_eq_zero_iff.1 hs
   rw [hsd, List.append_nil]
   refine ⟨rfl, ?_⟩
   rw [List.length_drop] at hs
   have : s.take p = s := List.take_of_length_le (by omega)
   rw [← this, h2]
   exact List.take_prefix _ _
  ·left
   have : l.take p = l := List.take_of_length_le (by omega)
   rw [← this, ← h2, List.take_append_drop]
theorem logB_nil (l : Log) (q : Nat) : logB l [] q = l := by
 unfold logB
 rw [if_neg (by simp)]
 simp
theorem commB_le (r : aRep) (p cm : Int) (k : Nat) : commB r p cm k = r.Commit ∨ commB r p cm k ≤ cm := by
 unfold commB
 dsimp only
 repeat' split
 all_goals first | exact .inl rfl | (right; omega)
theorem Inv.acc (h : Inv R ld ep n w P) (h0 : 0 ≤ ld) {j : Nat} (hj : j < n) (hjl : j ≠ ld.toNat) {s : aRep} (hs : rg R ld.toNat = s) (hse : s.Epoch = ep) {p : Nat} {es : Log}
  (hl : logB (rg R j).Log es p = s.Log ∨ (logB (rg R j).Log es p = (rg R j).Log ∧ s.Log <+: (rg R j).Log)) (hok : (accB s (rg R j) p es s.Commit).2 = 0) :
  Inv (R.set j (accB s (rg R j) p es s.Commit).1) ld ep n w P ∧ s.Log <+: (accB s (rg R j) p es s.Commit).1.Log := by
 unfold accB at hok ⊢
 have ha := accept_ok hok
 have heq := ha.eq
 have hlog : (acceptB (rg R j) s.Epoch (p : Int) (peB s p) es s.Commit).1.Log = logB (rg R j).Log es p := by rw [heq, Int.toNat_natCast]
 have hpre : s.Log <+: (acceptB (rg R j) s.Epoch (p : Int) (peB s p) es s.Commit).1.Log := by
  rw [hlog]
  rcases hl with h1 | ⟨h1, h2⟩
  ·rw [h1]; exact List.prefix_rfl
  ·rw [h1]; exact h2
 refine ⟨h.take h0 hj ha.right ?_ ?_ (by rw [heq]; exact hse) (by have := ha.epoch; omega) (fun he => ?_) hjl, hpre⟩
 ·rw [hs, hlog]
  rcases hl with h1 | ⟨h1, h2⟩
  ·exact .inl h1
  ·exact .inr ⟨h1, by rw [h1]; exact h2⟩
 ·rw [hs]
  have hc : (acceptB (rg R j) s.Epoch (p : Int) (peB s p) es s.Commit).1.Commit = commB (rg R j) (p : Int) s.Commit es.length := by rw [heq]
  rw [hc]
  exact commB_le _ _ _ _
 ·rw [heq]
  show (if s.Epoch > (rg R j).Epoch then -1 else (rg R j).Vote) = _
  rw [if_neg (by omega)]
structure RInv (s : aRep) (ld ep : Int) (n w : Nat) (P : Log) (st : RS) : Prop where
 inv : Inv st.1 ld ep n w P
 lead : rg st.1 ld.toNat = s
 ml : st.2.1.length = n
 m : ∀ j, j < n → st.2.1.getD j 0 = 0 ∨ (st.2.1.getD j 0 = (s.Log.length : Int) ∧ s.Log <+: (rg st.1 j).Log)
 held : ∀ j ∈ st.2.2, j < n ∧ j ≠ ld.toNat ∧ s.Log <+: (rg st.1 j).Log
theorem RInv.step {s : aRep} {st : RS} (h : RInv s ld ep n w P st) (h0 : 0 ≤ ld) (hse : s.Epoch = ep) {j : Nat} (hj : j < n) (hjl : j ≠ ld.toNat) : RInv s ld ep n w P (stepR s st j) := by
 unfold stepR
 split
 ·rename_i hok
  obtain ⟨g1, g2⟩ := h.inv.acc h0 hj hjl h.lead hse (logB_over s.Log (rg st.1 j).Log) hok
  have hjR : j < st.1.length := by rw [h.inv.len]; exact hj
  have hpre : ∀ k, s.Log <+: (rg st.1 k).Log → s.Log <+: (rg (st.1.set j (accB s (rg st.1 j) (common s.Log (rg st.1 j).Log) (s.Log.drop (common s.Log (rg st.1 j).Log)) s.Commit).1) k).Log := fun k hk => by
   rw [rg_set _ _ _ _ hjR]
   split
   ·exact g2
   ·exact hk
  refine ⟨g1, ?_, by simpa using h.ml, fun k hk => ?_, fun k hk => ?_⟩
  ·rw [rg_set _ _ _ _ hjR, if_neg (Ne.symm hjl)]; exact h.lead
  ·by_cases e : k = j
   ·subst e
    right
    refine ⟨getD_set_eq _ _ _ _ (by rw [h.ml]; exact hk), ?_⟩
    rw [rg_set _ _ _ _ hjR, if_pos rfl]
    exact g2
   ·rw [getD_set_ne _ _ _ _ _ (Ne.symm e)]
    rcases h.m k hk with h1 | ⟨h1, h2⟩
    ·exact .inl h1
    ·exact .inr ⟨h1, hpre k h2⟩
  ·simp only [List.mem_append, List.mem_singleton] at hk
   rcases hk with hk | rfl
   ·obtain ⟨q1, q2, q3⟩ := h.held k hk
    exact ⟨q1, q2, hpre k q3⟩
   ·refine ⟨hj, hjl, ?_⟩
    rw [rg_set _ _ _ _ hjR, if_pos rfl]
    exact g2
 ·exact h
theorem RInv.fold {s : aRep} (h0 : 0 ≤ ld) (hse : s.Epoch = ep) : ∀ (os : List Nat) (st : RS), (∀ j ∈ os, j < n ∧ j ≠ ld.toNat) → RInv s ld ep n w P st → RInv s ld ep n w P (os.foldl (stepR s) st)
 | [], st, _, h => h
 | j :: os, st, hos, h => by
  rw [List.foldl_cons]
  have hj := hos j List.mem_cons_self
  exact RInv.fold h0 hse os _ (fun k hk => hos k (List.mem_cons_of_mem _ hk)) (h.step h0 hse hj.1 hj.2)
theorem Inv.foldS {s : aRep} (h0 : 0 ≤ ld) (hse : s.Epoch = ep) : ∀ (os : List Nat) (R : List aRep), (∀ j ∈ os, j < n ∧ j ≠ ld.toNat ∧ s.Log <+: (rg R j).Log) → Inv R ld ep n w P → rg R ld.toNat = s → Inv (os.foldl (stepS s) R) ld ep n w P ∧ rg (os.foldl (stepS s) R) ld.toNat = s
 | [], R, _, h, hs => ⟨h, hs⟩
 | j :: os, R, hos, h, hs => by
  rw [List.foldl_cons]
  obtain ⟨q1, q2, q3⟩ := hos j List.mem_cons_self
  have hjR : j < R.length := by rw [h.len]; exact q1
  have hstep : Inv (stepS s R j) ld ep n w P ∧ rg (stepS s R j) ld.toNat = s ∧ ∀ k, s.Log <+: (rg R k).Log → s.Log <+: (rg (stepS s R j) k).Log := by
   unfold stepS
   split
   ·rename_i hok
    obtain ⟨g1, g2⟩ := h.acc h0 q1 q2 hs hse (.inr ⟨logB_nil _ _, q3⟩) hok
    refine ⟨g1, by rw [rg_set _ _ _ _ hjR, if_neg (Ne.symm q2)]; exact hs, fun k hk => ?_⟩
    rw [rg_set _ _ _ _ hjR]
    split
    ·exact g2
    ·exact hk
   ·exact ⟨h, hs, fun k hk => hk⟩
  exact Inv.foldS h0 hse os _ (fun k hk => by
   obtain ⟨a, b, c⟩ := hos k (List.mem_cons_of_mem _ hk)
   exact ⟨a, b, hstep.2.2 k c⟩) hstep.1 hstep.2.1
theorem countP_range_getD (M : List Int) (p : Int → Bool) : M.countP p = (List.range M.length).countP (fun j => p (M.getD j 0)) := by
 have h : M = (List.range M.length).map (fun j => M.getD j 0) := by
  apply List.ext_getElem
  ·simp
  ·intro j h1 h2
   simp [List.getD_eq_getElem?_getD, h1]
 conv => lhs; rw [h]
 rw [List.countP_map]
 rfl
theorem RInv.commit {s : aRep} {st : RS} (h : RInv s ld ep n w P st) (h0 : 0 ≤ ld) (hse : s.Epoch = ep) (hn : n ≤ 9) {c : Int} (hc : Good s (idx st.2.1) c) :
  ∃ P', P <+: P' ∧ Inv (st.1.set ld.toNat ⟨s.Epoch, s.Vote, c, s.Log⟩) ld ep n w P' ∧ rg (st.1.set ld.toNat ⟨s.Epoch, s.Vote, c, s.Log⟩) ld.toNat = ⟨s.Epoch, s.Vote, c, s.Log⟩ := by
 have hl : ld.toNat < n := by have := h.inv.ldn; omega
 have hlR : ld.toNat < st.1.length := by rw [h.inv.len]; exact hl
 have hlead : rg (st.1.set ld.toNat ⟨s.Epoch, s.Vote, c, s.Log⟩) ld.toNat = ⟨s.Epoch, s.Vote, c, s.Log⟩ := by rw [rg_set _ _ _ _ hlR, if_pos rfl]
 rcases hc.is with hc0 | ⟨c1, c2, c3, c4, c5⟩
 ·-- nothing new
  refine ⟨P, List.prefix_rfl, ?_, hlead⟩
  have : st.1.set ld.toNat (⟨s.Epoch, s.Vote, c, s.Log⟩ : aRep) = st.1 := by
   have e : (⟨s.Epoch, s.Vote, c, s.Log⟩ : aRep) = st.1[ld.toNat] := by
    rw [hc0]
    have := h.lead
    simp only [rg, List.getD_eq_getElem?_getD, List.getElem?_eq_getElem hlR, Option.getD_some] at this
    rw [this]
   rw [e]
   exact List.set_getElem_self hlR
  rw [this]
  exact h.inv
 ·have hMne : st.2.1 ≠ [] := fun e => by
   have := h.ml
   rw [e] at this
   simp at this
   omega
  have hMl : st.2.1.length ≤ 50 := by rw [h.ml]; omega
  obtain ⟨v, hv, _⟩ := index_eq 0 st.2.1 hMne hMl
  have hidx := idx_med st.2.1 hMne hMl hv
  have hv1 : 1 ≤ v ∧ idx st.2.1 = v := by
   rw [hidx] at c4 ⊢
   split at c4
   ·omega
   ·rename_i hh; rw [if_neg hh]; omega
  -- v is the length of the log
  have hvl : v = (s.Log.length : Int) := by
   obtain ⟨j, hj, hjv⟩ := List.mem_iff_getElem.1 hv.mem
   have hjn : j < n := by rw [← h.ml]; exact hj
   have hg : st.2.1.getD j 0 = v := by simp [List.getD_eq_getElem?_getD, hj, hjv]
   rcases h.m j hjn with h1 | ⟨h1, _⟩
   ·omega
   ·omega
  have hlpos : 0 < s.Log.length := by omega
  have hne : s.Log ≠ [] := List.length_pos_iff.1 hlpos
  have hok := h.inv.ok hl
  rw [h.lead] at hok
  -- the last entry is of the leader's epoch
  obtain ⟨x, hx, ex⟩ := lastL_of hne
  have hlast : lastL s.Log = ep := by
   have hcx : s.Log[c.toNat - 1]? = some (s.Log.getD (c.toNat - 1) z_aEnt) := by
    have : c.toNat - 1 < s.Log.length := by omega
    simp [List.getD_eq_getElem?_getD, this]
   have h5 : (s.Log.getD (c.toNat - 1) z_aEnt).Epoch = s.Epoch := by
    have : (c - 1).toNat = c.toNat - 1 := by omega
    unfold Go.Proofs.YtmafcdkdcfaajaaGreat.ep at c5
    rw [this] at c5
    exact c5
   have h6 := okL_sorted hok (i := c.toNat - 1) (k := s.Log.length - 1) (by omega) hcx hx
   have h7 := (okL_get (lo := 1) hok hx).2
   omega
  have hcl : c = (s.Log.length : Int) := by
   have h8 := hc.most (s.Log.length : Int) (by omega) (by omega) (Int.le_refl _) (by omega) (by
    unfold Go.Proofs.YtmafcdkdcfaajaaGreat.ep
    rw [show ((s.Log.length : Int) - 1).toNat = s.Log.length - 1 from by omega]
    have : s.Log.getD (s.Log.length - 1) z_aEnt = x := by rw [List.getD_eq_getElem?_getD, hx]; rfl
    rw [this]
    omega)
   omega
  have hmaj : Maj n (fun j => decide ((rg st.1 ld.toNat).Log <+: (rg st.1 j).Log)) := by
   rw [h.lead]
   have h9 := hv.ge
   unfold cnt at h9
   rw [countP_range_getD, h.ml] at h9
   have h10 : (List.range n).countP (fun j => decide (v ≤ st.2.1.getD j 0)) ≤ (List.range n).countP (fun j => decide (s.Log <+: (rg st.1 j).Log)) := List.countP_mono_left fun j hj hp => by
    simp only [decide_eq_true_eq] at hp ⊢
    rcases h.m j (List.mem_range.1 hj) with h1 | ⟨_, h1⟩
    ·omega
    ·exact h1
   unfold Maj
   unfold maj at h9
   split at h9 <;> omega
  have hcr : rightB (⟨s.Epoch, s.Vote, c, s.Log⟩ : aRep) = true := by
   have hr := h.inv.right _ hl
   rw [h.lead] at hr
   have hr2 := rightB_iff.1 hr
   exact rightB_iff.2 ⟨hr2.1, hr2.2.1, hr2.2.2.1, by dsimp only; omega, hr2.2.2.2.2⟩
  have hP := h.inv.j4 h0
  rw [h.lead] at hP
  refine ⟨s.Log, hP, ?_, hlead⟩
  have := h.inv.commit h0 (a := ⟨s.Epoch, s.Vote, c, s.Log⟩) (by rw [h.lead, hcl]) hcr (by rw [h.lead]; exact hne) (by rw [h.lead]; exact hlast) hmaj
  rw [h.lead] at this
  exact this
end Go.Proofs.YtmafcdkdcfaajaaGreat
