/- The law. -/
import Derived.Test.YtmafcdkdcfaajaaGreatLwP
set_option linter.unusedVariables false
set_option linter.unusedSimpArgs false
namespace Go.Proofs.YtmafcdkdcfaajaaGreat
open Eng
variable {R R' : List aRep} {ld ep : Int} {n w : Nat} {P : Log}
theorem propose_err (K : Nat) (R : List aRep) (U : List Bool) (ld ep i e : Int) (d : List UInt8) (l : List Int) (hl : l.length ≤ 30) (hK : 100000 ≤ K) : ∃ x, group_Propose K ⟨R, U, ld, ep⟩ i e d l = some x ∧ ProposeOf R U ld ep i e d l x ∧ (leadsB R U ld ep i e l ≠ 0 → x.2.2.2 = leadsB R U ld ep i e l) := by
 obtain ⟨x, y, hx, _, _, ho⟩ := propose_both K R U ld ep i e d l hl hK
 refine ⟨x, hx, ho, fun h0 => ?_⟩
 unfold group_Propose at hx
 rw [leads_eq K _ _ _ _ _ _ _ hl (by omega)] at hx
 simp only [Option.bind_some, if_pos h0] at hx
 cases hx
 rfl
def upQ (U : List Bool) (ld : Int) (j : Nat) : Bool := decide ((j : Int) ≠ ld) && U.getD j false
theorem Pb_up (U : List Bool) (ld : Int) (n j : Nat) (hj : j < n) : Pb U ld (castL (fl (upQ U ld) n 0)) j = upQ U ld j := by
 unfold Pb
 have hm : ((j : Int) ∈ castL (fl (upQ U ld) n 0)) ↔ upQ U ld j = true := by
  unfold castL
  rw [List.mem_map]
  constructor
  ·rintro ⟨k, hk, e⟩
   have : k = j := by omega
   subst this
   exact ((fl_mem _ _ _).1 hk).2.2
  ·intro h
   exact ⟨j, (fl_mem _ _ _).2 ⟨by omega, by omega, h⟩, rfl⟩
 by_cases h : upQ U ld j = true
 ·rw [decide_eq_true (hm.2 h), Bool.and_true, Bool.and_comm]
  rfl
 ·have h2 : ¬ ((j : Int) ∈ castL (fl (upQ U ld) n 0)) := fun hh => h (hm.1 hh)
  rw [decide_eq_false h2, Bool.and_false, Bool.and_false]
  simp only [Bool.not_eq_true] at h
  exact h.symm
theorem propose_done (h : Inv R ld ep n w P) (hn : n ≤ 9) {U : List Bool} (hU : U.length = n) {d : List UInt8} {x : group_Group × Int × Bool × Int} (hx : ProposeOf R U ld ep ld ep d (castL (fl (upQ U ld) n 0)) x) (hx0 : x.2.2.2 = 0) :
  x.2.2.1 = decide (n < 2 * (1 + (fl (upQ U ld) n 0).length)) := by
 rcases hx with hx | ⟨_, hl, a, R', hA, hr, _, hok⟩
 ·exact absurd hx0 hx
 obtain ⟨z1, z2, _, _, z5, z6⟩ := leads_zero hl
 obtain ⟨hb, hf, _⟩ := suitB_spec z1
 have h0 : 0 ≤ ld := hb.2.2.2.1
 obtain ⟨b1, b2, b3⟩ := leadB_ok hA
 have hRn := h.len
 have hlR : ld.toNat < R.length := by omega
 have hln : ld.toNat < n := by omega
 have ha : a = ⟨(rg R ld.toNat).Epoch, (rg R ld.toNat).Vote, (rg R ld.toNat).Commit, (rg R ld.toNat).Log ++ [⟨ep, d⟩]⟩ := b1
 have hi := h.append h0 (a := a) (d := d) z5 ha b3
 obtain ⟨s, st, c, hs, hst, hg, hR'⟩ := hr
 have hget : rg (R.set ld.toNat a) ld.toNat = a := by rw [rg_set _ _ _ _ hlR, if_pos rfl]
 have hsa : s = a := hs.trans hget
 subst hsa
 have hse : s.Epoch = ep := by rw [ha]; exact z5
 have hsl : s.Log.length = (rg R ld.toNat).Log.length + 1 := by rw [ha]; simp
 have hsc : s.Commit = (rg R ld.toNat).Commit := by rw [ha]
 have hlx : s.Log[s.Log.length - 1]? = some ⟨ep, d⟩ := by
  rw [hsl, Nat.add_sub_cancel]
  have : s.Log = (rg R ld.toNat).Log ++ [⟨ep, d⟩] := by rw [ha]
  rw [this, List.getElem?_append_right (Nat.le_refl _)]
  simp
 have h1 : 1 ≤ ep := (okL_get (lo := 1) (rightB_iff.1 b3).2.2.2.2 hlx).1
 rw [List.length_set, hRn] at hst
 have hM : ((List.replicate (Int.toNat (n : Int)) (0 : Int)).set ld.toNat (s.Log.length : Int)).length = n := by simp
 have hM0 : ∀ j, j < n → ((List.replicate (Int.toNat (n : Int)) (0 : Int)).set ld.toNat (s.Log.length : Int)).getD j 0 = if j = ld.toNat then (s.Log.length : Int) else 0 := fun j hj => by
  by_cases e : j = ld.toNat
  ·rw [if_pos e, e]; exact getD_set_eq _ _ _ _ (by simp; exact hln)
  ·rw [if_neg e, getD_set_ne _ _ _ _ _ (Ne.symm e)]
   simp [List.getD_eq_getElem?_getD, List.getElem?_replicate]
   split <;> rfl
 have hinit : RInv s ld ep n w P (R.set ld.toNat s, (List.replicate (Int.toNat (n : Int)) (0 : Int)).set ld.toNat (s.Log.length : Int), []) := {
  inv := hi
  lead := hget
  ml := hM
  m := fun j hj => by
   show ((List.replicate (Int.toNat (n : Int)) (0 : Int)).set ld.toNat (s.Log.length : Int)).getD j 0 = 0 ∨ _
   rw [hM0 j hj]
   by_cases e : j = ld.toNat
   ·right
    rw [if_pos e, e]
    exact ⟨rfl, by show s.Log <+: (rg (R.set ld.toNat s) ld.toNat).Log; rw [hget]; exact List.prefix_rfl⟩
   ·left; rw [if_neg e]
  held := fun j hj => by cases hj }
 have hne : ∀ j, Pb U ld (castL (fl (upQ U ld) n 0)) j = true → j ≠ ld.toNat := fun j hj e => by have := Pb_ne hj; omega
 have hqe : ∀ j, 0 ≤ j → j < n → Pb U ld (castL (fl (upQ U ld) n 0)) j = true → (rg (R.set ld.toNat s) j).Epoch ≤ ep ∧ j ≠ ld.toNat := fun j _ hj hp => by
  refine ⟨?_, hne j hp⟩
  rw [rg_set _ _ _ _ hlR, if_neg (hne j hp)]
  unfold newerB at z6
  rw [hRn] at z6
  have := List.any_eq_false.1 z6 j ((fl_mem _ _ _).2 ⟨by omega, by omega, hp⟩)
  simp only [decide_eq_true_eq] at this
  show (R.getD j ZR).Epoch ≤ ep
  omega
 have hall := fold_all h0 h1 hse n 0 _ (by omega) hinit hqe
 have hfold := RInv.fold h0 hse (fl (Pb U ld (castL (fl (upQ U ld) n 0))) n 0) _ (fun j hj => by
  have := (fl_mem _ _ _).1 hj
  exact ⟨by omega, hne j this.2.2⟩) hinit
 rw [← hst] at hall hfold
 have hMl := hfold.ml
 have hval : ∀ j, j < n → st.2.1.getD j 0 = if j = ld.toNat ∨ upQ U ld j = true then (s.Log.length : Int) else 0 := fun j hj => by
  rw [hall j, Pb_up U ld n j hj]
  by_cases hp : upQ U ld j = true
  ·rw [if_pos ⟨by omega, by omega, hp⟩, if_pos (.inr hp)]
  ·rw [if_neg (fun hh => hp hh.2.2)]
   show ((List.replicate (Int.toNat (n : Int)) (0 : Int)).set ld.toNat (s.Log.length : Int)).getD j 0 = _
   rw [hM0 j hj]
   by_cases e : j = ld.toNat
   ·rw [if_pos e, if_pos (.inl e)]
   ·rw [if_neg e, if_neg (fun hh => hh.elim e hp)]
 have hcnt : st.2.1.countP (fun v => decide ((s.Log.length : Int) ≤ v)) = 1 + (fl (upQ U ld) n 0).length := by
  rw [countP_range_getD, hMl]
  have e1 : (List.range n).countP (fun j => decide ((s.Log.length : Int) ≤ st.2.1.getD j 0)) = (List.range n).countP (fun j => decide (j = ld.toNat) || upQ U ld j) := by
   refine List.countP_congr fun j hj => ?_
   have hjn := List.mem_range.1 hj
   simp only [decide_eq_true_eq, Bool.or_eq_true]
   rw [hval j hjn]
   split
   ·rename_i hh; simp [hh]
   ·rename_i hh
    constructor
    ·intro h3; omega
    ·intro h3; exact absurd h3 hh
  have hq0 : upQ U ld ld.toNat = false := by unfold upQ; rw [decide_eq_false (by omega), Bool.false_and]
  rw [e1, List.range_eq_range', countP_or_one (upQ U ld) ld.toNat hq0 n 0 (by omega) (by omega), ← fl_countP]
  omega
 have hiff := commit_iff (s := s) (M := st.2.1) (c := c) hg (by omega) (by omega) (fun j hj => by
  rw [hval j (by omega)]
  split
  ·exact .inr rfl
  ·exact .inl rfl) hcnt (by omega) (by
   have : s.Log.getD (s.Log.length - 1) z_aEnt = ⟨ep, d⟩ := by rw [List.getD_eq_getElem?_getD, hlx]; rfl
   rw [this]; exact hse.symm) (by have := h.cm hln; omega)
 -- the leader behind
 have hlst : ld.toNat < st.1.length := by rw [hfold.inv.len]; exact hln
 have hlead : R'.getD ld.toNat ZR = ⟨s.Epoch, s.Vote, c, s.Log⟩ := by
  rw [hR']
  split
  ·exact getD_set_eq _ _ _ _ hlst
  ·have hsf : ∀ r ∈ st.1.set ld.toNat (⟨s.Epoch, s.Vote, c, s.Log⟩ : aRep), Fit r := fit_set (fun r hr => by
    obtain ⟨j, hj, rfl⟩ := List.mem_iff_getElem.1 hr
    have := hfold.inv.right j (by rw [← hfold.inv.len]; exact hj)
    simp only [rg, List.getD_eq_getElem?_getD, List.getElem?_eq_getElem hj, Option.getD_some] at this
    exact rightB_fit this) (by
     have := rightB_fit b3
     exact this)
   rw [(stepS_inv st.2.2 _ hsf).2 ld.toNat (fun hm => (hfold.held _ hm).2.1 rfl)]
   exact getD_set_eq _ _ _ _ hlst
 rw [hok, hlead]
 simp only [decide_eq_decide]
 rw [hMl] at hiff
 exact hiff
end Go.Proofs.YtmafcdkdcfaajaaGreat
