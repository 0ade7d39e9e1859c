/- The law. -/
import Derived.Test.YtmafcdkdcfaajaaGreatLwN
set_option linter.unusedVariables false
set_option linter.unusedSimpArgs false
namespace Go.Proofs.YtmafcdkdcfaajaaGreat
open Eng
variable {R R' : List aRep} {ld ep : Int} {n w : Nat} {P : Log}
theorem risingB_of {es : Log} {pe e : Int} (h : okL es (if (1 : Int) > pe then 1 else pe) e = true) (hle : pe ≤ e) : risingB es pe e = true := by
 rw [okL_rise hle] at h; exact h
theorem okL_drop {xs : Log} {top : Int} : ∀ {lo : Int} (p : Nat), okL xs lo top = true → okL (xs.drop p) (if p = 0 then lo else (xs.getD (p - 1) z_aEnt).Epoch) top = true := by
 induction xs with
 | nil => intro lo p h; simp [okL]
 | cons x xs ih =>
  intro lo p h
  cases p with
  | zero => simpa using h
  | succ p =>
   rw [List.drop_succ_cons, if_neg (by omega)]
   unfold okL at h
   simp only [Bool.and_eq_true, decide_eq_true_eq] at h
   have := ih p h.2.2
   cases p with
   | zero => simpa using this
   | succ p => simpa using this
theorem accept_all (h : Inv R ld ep n w P) (h0 : 0 ≤ ld) (h1 : 1 ≤ ep) {j : Nat} (hj : j < n) {s : aRep} (hs : rg R ld.toNat = s) (hse : s.Epoch = ep) (hje : (rg R j).Epoch ≤ ep) :
  (accB s (rg R j) (common s.Log (rg R j).Log) (s.Log.drop (common s.Log (rg R j).Log)) s.Commit).2 = 0 := by
 have hl : ld.toNat < n := by have := h.ldn; omega
 have hsr := rightB_iff.1 (h.right _ hl)
 rw [hs] at hsr
 have hjr := rightB_iff.1 (h.right _ hj)
 have hc := common_le s.Log (rg R j).Log
 have hct := common_take s.Log (rg R j).Log
 have hcd := common_drop s.Log (rg R j).Log
 -- what the replica has committed is the leader's as well
 have hcm : (rg R j).Commit.toNat ≤ common s.Log (rg R j).Log := by
  have c := h.cm hj
  have h1 := (h.takeP hj)
  have h2 := h.j4 h0
  rw [hs] at h2
  refine common_ge _ ?_ (by have := h2.length_le; omega) c.2.1
  rw [h1.1]
  obtain ⟨t, ht⟩ := h2
  rw [← ht, List.take_append_of_le_length h1.2]
 generalize hp : common s.Log (rg R j).Log = p at *
 have hpe : 0 ≤ peB s p ∧ peB s p ≤ ep ∧ ((p = 0 ∧ peB s p = 0) ∨ (p ≠ 0 ∧ 1 ≤ peB s p)) := by
  unfold peB
  by_cases e : p = 0
  ·rw [if_pos e]; omega
  ·rw [if_neg e]
   have hx : s.Log[p - 1]? = some (s.Log.getD (p - 1) z_aEnt) := by
    have : p - 1 < s.Log.length := by omega
    simp [List.getD_eq_getElem?_getD, this]
   have := okL_get (lo := 1) hsr.2.2.2.2 hx
   omega
 have hsuit : suitsB (rg R j) s.Epoch (p : Int) (peB s p) (s.Log.drop p) s.Commit = true := by
  refine suitsB_iff.2 ⟨h.right j hj, by omega, by omega, hpe.1, ?_, by omega, ?_⟩
  ·rcases hpe.2.2 with ⟨e1, e2⟩ | ⟨e1, e2⟩
   ·rw [e2, decide_eq_true (by omega), decide_eq_true rfl]; rfl
   ·rw [decide_eq_false (by omega), decide_eq_false (by omega)]; rfl
  ·refine risingB_of ?_ (by omega)
   have := okL_drop p hsr.2.2.2.2
   unfold peB
   by_cases e : p = 0
   ·rw [if_pos e] at this; rw [if_pos e]; simpa using this
   ·rw [if_neg e] at this; rw [if_neg e]
    have h2 := hpe.2.2
    unfold peB at h2
    rw [if_neg e] at h2
    rw [if_neg (by omega)]
    exact this
 unfold accB acceptB
 rw [if_pos hsuit, if_neg (by omega), if_neg (by omega), if_neg (fun hh => ?_), if_neg (fun hh => ?_), if_neg (by rw [List.length_drop]; omega)]
 ·rw [Int.toNat_natCast, hcd] at hh
  have := h.cm hj
  omega
 ·-- the entry ahead
  obtain ⟨hp0, hne⟩ := hh
  apply hne
  have e : p ≠ 0 := by omega
  unfold peB
  rw [if_neg e, show ((p : Int) - 1).toNat = p - 1 from by omega]
  have : (rg R j).Log.take p = s.Log.take p := hct.symm
  have g1 : ((rg R j).Log.take p).getD (p - 1) z_aEnt = (rg R j).Log.getD (p - 1) z_aEnt := by
   rw [List.getD_eq_getElem?_getD, List.getD_eq_getElem?_getD, List.getElem?_take, if_pos (by omega)]
  have g2 : (s.Log.take p).getD (p - 1) z_aEnt = s.Log.getD (p - 1) z_aEnt := by
   rw [List.getD_eq_getElem?_getD, List.getD_eq_getElem?_getD, List.getElem?_take, if_pos (by omega)]
  rw [← g1, this, g2]
end Go.Proofs.YtmafcdkdcfaajaaGreat
